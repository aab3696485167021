/- the reading of a grammar, its counts, and what is drawn: lemmas -/
import Derived.Test.YtaagompdgiobeaaGreatDoorJ05
set_option linter.all false
set_option maxHeartbeats 1500000
set_option maxRecDepth 100000
namespace Go.Proofs.YtaagompdgiobeaaGreatDoor
open Go.RowKit Go.Proofs.Tryz
open Go.Value renaming slice→K,slice→aK,int→aI,bool→aB,pointer→aP,string→aS,agg→aG open Go.IntKind renaming i64→aJ open Go.Obj renaming cells→aC open Go.Ending renaming returned→aR open List renaming length→Q,length→aQ open Option renaming none→aN
section
variable{w':World}{S:Nat->Prop}{g n:Nat}{ts:List ((List Int × Nat) × Nat)}{l:List Int}
def tr_rule{R:World}{k:CH}{h:GH}{G:Gr}(hP:Xq G)(hg:Yf R h G)(h2:h.n2<=100)(h3:h.n3<=100){M n0 i:Nat}{s0:Int}{x:Rul}(Y:G.U[i]? = some x)(cs:Zp s0=x.L.toNat)(hM:mu G n0 s0=M)(fj:n0<=100)(hT:∀(q:Int) (m:Nat),(q<0->Zp q<(Q G.O)/\mu G m q<M)->m<=n0->Zw5 R k h G q m):
 ∀(c d m:Nat),(Q x.rt)-d=c->d<=(Q x.rt)->m<=n0->(m=n0->∀(p:Nat) s,p<d->x.rt[p]? = some s->Xg (Zj G) s=true)->RuleC R k h G x i d m:=by
 have e2:(Q G.O)=h.n2:=hg.O.len;have e3:(Q G.U)=h.n3:=hg.U.len;have k3:=hg.U.cap;have az:=AM Y;have hi:i<h.n3:=by rw[<-e3];exact (AN.1 Y).1
 obtain⟨rb,d8,o,Ar,cr,dp,cq,dg,q0,q1,q2,dx⟩:=hg.U.get hi;have dy:o=x:=by have:=dg.out;rw[Y] at this;exact (BM this).symm
 subst dy;have fk:(Q o.rt)<=100:=by have:=hP.fits.len o az;omega
 have cw:∀s∈o.rt,-(h.n2:Int)<=s/\s<=1000:=λs hs=>by have:=hP.fits.sym o az s hs;have:=hP.fits.n1;omega
 have cc:(Zj G).length=h.n2:=by rw[Qe,Qq];exact e2
 have step:∀(d m:Nat),d<=(Q o.rt)->m<=n0->(m=n0->∀(p:Nat) s,p<d->o.rt[p]? = some s->Xg (Zj G) s=true)->
  (d<(Q o.rt)->∀m',m'<=n0->(m'=n0->∀(p:Nat) s,p<d+1->o.rt[p]? = some s->Xg (Zj G) s=true)->RuleC R k h G o i (d+1) m')->RuleC R k h G o i d m:=by
  intro d m hd X r cb S w C hS;obtain⟨At,cu,bb⟩:=D6 dx hd;have aw:(Q o.rt)-d=(o.rt.drop d).length:=by rw[CJ]
  rw[aw] at cu bb;have fh:(o.rt.drop d).length<=100:=by rw[<-aw];omega
  have fb:=LH aw;clear aw;obtain⟨a8,b2,T,b4⟩:=Cy w 155 261 154 #[aP (some ⟨k.c,0,aN⟩)] #[aI aJ (i:Int),aI aJ (d:Int),aI aJ (m:Int)] #[K aN 0 0,aB false];have au:=C.more a8 (DC w 2);have ce:Off k.maps w (((w.alloc (aC #[aP (some ⟨k.c,0,aN⟩)] 155)).alloc (aC #[aI aJ (i:Int),aI aJ (d:Int),aI aJ (m:Int)] 261)).alloc (aC #[K aN 0 0,aB false] 154)):=Off.of_below a8;have cm:R.heap.size<=w.heap.size+2:=BC C.base.size (DC _ _);have HS:=LH hS;have bx:=LH r;have c9:=LH cb;have HT:=LH hT;have Hx:=LH Y;have HP:=LH hP;have di:=LH cw;have da:=LH cc;have bz:=LH az;have dh:=LH cs;have HM:=LH hM;have c7:=LH bb;unfold kF;go_enter func222,ntmps222;go_upto_region 1 with fail;generalize ((w.alloc (aC #[aP (some ⟨k.c,0,aN⟩)] 155)).alloc (aC #[aI aJ (i:Int),aI aJ (d:Int),aI aJ (m:Int)] 261)).alloc (aC #[K aN 0 0,aB false] 154)=t at *;obtain⟨fs,hf⟩:=au.forts;have W:=hf.look (i:=i) (d:=d) (n:=m) Y AA AA AA;unfold kF at W;obtain⟨am,_,_,_,_,bh⟩:=au.cells;have a3:=LH au;have a5:=LH ce;have bj:=LH b2;have bk:=LH T;have a2:=LH b4;have L:=b2.lt;have N:=T.lt;have l4:=b4.lt;have p0:=b2.cell 0;have t0:=T.cell 0;have t1:=T.cell 1;have O:=T.cell 2;clear hP Y cs hM hT cc az r cb hS bb C au ce b2 T b4 a8 hf cw;rcases W with ⟨bv,W,hv⟩ | W
  ·obtain⟨Av,nv,cv,dv,cj,cz⟩:=hv;have H:=Yt t;refine Zs AB AB ?_;repeat (go_big_quiet_step (fail))
   refine BJ ?_;rintro _⟨y,rfl⟩;have a:=Zr t y;have D:=LH (a3.out.below a);have ae:=LH (a5.out.maps_trans (Off.of_below a));have g:=a2.out.ext a;have av:=cj.ext a;have dd:=LH (cz.below a);have aj:=LH (Uw (S':=S) D.out g dd.out ae.out (.inr rfl) cm (DC _ _) λq A => .inl A);have c0:=g.cell 0;have c1:=g.cell 1;have f0:=g.frozen 0;have f1:=g.frozen 1;have l5:=g.lt;have v0:=av.cell 0;have v1:=av.cell 1;have l6:=av.lt;clear W cj cz H a g av p0 t0 t1 O L N l4 D ae;generalize bl t y=v at *;go_wp2_with fail;refine AW (AX (p:=4) AB _ _ (w.heap.size+2) 154 #[K Av nv cv,aB dv] (0,0) _ rfl aj.out.1 underlying154 rfl AB) rfl ?_;exact aj.out.2
  have H:=Yt t;refine Zs AB AB ?_;repeat (go_big_quiet_step (fail))
  refine BJ ?_;rintro _⟨y,rfl⟩;have a:=Zr t y;have D:=LH (a3.out.below a);have ae:=LH (a5.out.maps_trans (Off.of_below a));have u:=bj.out.ext a;have l:=bk.out.ext a;have g:=a2.out.ext a;have bt:=LH u;have bu:=LH l;have ah:=LH g;clear W H a am bh p0 t0 t1 O L N l4 a3 a5 bj bk a2;generalize bl t y=v at *;have L:=u.lt;have N:=l.lt;have l4:=g.lt;have p0:=u.cell 0;have t0:=l.cell 0;have t1:=l.cell 1;have O:=l.cell 2;obtain⟨am,_,c2,_,_,_⟩:=D.out.cells;rw[dp] at c2;have a9:=D.out.base;have dw:rb<v.heap.size:=AK cq a9.size;have d7:=(a9.cell (p:=⟨rb,d8+i*3+1,aN⟩) cq).trans q1;clear u l g a9;go_upto_region 4 with fail;have H:=Yt v;refine Zs AB AB ?_;repeat (go_big_quiet_step (fail))
  refine BJ ?_;rintro _⟨y,rfl⟩;have a:=Zr v y;have z:=LH (D.out.below a);have ap:=LH (ae.out.maps_trans (Off.of_below a));have u:=bt.out.ext a;have l:=bu.out.ext a;have g:=ah.out.ext a;have af:=LH u;have ag:=LH l;have ai:=LH g;clear cu H a am c2 p0 t0 t1 O L N l4 D ae bt bu ah d7 dw;generalize bl v y=W3 at *;have L:=u.lt;have N:=l.lt;have p0:=u.cell 0;have O:=l.cell 2;have ch:∀b,(S b\/b=w.heap.size+2)->b<W3.heap.size:=λb r=>by
   rcases r with r | rfl
   ·exact AK (HS.out b r) ap.out.size
   exact g.lt
  have CS:=(Zwe HP.out 238 #[aP (some ⟨w,0,aN⟩),aP (some ⟨w+1,0,aN⟩)] enters_crule1 At (cr-d) (o.rt.drop d) m W3 z.out ch c7.out da.out (λs hs=>di.out s (List.mem_of_mem_drop hs)) AA AA AA
   (λs l' hl j hj=>by
     obtain⟨A,rfl,ay⟩:=Zvk hl;exact HT.out s j (λct=>⟨InG.rule HP.out.fits bz.out s (AM A) ct,by have:=Zvg HP.out bz.out A ct X bx.out hj dh.out;rw[HM.out] at this;exact this⟩) AA)
   (λs l' hl j hj d0=>by
     obtain⟨A,rfl,ay⟩:=Zvk hl;intro S' w' C' dn cd;exact tr_rule1 o i d m (m-j) _ _ w' C' dn (cd.blk af.out (z.out.not_map af.out)) (cd.blk ag.out (z.out.not_map ag.out)) (c9.out ay (m-j) AA (rule_next HP.out A X AA bx.out d0)) AA))
  rw[CJ] at CS;have CS:=LH CS;clear u l g ch;go_wp2_with fail;(with_reducible refine CS.out.mono ?_);rintro e B⟨b7,J,P,Z,U,V,rfl,cx⟩;have I:=Zy B (aC #[K P Z U,aB V] 154);have b9:=Blk.new B 154 #[K P Z U,aB V];have ba:=b7.below I;have cf:=(ap.out.maps_trans J).maps_trans (Off.of_below I);have u:=(J.blk af.out (z.out.not_map af.out)).ext I;have l:=(J.blk ag.out (z.out.not_map ag.out)).ext I;have g:=(J.blk ai.out (z.out.not_map ai.out)).ext I;have cy:=cx.below I;have fi:w.heap.size+2<B.heap.size:=(J.blk ai.out (z.out.not_map ai.out)).lt;have ds:∀b,S b->b<B.heap.size:=λb r=>AK (HS.out b r) (BC ap.out.size J.size);go_upto_region 6 with fail;generalize B.alloc (aC #[K P Z U,aB V] 154)=E at *;have dt:¬(S B.heap.size\/B.heap.size=w.heap.size+2):=by
   rintro (r | r)
   ·exact Nat.lt_irrefl _ (ds _ r)
   omega
  generalize B.heap.size=g7 at *;obtain⟨am,_,_,_,_,bh⟩:=ba.cells;have L:=u.lt;have N:=l.lt;have p0:=u.cell 0;have t0:=l.cell 0;have t1:=l.cell 1;have O:=l.cell 2;have bm:=LH ba;have bp:=LH cf;have ah:=LH g;have bo:=LH b9;have br:=LH cy;clear b7 J cx I b9 ba cf u l g cy CS z ap af ag ai;have H:=Yt E;refine Yx 5 AB AB ?_;simp only[List.take_succ_cons,List.take_zero,List.drop_succ_cons,Ed];repeat (go_big_quiet_step (fail))
  refine BJ ?_;rintro _⟨y,rfl⟩;have a:=Zr E y;have ad:=LH (bm.out.below a);have db:=LH (bp.out.maps_trans (Off.of_below a));have bw:=LH (ah.out.ext a);have a4:=LH (bo.out.ext a);have bs:=LH (br.out.below a);clear a H bm bp ah bo br p0 t0 t1 O am bh L N;generalize bl E y=W6 at *;obtain⟨fe,bd⟩:=ad.out.forts;have be:U4 prog 261 (kF i d m):=Zsn AA AA AA;unfold kF at be;have cl:=bd.few;have bn:=LH bd;have df:=LH be;have de:=LH cl;clear bd be cl;go_wp2_with (
               at_mapUpdate;refine D7 _ rfl _ _ _ 209 rfl 258 k.f g7 Tryz.keyKF underlying209 bn.out.map de.out (aG #[aI aJ (i:Int),aI aJ (d:Int),aI aJ (m:Int)]) df.out rfl rfl rfl ?_;intro w7 cp cn
               obtain⟨b8,ak⟩:=ad.out.putF bn.out Hx.out AA AA AA ⟨P,Z,U,V,a4.out,bs.out⟩ dt cp cn;have F:=ak.blk bw.out (ad.out.not_map bw.out);have G7:=ak.blk a4.out (ad.out.not_map a4.out);have V7:=bs.out.kept (ad.out.keep ak);have aj:=LH (Uw (S':=S) b8 F V7 (db.out.maps_trans ak) (.inr rfl) cm (DC _ _) λq A => .inl A);have c0:=F.cell 0;have c1:=F.cell 1;have f0:=F.frozen 0;have f1:=F.frozen 1;have l5:=F.lt;have v0:=G7.cell 0;have v1:=G7.cell 1;have l6:=G7.lt;clear b8 ak F G7 V7 cp cn)
  refine AW (AX (p:=4) AB _ _ (w.heap.size+2) 154 #[K P Z U,aB V] (0,0) _ rfl aj.out.1 underlying154 rfl AB) rfl ?_;exact aj.out.2
 intro c
 induction c with
 | zero =>
   intro d m hc hd X r;exact step d m hd X r λay=>AA
 | succ c ih =>
   intro d m hc hd X r;exact step d m hd X r λay m' du dq=>ih (d+1) m' AA AA du dq
theorem tr_tree{W0:World}{k:CH}{h:GH}{G:Gr}(hP:Xq G)(hg:Yf W0 h G)(h2:h.n2<=100)(h3:h.n3<=100):∀(M n:Nat) (s:Int),(s<0->Zp s<G.O.length/\mu G n s=M)->n<=100->Zw5 W0 k h G s n:=by
 have e2:G.O.length=h.n2:=hg.O.len;have e3:G.U.length=h.n3:=hg.U.len;have k3:=hg.U.cap;have f8:(Zj G).length=h.n2:=by rw[Qe,Qq];exact e2
 have hr:=hP.fits.n2;intro M
 induction M using Nat.strongRecOn with
 | ind M ih =>
 intro n s hs hn;by_cases h0:0<=s
 case pos=>exact Di h0 hn
 intro S w C hS;have fb:=Zy w (.cells #[.slice none 0 0,.bool false] 154);have b2:=Blk.new w 154 #[.slice none 0 0,.bool false];have f7:=C.more fb (AJ w);have f9:Off k.maps w (w.alloc (.cells #[.slice none 0 0,.bool false] 154)):=Off.of_below fb;have b3:=C.base.size;have HS:=LH hS;have HP:=LH hP;have Hg:=LH hg;have f3:=LH ih;have gl:=LH f8;clear hS hg ih f8;go_enter func205,ntmps205;go_upto_region 1 with fail;generalize w.alloc (.cells #[.slice none 0 0,.bool false] 154)=W1 at *;have bh:=LH f7;have bp:=LH b2;have ch:=LH f9;have l1:=b2.lt;have c0:=b2.cell 0;have c1:=b2.cell 1;have f0:=b2.frozen 0;have f1:=b2.frozen 1;clear f7 b2 f9 fb C;have be:s<0:=AA
 obtain⟨gf,ge⟩:=hs be;obtain⟨j,hj,dh,hw⟩:=Vy (s:=s) (n:=h.n2) be (by unfold Zp at gf;omega) AA;have gb:=Z8.at bh.out.nul (i:=j) (by rw[gl.out];exact hj);obtain⟨F,gj,_,gi,_,_⟩:=bh.out.cells;have d5:Hid ((Zj G).getD j false=false->Zv G s 0=0):=LH λhz=>by
  apply DU;intro fk;have:=Jw HP.out fk;unfold Xg at this;rw[dh,hz] at this;simp at this
 have f4:=LH ge;have bd:=LH gf;clear hs hP ge;generalize (Zj G).getD j false=z at *;by_cases hz:n=0/\z=false
 case pos =>
  obtain⟨rfl,rfl⟩:=hz;have cm:Hid (Zv G s 0=0):=d5.out rfl;have gc:=LH (Uw (S':=S) bh.out bp.out (Z1.zero _ none 0 AA) ch.out (.inr rfl) b3 (AJ _) λq hq => .inl hq);go_wp2_with fail;refine AW (AX (p:=6) AB _ _ w 154 #[.slice none 0 0,.bool false] (0,0) _ rfl gc.out.1 underlying154 rfl AB) rfl ?_;rw[cm.out];exact gc.out.2
 have hm:Hid (∀q:Nat,q<=h.n3->True):=LH λ_ _=>trivial;rcases (by cases z <;> simp at hz <;> simp[hz] <;> omega:(n≠0)\/(n=0/\z=true)) with hn0 | ⟨rfl,rfl⟩
 ·have hu:((n:Int)==0)=false:=by rw[AR];omega
  clear hz d5 hn0;go_upto_region 6 with fail;have a6:=Zy W1 (.cells #[.int .i64 s,.int .i64 (n:Int)] 257);have an:=Blk.new W1 257 #[.int .i64 s,.int .i64 (n:Int)];have gw:w.heap.size<W1.heap.size:=bp.out.lt;have af:=LH (bh.out.below a6);have bk:=LH (ch.out.maps_trans (Off.of_below a6));have br:=LH (bp.out.ext a6);clear c0 c1 f0 f1 l1 gb F gj gi a6 bp bh ch;generalize W1.alloc (.cells #[.int .i64 s,.int .i64 (n:Int)] 257)=x at *;generalize W1.heap.size=I at *;have cf:=LH an;obtain⟨ts,ht⟩:=af.out.trees;have J:=ht.look s n be (by have:=bd.out;omega) AA;unfold kT at J;try simp only[Int.ofNat_zero,Int.natCast_zero] at J
  obtain⟨F,_,_,_,a7,_⟩:=af.out.cells;have y0:=an.cell 0;have y1:=an.cell 1;have yl:=an.lt;clear an ht;rcases J with ⟨bv,J,hv⟩ | J
  ·obtain⟨Av,nv,cv,dv,dc,dj⟩:=hv;have bc:=Yt x;refine Zs AB AB ?_;repeat (go_big_quiet_step (fail))
   refine BJ ?_;rintro _⟨y,rfl⟩;have m:=Zr x y;have H:=br.out.ext m;have a4:=dc.ext m;have ag:=LH (Uw (S':=S) (af.out.below m) H (dj.below m) (bk.out.maps_trans (Off.of_below m)) (.inr rfl) b3 (AJ _) λq hq => .inl hq);have c0:=H.cell 0;have c1:=H.cell 1;have f0:=H.frozen 0;have f1:=H.frozen 1;have l5:=H.lt;have v0:=a4.cell 0;have v1:=a4.cell 1;have l6:=a4.lt;clear J dc dj bc m H a4 y0 y1 yl F a7;generalize bl x y=W3 at *;go_wp2_with fail;refine AW (AX (p:=6) AB _ _ w 154 #[.slice Av nv cv,.bool dv] (0,0) _ rfl ag.out.1 underlying154 rfl AB) rfl ?_;exact ag.out.2
  have bc:=Yt x;refine Zs AB AB ?_;repeat (go_big_quiet_step (fail))
  refine BJ ?_;rintro _⟨y,rfl⟩;have m:=Zr x y;have bi:=LH (af.out.below m);have ci:=LH (bk.out.maps_trans (Off.of_below m));have cl:=LH (br.out.ext m);have cg:=LH (cf.out.ext m);clear J bc m F a7 y0 y1 yl af bk br cf;generalize bl x y=W3 at *;obtain⟨F,_,fs,_,_,_⟩:=bi.out.cells;have gs:=k3;go_wp2_with fail;go_loopw [49] (λi wr=>∃(q:Nat) (f:Option Addr) (ns cs:Nat) (g:Bool),q<=h.n3/\i = .int .i64 (q:Int)/\Hid (Yo W0 k h G (λb=>S b\/b=w.heap.size) wr)/\Hid (Off k.maps w wr)/\Hid (Blk wr w 154 #[.slice f ns cs,.bool g])/\Hid (Blk wr I 257 #[.int .i64 s,.int .i64 (n:Int)])/\Hid (Z1 wr f ns cs g (Yc (Zv G) (G.U.take q) j n))) (λi _=>h.n3-(intOf i).toNat)
  case atStart=>exact⟨0,none,0,0,false,AV _,rfl,bi,ci,cl,cg,LH (Z1.zero _ _ _ AA)⟩
  clear bi ci cl cg F fs;obtain⟨q,f,ns,cs,g,hq,rfl,L,HO,P,O,HV⟩:=hrel;by_cases fm:q<h.n3
  case pos =>
   obtain⟨Y,au,r,Ar,cr,ff,ap,Hr,q0,q1,q2,fo⟩:=Hg.out.U.get fm;have fj:=AM Hr.out;have am:=L.out.base;have fn:Y<wr.heap.size:=AK ap am.size;have p0:=(am.cell (p:=⟨Y,au+q*3,none⟩) ap).trans q0;have p1:=(am.cell (p:=⟨Y,au+q*3+1,none⟩) ap).trans q1;have p2:=(am.cell (p:=⟨Y,au+q*3+2,none⟩) ap).trans q2;have U:=Zy wr (.cells #[.int .i64 r.L,.slice Ar r.rt.length cr,.int .i64 r.P] 60);have b1:=Blk.new wr 60 #[.int .i64 r.L,.slice Ar r.rt.length cr,.int .i64 r.P];have N:=LH (L.out.below U);have bm:=LH (HO.out.maps_trans (Off.of_below U));have R:=LH (P.out.ext U);have bj:=LH (O.out.ext U);have ck:=LH (HV.out.below U);have V:=Cq (T:=Zv G) Hr.out j n;have gx:=HP.out.fits.L r fj;rw[ff];go_upto_region 12 with fail;generalize wr.alloc (.cells #[.int .i64 r.L,.slice Ar r.rt.length cr,.int .i64 r.P] 60)=W4 at *;have r0:=b1.cell 0;have rl:=b1.lt;have gu:w.heap.size<wr.heap.size:=P.out.lt;clear U b1 am p0 p1 p2 q0 q1 q2 ap fn fo L HO P O HV;generalize wr.heap.size=gR at *;by_cases ao:r.L=(j:Int)
   case neg =>
    have fk:(r.L==(j:Int))=false:=by rw[AR];exact ao
    rw[if_neg AA,DN] at V;have bw:=LH V;clear V ao;go_wp2_with fail;go_roundw
    case rel=>exact⟨q+1,f,ns,cs,g,AA,AF,N,bm,R,bj,by rw[bw.out];exact ck⟩
    simp[intOf] <;> omega
   have fg:(r.L==(j:Int))=true:=by rw[BS];exact ao
   rw[if_pos AA] at V;have HR:=LH (tr_rule (k:=k) HP.out Hg.out h2 h3 (i:=q) (s0:=s) (n0:=n) Hr.out (by rw[dh,ao];rfl) f4.out AA (λq' m' fl gy=>by
    by_cases fa:0<=q'
    ·exact Di fa AA
    obtain⟨a1,a2⟩:=fl AA;exact f3.out _ a2 m' q' (λ_=>⟨a1,rfl⟩) AA) _ 0 n rfl (AV _) (AJ _) (λ_ p sx d=>absurd d (Nat.not_lt_zero p)))
   have bw:=LH V;clear V;go_upto_region 13 with fail;clear ao fg;refine Xh (λX=>MidC W0 k h G (λb=>S b\/b=w.heap.size) W4 X) (λX X'=>Zf X X') (λu=>(⟨(Value.pointer (some ⟨k.c,0,none⟩)::Value.int IntKind.i64 s::Value.int IntKind.i64 (n:Int)::undef::undef::undef::Value.pointer (some ⟨w,0,none⟩)::Value.pointer (some ⟨I,0,none⟩)::Value.pointer none::Value.int IntKind.i64 (q:Int)::Value.pointer (some ⟨gR,0,none⟩)::Value.int IntKind.i64 s::Value.bool false::undef::undef::Value.int IntKind.i64 (n:Int)::Value.bool false::Value.bool false::undef::undef::undef::undef::undef::undef::undef::undef::undef::Value.bool false::undef::Value.int IntKind.i64 s::Value.int IntKind.i64 (n:Int)::Value.agg #[Value.int IntKind.i64 s,Value.int IntKind.i64 (n:Int)]::Value.pointer (some ⟨k.c,0,none⟩)::Value.pointer (some ⟨k.c,0,none⟩)::Value.pointer (some ⟨k.c,5,none⟩)::Value.map (some k.t)::Value.agg #[Value.int IntKind.i64 s,Value.int IntKind.i64 (n:Int)]::Value.pointer none::Value.pointer none::Value.bool false::undef::undef::undef::Value.pointer (some ⟨k.c,0,none⟩)::Value.pointer (some ⟨k.c,0,none⟩)::Value.pointer (some ⟨k.c,0,none⟩)::Value.pointer (some ⟨k.c,2,none⟩)::Value.slice (some ⟨Y,au,none⟩) h.n3 h.c3::Value.int IntKind.i64 (h.n3:Int)::Value.int IntKind.i64 (q:Int)::Value.bool true::Value.int IntKind.i64 (q:Int)::Value.pointer (some ⟨Y,au+q*3,none⟩)::Value.agg #[Value.int IntKind.i64 r.L,Value.slice Ar r.rt.length cr,Value.int IntKind.i64 r.P]::Value.pointer (some ⟨gR,0,none⟩)::Value.int IntKind.i64 (j:Int)::Value.int IntKind.i64 s::Value.int IntKind.i64 (j:Int)::Value.bool true::u 0::u 1::u 2::u 3::u 4::u 5::u 6::u66::undef::undef::undef::undef::undef::undef::[]).toArray,[]⟩:Act)) [u59,u60,u61,u62,u63,u64,u65] [λv X=>v=Value.agg #[Value.slice f ns cs,Value.bool g],λv X=>v=Value.pointer (some ⟨k.c,0,none⟩),λv X=>v=Value.int .i64 (q:Int),λv X=>v=Value.int .i64 (n:Int),λv X=>v=Value.agg #[Value.int .i64 (q:Int),Value.int .i64 0,Value.int .i64 (n:Int)],λv X=>∃Aq nq cq bq,v=Value.agg #[Value.slice Aq nq cq,Value.bool bq]/\Z1 X Aq nq cq bq (Zx (Zv G) r.rt n),λv X=>∃Aq nq cq bq,v=Value.agg #[Value.slice Aq nq cq,Value.bool bq]/\Z1 X Aq nq cq bq (Yc (Zv G) (G.U.take q) j n+Zx (Zv G) r.rt n)] (λu X=>∃A9 n9 c9 d9,Yo W0 k h G (λb=>S b\/b=w.heap.size) X/\Off k.maps w X/\Blk X w 154 #[Value.slice A9 n9 c9,Value.bool d9]/\Blk X I 257 #[Value.int .i64 s,Value.int .i64 (n:Int)]/\Z1 X A9 n9 c9 d9 (Yc (Zv G) (G.U.take q) j n+Zx (Zv G) r.rt n)) (l:=[_,_,_,_,_,_,_]) AB AB AB rfl rfl ⟨N.out.below (AP _ _).drew,Off.of_below (AP _ _).drew⟩ ⟨AI,AI,AI,AI,AI,(λ_ _ _ ⟨A,n,c,b,e,h⟩ D=>⟨A,n,c,b,e,h.kept D⟩),(λ_ _ _ ⟨A,n,c,b,e,h⟩ D=>⟨A,n,c,b,e,h.kept D⟩),trivial⟩ ?_ ?_ ?_
   ·refine Zk.vf (λQ u X KK a d o=>?_) ?_
    ·have B:=a.2.blk R.out (N.out.not_map R.out);have d7:=B.cell 0;have d8:=B.cell 1;have fr:=B.lt;go_simp;exact o
    refine Zk.v0 ?_;refine Zk.v0 ?_;refine Zk.v0 ?_;refine Zk.vf (λQ u X KK a d o=>?_) ?_
    ·have p2:u 2=_:=d 2 rfl;have p3:u 3=_:=d 3 rfl;clear d;generalize u 2=x2 at *;subst p2;generalize u 3=x3 at *;subst p3;go_simp;exact o
    refine Zk.con (λQ u X a d KK o=>?_) ?_
    ·have p1:u 1=_:=d 1 rfl;have p4:u 4=_:=d 4 rfl;clear d;generalize u 1=x1 at *;subst p1;generalize u 4=x4 at *;subst p4;have fe:∀b,(S b\/b=w.heap.size)->b<X.heap.size:=λb D=>by
      rcases D with D | rfl
      ·exact AK (HS.out b D) (BC bm.out.size a.2.size)
      exact AK R.out.lt a.2.size
     have CO:=HR.out (λb=>S b\/b=w.heap.size) X a.1 fe;unfold kF at CO;simp only[Int.ofNat_zero,Int.natCast_zero,Ed] at CO;go_simp;(with_reducible refine CO.mono ?_);rintro e w5⟨fc,db,A2,m2,c2,d2,rfl,b6⟩;go_simp;exact o _ _ (⟨fc,a.2.maps_trans db⟩) (a.1.keep db) ⟨A2,m2,c2,d2,rfl,b6⟩
    refine Zk.con (λQ u X a d KK o=>?_) ?_
    ·have p0:u 0=_:=d 0 rfl;obtain⟨A2,m2,c2,d2,p5,b6⟩:=d 5 rfl;clear d;rw[p0] at o⊢;generalize u 5=x5 at *;subst p5;have fq:=ck.out.kept (N.out.keep a.2);go_simp;(with_reducible refine (Zu2 f ns cs g _ A2 m2 c2 d2 _ X fq b6).mono ?_);rintro e w5⟨b0,A4,m4,c4,d4,rfl,b7⟩;go_simp;exact o _ _ (⟨a.1.below b0,a.2.maps_trans (Off.of_below b0)⟩) (Zf.of_below b0) ⟨A4,m4,c4,d4,rfl,b7⟩
    exact Zk.nil
   ·intro Q u X a d KK o;obtain⟨A4,m4,c4,d4,p6,b7⟩:=d 6 AC;clear d;generalize u 6=x6 at *;subst p6;have B:=a.2.blk R.out (N.out.not_map R.out);have d7:=B.cell 0;have d8:=B.cell 1;have fr:=B.lt;have gq:=B.frozen 0;have gr:=B.frozen 1;have da:=a.2.blk bj.out (N.out.not_map bj.out);have W:=a.1.store B (.inr rfl) b3 A4 m4 c4 d4;have d1:=LH (And.intro W.1 (And.intro ((bm.out.maps_trans a.2).maps_new W.2.1 (AJ _)) (And.intro W.2.2.2 (And.intro (W.2.1.blk da (λe=>AA)) (b7.kept W.2.2.1)))));clear W B da;go_simp;exact o (λi=>([u 0,u 1,u 2,u 3,u 4,u 5,Value.agg #[Value.slice A4 m4 c4,Value.bool d4]]:List Value).getD i undef) _ (⟨A4,m4,c4,d4,d1.out⟩)
   intro u W9 fh;obtain⟨A9,n9,c9,d9,g1,g2,g3,g5,g4⟩:=fh;have ds:=LH g1;have dw:=LH g2;have dz:=LH g3;have dt:=LH g5;rw[<-bw.out] at g4;have dy:=LH g4;clear g1 g2 g3 g4 g5;go_wp2_with fail;go_roundw
   case rel=>exact⟨q+1,A9,n9,c9,d9,AA,AF,ds,dw,dz,dt,dy⟩
   simp[intOf] <;> omega
  obtain rfl:q=h.n3:=AA
  have cm:Hid (Yc (Zv G) (G.U.take h.n3) j n=Zv G s n):=LH (by rw[AQ AA,Uu HP.out be bd.out,dh]);obtain⟨F,_,_,_,a7,_⟩:=L.out.cells;have xl:=P.out.lt;have y0:=O.out.cell 0;have y1:=O.out.cell 1;have yl:=O.out.lt;have gt:W0.heap.size<=w.heap.size:=b3;go_upto_region 15 with fail;have bc:=Yt wr;refine Yx 5 AB AB ?_;simp only[List.take_succ_cons,List.take_zero,List.drop_succ_cons,Ed];repeat (go_big_quiet_step (fail))
  refine BJ ?_;rintro _⟨y,rfl⟩;have m:=Zr wr y;have aw:=LH ((L.out.below m).less (S':=S) λb D => .inl D);have du:=LH (HO.out.maps_trans (Off.of_below m));have bt:=LH (P.out.ext m);have bo:=LH (HV.out.below m);have fi:¬S w.heap.size:=λD=>Nat.lt_irrefl _ (HS.out _ D);clear m bc L HO P HV O y0 y1 yl F a7 xl;generalize bl wr y=W6 at *;obtain⟨g9,b5⟩:=aw.out.trees;have a5:U4 prog 257 (kT s n):=Zww (by have:=bd.out;unfold Zp at this;omega) AA AA;unfold kT at a5;try simp only[Int.ofNat_zero,Int.natCast_zero] at a5
  have dd:=b5.few;have cj:=LH b5;have d3:=LH a5;have d0:=LH dd;clear b5 a5 dd;rw[cm.out] at bo;go_wp2_with (
   at_mapUpdate
   refine D7 _ rfl _ _ _ 208 rfl 258 k.t w Tryz.keyKT underlying208 cj.out.map d0.out (.agg #[.int .i64 s,.int .i64 (n:Int)]) d3.out rfl rfl rfl ?_;intro Z dg df;obtain⟨c8,a3⟩:=aw.out.putT cj.out be (by have:=bd.out;omega) AA ⟨f,ns,cs,g,bt.out,bo.out⟩ fi dg df;have E:=a3.blk bt.out (aw.out.not_map bt.out);have V7:=bo.out.kept (aw.out.keep a3);have e1:=Kt (i:=0) (v := .slice f ns cs) E rfl;have cx:(Z.setCell ⟨w,0,none⟩ (.slice f ns cs)).setCell ⟨w,1,none⟩ (.bool g)=Z:=by rw[e1];exact Kt (i:=1) (v := .bool g) E rfl
   have ag:Hid (Blk ((Z.setCell ⟨w,0,none⟩ (.slice f ns cs)).setCell ⟨w,1,none⟩ (.bool g)) w 154 #[.slice f ns cs,.bool g]/\CRet W0 k h G S w (Zv G s n) (.returned (.agg #[.slice f ns cs,.bool g])) ((Z.setCell ⟨w,0,none⟩ (.slice f ns cs)).setCell ⟨w,1,none⟩ (.bool g))):=LH (by rw[cx];exact⟨E,c8,du.out.maps_trans a3,f,ns,cs,g,rfl,V7⟩);have c0:=E.cell 0;have c1:=E.cell 1;have f0:=E.frozen 0;have f1:=E.frozen 1;have l5:=E.lt;clear c8 a3 E V7 dg df e1 cx)
  refine AW (AX (p:=6) AB _ _ w 154 #[.slice f ns cs,.bool g] (0,0) _ rfl ag.out.1 underlying154 rfl AB) rfl ?_;exact ag.out.2
 clear hz d5;go_upto_region 6 with fail;have a6:=Zy W1 (.cells #[.int .i64 s,.int .i64 0] 257);have an:=Blk.new W1 257 #[.int .i64 s,.int .i64 0];have gw:w.heap.size<W1.heap.size:=bp.out.lt;have af:=LH (bh.out.below a6);have bk:=LH (ch.out.maps_trans (Off.of_below a6));have br:=LH (bp.out.ext a6);clear c0 c1 f0 f1 l1 gb F gj gi a6 bp bh ch;generalize W1.alloc (.cells #[.int .i64 s,.int .i64 0] 257)=x at *;generalize W1.heap.size=I at *;have cf:=LH an;obtain⟨ts,ht⟩:=af.out.trees;have J:=ht.look s 0 be (by have:=bd.out;omega) AA;unfold kT at J;try simp only[Int.ofNat_zero,Int.natCast_zero] at J
 obtain⟨F,_,_,_,a7,_⟩:=af.out.cells;have y0:=an.cell 0;have y1:=an.cell 1;have yl:=an.lt;clear an ht;rcases J with ⟨bv,J,hv⟩ | J
 ·obtain⟨Av,nv,cv,dv,dc,dj⟩:=hv;have bc:=Yt x;refine Zs AB AB ?_;repeat (go_big_quiet_step (fail))
  refine BJ ?_;rintro _⟨y,rfl⟩;have m:=Zr x y;have H:=br.out.ext m;have a4:=dc.ext m;have ag:=LH (Uw (S':=S) (af.out.below m) H (dj.below m) (bk.out.maps_trans (Off.of_below m)) (.inr rfl) b3 (AJ _) λq hq => .inl hq);have c0:=H.cell 0;have c1:=H.cell 1;have f0:=H.frozen 0;have f1:=H.frozen 1;have l5:=H.lt;have v0:=a4.cell 0;have v1:=a4.cell 1;have l6:=a4.lt;clear J dc dj bc m H a4 y0 y1 yl F a7;generalize bl x y=W3 at *;go_wp2_with fail;refine AW (AX (p:=6) AB _ _ w 154 #[.slice Av nv cv,.bool dv] (0,0) _ rfl ag.out.1 underlying154 rfl AB) rfl ?_;exact ag.out.2
 have bc:=Yt x;refine Zs AB AB ?_;repeat (go_big_quiet_step (fail))
 refine BJ ?_;rintro _⟨y,rfl⟩;have m:=Zr x y;have bi:=LH (af.out.below m);have ci:=LH (bk.out.maps_trans (Off.of_below m));have cl:=LH (br.out.ext m);have cg:=LH (cf.out.ext m);clear J bc m F a7 y0 y1 yl af bk br cf;generalize bl x y=W3 at *;obtain⟨F,_,fs,_,_,_⟩:=bi.out.cells;have gs:=k3;go_wp2_with fail;go_loopw [49] (λi wr=>∃(q:Nat) (f:Option Addr) (ns cs:Nat) (g:Bool),q<=h.n3/\i = .int .i64 (q:Int)/\Hid (Yo W0 k h G (λb=>S b\/b=w.heap.size) wr)/\Hid (Off k.maps w wr)/\Hid (Blk wr w 154 #[.slice f ns cs,.bool g])/\Hid (Blk wr I 257 #[.int .i64 s,.int .i64 0])/\Hid (Z1 wr f ns cs g (Yc (Zv G) (G.U.take q) j 0))) (λi _=>h.n3-(intOf i).toNat)
 case atStart=>exact⟨0,none,0,0,false,AV _,rfl,bi,ci,cl,cg,LH (Z1.zero _ _ _ AA)⟩
 clear bi ci cl cg F fs;obtain⟨q,f,ns,cs,g,hq,rfl,L,HO,P,O,HV⟩:=hrel;by_cases fm:q<h.n3
 case pos =>
  obtain⟨Y,au,r,Ar,cr,ff,ap,Hr,q0,q1,q2,fo⟩:=Hg.out.U.get fm;have fj:=AM Hr.out;have am:=L.out.base;have fn:Y<wr.heap.size:=AK ap am.size;have p0:=(am.cell (p:=⟨Y,au+q*3,none⟩) ap).trans q0;have p1:=(am.cell (p:=⟨Y,au+q*3+1,none⟩) ap).trans q1;have p2:=(am.cell (p:=⟨Y,au+q*3+2,none⟩) ap).trans q2;have U:=Zy wr (.cells #[.int .i64 r.L,.slice Ar r.rt.length cr,.int .i64 r.P] 60);have b1:=Blk.new wr 60 #[.int .i64 r.L,.slice Ar r.rt.length cr,.int .i64 r.P];have N:=LH (L.out.below U);have bm:=LH (HO.out.maps_trans (Off.of_below U));have R:=LH (P.out.ext U);have bj:=LH (O.out.ext U);have ck:=LH (HV.out.below U);have V:=Cq (T:=Zv G) Hr.out j 0;have gx:=HP.out.fits.L r fj;rw[ff];go_upto_region 12 with fail;generalize wr.alloc (.cells #[.int .i64 r.L,.slice Ar r.rt.length cr,.int .i64 r.P] 60)=W4 at *;have r0:=b1.cell 0;have rl:=b1.lt;have gu:w.heap.size<wr.heap.size:=P.out.lt;clear U b1 am p0 p1 p2 q0 q1 q2 ap fn fo L HO P O HV;generalize wr.heap.size=gR at *;by_cases ao:r.L=(j:Int)
  case neg =>
   have fk:(r.L==(j:Int))=false:=by rw[AR];exact ao
   rw[if_neg AA,DN] at V;have bw:=LH V;clear V ao;go_wp2_with fail;go_roundw
   case rel=>exact⟨q+1,f,ns,cs,g,AA,AF,N,bm,R,bj,by rw[bw.out];exact ck⟩
   simp[intOf] <;> omega
  have fg:(r.L==(j:Int))=true:=by rw[BS];exact ao
  rw[if_pos AA] at V;have HR:=LH (tr_rule (k:=k) HP.out Hg.out h2 h3 (i:=q) (s0:=s) (n0:=0) Hr.out (by rw[dh,ao];rfl) f4.out AA (λq' m' fl gy=>by
   by_cases fa:0<=q'
   ·exact Di fa AA
   obtain⟨a1,a2⟩:=fl AA;exact f3.out _ a2 m' q' (λ_=>⟨a1,rfl⟩) AA) _ 0 0 rfl (AV _) (AJ _) (λ_ p sx d=>absurd d (Nat.not_lt_zero p)))
  have bw:=LH V;clear V;go_upto_region 13 with fail;clear ao fg;refine Xh (λX=>MidC W0 k h G (λb=>S b\/b=w.heap.size) W4 X) (λX X'=>Zf X X') (λu=>(⟨(Value.pointer (some ⟨k.c,0,none⟩)::Value.int IntKind.i64 s::Value.int IntKind.i64 0::undef::undef::undef::Value.pointer (some ⟨w,0,none⟩)::Value.pointer (some ⟨I,0,none⟩)::Value.pointer none::Value.int IntKind.i64 (q:Int)::Value.pointer (some ⟨gR,0,none⟩)::Value.int IntKind.i64 s::Value.bool false::undef::undef::Value.int IntKind.i64 0::Value.bool true::Value.bool true::Value.pointer (some ⟨k.c,0,none⟩)::Value.pointer (some ⟨k.c,0,none⟩)::Value.pointer (some ⟨k.c,4,none⟩)::Value.slice (some ⟨k.n,0,none⟩) h.n2 h.n2::Value.int IntKind.i64 s::Value.int IntKind.i64 (j:Int)::Value.pointer (some ⟨k.n,j,none⟩)::Value.bool true::Value.bool false::Value.bool false::undef::Value.int IntKind.i64 s::Value.int IntKind.i64 0::Value.agg #[Value.int IntKind.i64 s,Value.int IntKind.i64 0]::Value.pointer (some ⟨k.c,0,none⟩)::Value.pointer (some ⟨k.c,0,none⟩)::Value.pointer (some ⟨k.c,5,none⟩)::Value.map (some k.t)::Value.agg #[Value.int IntKind.i64 s,Value.int IntKind.i64 0]::Value.pointer none::Value.pointer none::Value.bool false::undef::undef::undef::Value.pointer (some ⟨k.c,0,none⟩)::Value.pointer (some ⟨k.c,0,none⟩)::Value.pointer (some ⟨k.c,0,none⟩)::Value.pointer (some ⟨k.c,2,none⟩)::Value.slice (some ⟨Y,au,none⟩) h.n3 h.c3::Value.int IntKind.i64 (h.n3:Int)::Value.int IntKind.i64 (q:Int)::Value.bool true::Value.int IntKind.i64 (q:Int)::Value.pointer (some ⟨Y,au+q*3,none⟩)::Value.agg #[Value.int IntKind.i64 r.L,Value.slice Ar r.rt.length cr,Value.int IntKind.i64 r.P]::Value.pointer (some ⟨gR,0,none⟩)::Value.int IntKind.i64 (j:Int)::Value.int IntKind.i64 s::Value.int IntKind.i64 (j:Int)::Value.bool true::u 0::u 1::u 2::u 3::u 4::u 5::u 6::u66::undef::undef::undef::undef::undef::undef::[]).toArray,[]⟩:Act)) [u59,u60,u61,u62,u63,u64,u65] [λv X=>v=Value.agg #[Value.slice f ns cs,Value.bool g],λv X=>v=Value.pointer (some ⟨k.c,0,none⟩),λv X=>v=Value.int .i64 (q:Int),λv X=>v=Value.int .i64 0,λv X=>v=Value.agg #[Value.int .i64 (q:Int),Value.int .i64 0,Value.int .i64 0],λv X=>∃Aq nq cq bq,v=Value.agg #[Value.slice Aq nq cq,Value.bool bq]/\Z1 X Aq nq cq bq (Zx (Zv G) r.rt 0),λv X=>∃Aq nq cq bq,v=Value.agg #[Value.slice Aq nq cq,Value.bool bq]/\Z1 X Aq nq cq bq (Yc (Zv G) (G.U.take q) j 0+Zx (Zv G) r.rt 0)] (λu X=>∃A9 n9 c9 d9,Yo W0 k h G (λb=>S b\/b=w.heap.size) X/\Off k.maps w X/\Blk X w 154 #[Value.slice A9 n9 c9,Value.bool d9]/\Blk X I 257 #[Value.int .i64 s,Value.int .i64 0]/\Z1 X A9 n9 c9 d9 (Yc (Zv G) (G.U.take q) j 0+Zx (Zv G) r.rt 0)) (l:=[_,_,_,_,_,_,_]) AB AB AB rfl rfl ⟨N.out.below (AP _ _).drew,Off.of_below (AP _ _).drew⟩ ⟨AI,AI,AI,AI,AI,(λ_ _ _ ⟨A,n,c,b,e,h⟩ D=>⟨A,n,c,b,e,h.kept D⟩),(λ_ _ _ ⟨A,n,c,b,e,h⟩ D=>⟨A,n,c,b,e,h.kept D⟩),trivial⟩ ?_ ?_ ?_
  ·refine Zk.vf (λQ u X KK a d o=>?_) ?_
   ·have B:=a.2.blk R.out (N.out.not_map R.out);have d7:=B.cell 0;have d8:=B.cell 1;have fr:=B.lt;go_simp;exact o
   refine Zk.v0 ?_;refine Zk.v0 ?_;refine Zk.v0 ?_;refine Zk.vf (λQ u X KK a d o=>?_) ?_
   ·have p2:u 2=_:=d 2 rfl;have p3:u 3=_:=d 3 rfl;clear d;generalize u 2=x2 at *;subst p2;generalize u 3=x3 at *;subst p3;go_simp;exact o
   refine Zk.con (λQ u X a d KK o=>?_) ?_
   ·have p1:u 1=_:=d 1 rfl;have p4:u 4=_:=d 4 rfl;clear d;generalize u 1=x1 at *;subst p1;generalize u 4=x4 at *;subst p4;have fe:∀b,(S b\/b=w.heap.size)->b<X.heap.size:=λb D=>by
     rcases D with D | rfl
     ·exact AK (HS.out b D) (BC bm.out.size a.2.size)
     exact AK R.out.lt a.2.size
    have CO:=HR.out (λb=>S b\/b=w.heap.size) X a.1 fe;unfold kF at CO;simp only[Int.ofNat_zero,Int.natCast_zero,Ed] at CO;go_simp;(with_reducible refine CO.mono ?_);rintro e w5⟨fc,db,A2,m2,c2,d2,rfl,b6⟩;go_simp;exact o _ _ (⟨fc,a.2.maps_trans db⟩) (a.1.keep db) ⟨A2,m2,c2,d2,rfl,b6⟩
   refine Zk.con (λQ u X a d KK o=>?_) ?_
   ·have p0:u 0=_:=d 0 rfl;obtain⟨A2,m2,c2,d2,p5,b6⟩:=d 5 rfl;clear d;rw[p0] at o⊢;generalize u 5=x5 at *;subst p5;have fq:=ck.out.kept (N.out.keep a.2);go_simp;(with_reducible refine (Zu2 f ns cs g _ A2 m2 c2 d2 _ X fq b6).mono ?_);rintro e w5⟨b0,A4,m4,c4,d4,rfl,b7⟩;go_simp;exact o _ _ (⟨a.1.below b0,a.2.maps_trans (Off.of_below b0)⟩) (Zf.of_below b0) ⟨A4,m4,c4,d4,rfl,b7⟩
   exact Zk.nil
  ·intro Q u X a d KK o;obtain⟨A4,m4,c4,d4,p6,b7⟩:=d 6 AC;clear d;generalize u 6=x6 at *;subst p6;have B:=a.2.blk R.out (N.out.not_map R.out);have d7:=B.cell 0;have d8:=B.cell 1;have fr:=B.lt;have gq:=B.frozen 0;have gr:=B.frozen 1;have da:=a.2.blk bj.out (N.out.not_map bj.out);have W:=a.1.store B (.inr rfl) b3 A4 m4 c4 d4;have d1:=LH (And.intro W.1 (And.intro ((bm.out.maps_trans a.2).maps_new W.2.1 (AJ _)) (And.intro W.2.2.2 (And.intro (W.2.1.blk da (λe=>AA)) (b7.kept W.2.2.1)))));clear W B da;go_simp;exact o (λi=>([u 0,u 1,u 2,u 3,u 4,u 5,Value.agg #[Value.slice A4 m4 c4,Value.bool d4]]:List Value).getD i undef) _ (⟨A4,m4,c4,d4,d1.out⟩)
  intro u W9 fh;obtain⟨A9,n9,c9,d9,g1,g2,g3,g5,g4⟩:=fh;have ds:=LH g1;have dw:=LH g2;have dz:=LH g3;have dt:=LH g5;rw[<-bw.out] at g4;have dy:=LH g4;clear g1 g2 g3 g4 g5;go_wp2_with fail;go_roundw
  case rel=>exact⟨q+1,A9,n9,c9,d9,AA,AF,ds,dw,dz,dt,dy⟩
  simp[intOf] <;> omega
 obtain rfl:q=h.n3:=AA
 have cm:Hid (Yc (Zv G) (G.U.take h.n3) j 0=Zv G s 0):=LH (by rw[AQ AA,Uu HP.out be bd.out,dh]);obtain⟨F,_,_,_,a7,_⟩:=L.out.cells;have xl:=P.out.lt;have y0:=O.out.cell 0;have y1:=O.out.cell 1;have yl:=O.out.lt;have gt:W0.heap.size<=w.heap.size:=b3;go_upto_region 15 with fail;have bc:=Yt wr;refine Yx 5 AB AB ?_;simp only[List.take_succ_cons,List.take_zero,List.drop_succ_cons,Ed];repeat (go_big_quiet_step (fail))
 refine BJ ?_;rintro _⟨y,rfl⟩;have m:=Zr wr y;have aw:=LH ((L.out.below m).less (S':=S) λb D => .inl D);have du:=LH (HO.out.maps_trans (Off.of_below m));have bt:=LH (P.out.ext m);have bo:=LH (HV.out.below m);have fi:¬S w.heap.size:=λD=>Nat.lt_irrefl _ (HS.out _ D);clear m bc L HO P HV O y0 y1 yl F a7 xl;generalize bl wr y=W6 at *;obtain⟨g9,b5⟩:=aw.out.trees;have a5:U4 prog 257 (kT s 0):=Zww (by have:=bd.out;unfold Zp at this;omega) AA AA;unfold kT at a5;try simp only[Int.ofNat_zero,Int.natCast_zero] at a5
 have dd:=b5.few;have cj:=LH b5;have d3:=LH a5;have d0:=LH dd;clear b5 a5 dd;rw[cm.out] at bo;go_wp2_with (
  at_mapUpdate
  refine D7 _ rfl _ _ _ 208 rfl 258 k.t w Tryz.keyKT underlying208 cj.out.map d0.out (.agg #[.int .i64 s,.int .i64 0]) d3.out rfl rfl rfl ?_;intro Z dg df;obtain⟨c8,a3⟩:=aw.out.putT cj.out be (by have:=bd.out;omega) AA ⟨f,ns,cs,g,bt.out,bo.out⟩ fi dg df;have E:=a3.blk bt.out (aw.out.not_map bt.out);have V7:=bo.out.kept (aw.out.keep a3);have e1:=Kt (i:=0) (v := .slice f ns cs) E rfl;have cx:(Z.setCell ⟨w,0,none⟩ (.slice f ns cs)).setCell ⟨w,1,none⟩ (.bool g)=Z:=by rw[e1];exact Kt (i:=1) (v := .bool g) E rfl
  have ag:Hid (Blk ((Z.setCell ⟨w,0,none⟩ (.slice f ns cs)).setCell ⟨w,1,none⟩ (.bool g)) w 154 #[.slice f ns cs,.bool g]/\CRet W0 k h G S w (Zv G s 0) (.returned (.agg #[.slice f ns cs,.bool g])) ((Z.setCell ⟨w,0,none⟩ (.slice f ns cs)).setCell ⟨w,1,none⟩ (.bool g))):=LH (by rw[cx];exact⟨E,c8,du.out.maps_trans a3,f,ns,cs,g,rfl,V7⟩);have c0:=E.cell 0;have c1:=E.cell 1;have f0:=E.frozen 0;have f1:=E.frozen 1;have l5:=E.lt;clear c8 a3 E V7 dg df e1 cx)
 refine AW (AX (p:=6) AB _ _ w 154 #[.slice f ns cs,.bool g] (0,0) _ rfl ag.out.1 underlying154 rfl AB) rfl ?_;exact ag.out.2
def tr_forest{B:World}{k:CH}{h:GH}{G:Gr}(J:Xq G)(hg:Yf B h G)(h2:h.n2<=100)(h3:h.n3<=100):∀(l:List Int) (Al:Option Addr) (a n:Nat),Za .i64 B Al (Q l) a l->(∀s∈l,-(h.n2:Int)<=s/\s<=1000)->(Q l)<=100->n<=100->ForC B k h G Al (Q l) a l n:=by
 have e2:(Q G.O)=h.n2:=hg.O.len;have U:(Zj G).length=h.n2:=by rw[Qe,Qq];exact e2
 have V:∀(s:Int) (i:Nat),(s<0->Zp s<(Q G.O))->i<=100->Zw5 B k h G s i:=λs i z hi=>tr_tree J hg h2 h3 _ i s (λh0=>⟨z h0,rfl⟩) hi;intro l
 induction l with
 | nil =>
   intro Al a n N z a1 hn S w C L;obtain⟨r,j,m,o⟩:=Cy w 155 30 154 #[aP (some ⟨k.c,0,aN⟩)] #[K Al 0 a] #[K aN 0 0,aB false];have t:=C.more r (DC w 2);have u:Off k.maps w (((w.alloc (aC #[aP (some ⟨k.c,0,aN⟩)] 155)).alloc (aC #[K Al 0 a] 30)).alloc (aC #[K aN 0 0,aB false] 154)):=Off.of_below r;have ah:B.heap.size<=w.heap.size+2:=BC C.base.size (DC _ _);have HS:=LH L;have T:=LH N;have A:=LH z;have HT:=LH V;have HP:=LH J;have Z:=LH U;rw[DE] at *;go_enter func100,ntmps100;go_upto_region 1 with fail;generalize ((w.alloc (aC #[aP (some ⟨k.c,0,aN⟩)] 155)).alloc (aC #[K Al 0 a] 30)).alloc (aC #[K aN 0 0,aB false] 154)=g at *;have F:=LH t;have aa:=LH u;have X:=LH j;have Y:=LH m;have E:=LH o;have l2:=j.lt;have l3:=m.lt;have p0:=j.cell 0;have t0:=m.cell 0;have M:∀b,(S b\/b=w.heap.size+2)->b<g.heap.size:=λb x=>by
    rcases x with x | rfl
    ·exact AK (HS.out b x) u.size
    exact o.lt
   have f:=Zwe HP.out 160 #[aP (some ⟨w,0,aN⟩),aP (some ⟨w+1,0,aN⟩)] L8 Al a [] n g t M T.out Z.out A.out AA (by simp;try omega) hn
    (λs aj y i hi=>HT.out s i (λh0=>by have:=(A.out s (by rw[y];exact By ..)).1;unfold Zp;omega) AA)
    (λs aj y=>by cases y)
   rw[DE] at f;have f:=LH f;clear J N z L C t u j m o r M V U;go_wp2_with fail;(with_reducible refine f.out.mono ?_);rintro e R⟨I,v,W,n4,c4,d4,rfl,P⟩;have d:=v.blk E.out (F.out.not_map E.out);have H:=LH (Uw (S':=S) I d P (aa.out.maps_trans v) (.inr rfl) ah (DC _ _) λq O => .inl O);have c0:=d.cell 0;have c1:=d.cell 1;have f0:=d.frozen 0;have f1:=d.frozen 1;have l5:=d.lt;clear I v d P p0 t0 l2 l3;go_wp2_with fail;refine AW (AX (p:=6) AB _ _ (w.heap.size+2) 154 #[K W n4 c4,aB d4] (0,0) _ rfl H.out.1 underlying154 rfl AB) rfl ?_;exact H.out.2
 | cons s0 D ih =>
   intro Al a n N z a1 hn S w C L;obtain⟨r,j,m,o⟩:=Cy w 155 30 154 #[aP (some ⟨k.c,0,aN⟩)] #[K Al ((Q D)+1) a] #[K aN 0 0,aB false];have t:=C.more r (DC w 2);have u:Off k.maps w (((w.alloc (aC #[aP (some ⟨k.c,0,aN⟩)] 155)).alloc (aC #[K Al ((Q D)+1) a] 30)).alloc (aC #[K aN 0 0,aB false] 154)):=Off.of_below r;have ah:B.heap.size<=w.heap.size+2:=BC C.base.size (DC _ _);have HS:=LH L;have T:=LH N;have A:=LH z;have HT:=LH V;have HP:=LH J;have Z:=LH U;have au:=LH ih;rw[AY] at *;go_enter func100,ntmps100;go_upto_region 1 with fail;generalize ((w.alloc (aC #[aP (some ⟨k.c,0,aN⟩)] 155)).alloc (aC #[K Al ((Q D)+1) a] 30)).alloc (aC #[K aN 0 0,aB false] 154)=g at *;have F:=LH t;have aa:=LH u;have X:=LH j;have Y:=LH m;have E:=LH o;have l2:=j.lt;have l3:=m.lt;have p0:=j.cell 0;have t0:=m.cell 0;have M:∀b,(S b\/b=w.heap.size+2)->b<g.heap.size:=λb x=>by
    rcases x with x | rfl
    ·exact AK (HS.out b x) u.size
    exact o.lt
   have f:=Zwe HP.out 160 #[aP (some ⟨w,0,aN⟩),aP (some ⟨w+1,0,aN⟩)] L8 Al a (s0::D) n g t M T.out Z.out A.out AA (by simp;try omega) hn
    (λs aj y i hi=>HT.out s i (λh0=>by have:=(A.out s (by rw[y];exact By ..)).1;unfold Zp;omega) AA)
    (λs aj y i hi hx=>by
      injection y with he1 he2;subst he1;subst he2;intro S' w' C' a0 ao;obtain⟨At,aq,an⟩:=D6 T.out (i:=1) AA;rw[Nat.add_sub_cancel] at aq an;exact tr_forest1 s0 D Al a (n-i) _ _ w' C' a0 (ao.blk X.out (F.out.not_map X.out)) (ao.blk Y.out (F.out.not_map Y.out)) aq (au.out At (a-1) (n-i) an (λq O=>A.out q (BN _ O)) AA AA))
   rw[AY] at f;have f:=LH f;clear J N z L C t u j m o r M V U;go_wp2_with fail;(with_reducible refine f.out.mono ?_);rintro e R⟨I,v,W,n4,c4,d4,rfl,P⟩;have d:=v.blk E.out (F.out.not_map E.out);have H:=LH (Uw (S':=S) I d P (aa.out.maps_trans v) (.inr rfl) ah (DC _ _) λq O => .inl O);have c0:=d.cell 0;have c1:=d.cell 1;have f0:=d.frozen 0;have f1:=d.frozen 1;have l5:=d.lt;clear I v d P p0 t0 l2 l3;go_wp2_with fail;refine AW (AX (p:=6) AB _ _ (w.heap.size+2) 154 #[K W n4 c4,aB d4] (0,0) _ rfl H.out.1 underlying154 rfl AB) rfl ?_;exact H.out.2
section
open Ieee
open Go.Maps (Keyed IsMap Tidy)
def Wd.below{c w:World}{k:BkH}{h:GH}{G:Gr}(C:Wd c k h G S w)(a:Below w w w'):Wd c k h G S w' :=
 C.move (P:=λ_=>False) (Off.of_below a) (.of_below a) λb a=>a.elim
def Wd.more{j w:World}{k:BkH}{h:GH}{G:Gr}(C:Wd j k h G S w)(c:Below w w w')(l:w.heap.size<=g):Wd j k h G (λb=>S b\/b=g) w':=by
 have f:=C.below c;refine⟨f.base,f.box,f.low,?_⟩;obtain⟨ts,a⟩:=C.known;refine⟨ts,a.map.below c,a.key,λp d=>⟨(a.val p d).1.kept (.of_below c) (c.block _ (a.val p d).1.lt),?_⟩⟩;rintro (h1 | h1)
 ·exact (a.val p d).2 h1
 have:=(a.val p d).1.lt;omega
def Gk.look{w:World}{G:Gr}(h:Gk w g G S ts)(a:J1 l n):
 (∃b,(∀x:Ext w,(Instr.lookup 162 (.map (some g)) (kB l n) false).run prog (bl w x) = .ok (aP (some ⟨b,0,aN⟩)) (bl w x))/\Fx w b (Zx (Zv G) l n)/\¬S b) \/
 (∀x:Ext w,(Instr.lookup 162 (.map (some g)) (kB l n) false).run prog (bl w x) = .ok (aP aN) (bl w x)):=by
 have m:∀w,(zeroValue 221).run prog w = .ok (aP aN) w:=λw=>AB
 have s:U4 prog 220 (kB l n):=Zs6 (by have:=a.len;omega) (by have:=a.n;omega);by_cases j:kB l n∈(ts.map λp=>(kB p.1.1 p.1.2,p.2)).map (·.1)
 ·left;obtain⟨b,f,r⟩:=h.map.look Tryz.keyKB j;obtain⟨p,k,c⟩:=CX.1 f;injection c with c hpb;obtain⟨o,q⟩:=kB_inj (h.key p k).sym a.sym c;have d:=h.val p k;rw[o,q,hpb] at d;exact⟨b,λx=>(h.map.below (Zr w x)).look_at Tryz.keyKB underlying162 (m _) f r,d.1,d.2⟩
 exact .inr λx=>(h.map.below (Zr w x)).look_none Tryz.keyKB underlying162 (m _) s j
def Gk.there{w:World}{b0:Nat}{G:Gr}(h:Gk w g G S ts)(f:((l,n),b0)∈ts):
 ∃b,(∀x:Ext w,(Instr.lookup 162 (.map (some g)) (kB l n) false).run prog (bl w x) = .ok (aP (some ⟨b,0,aN⟩)) (bl w x))/\Fx w b (Zx (Zv G) l n)/\¬S b:=by
 have s:∀w,(zeroValue 221).run prog w = .ok (aP aN) w:=λw=>AB
 have r:=h.key _ f;have q:kB l n∈(ts.map λp=>(kB p.1.1 p.1.2,p.2)).map (·.1):=CX.2 ⟨_,CX.2 ⟨_,f,rfl⟩,rfl⟩;obtain⟨b,d,o⟩:=h.map.look Tryz.keyKB q;obtain⟨p,j,a⟩:=CX.1 d;injection a with a hpb;obtain⟨k,m⟩:=kB_inj (h.key p j).sym r.sym a;have c:=h.val p j;rw[k,m,hpb] at c;exact⟨b,λx=>(h.map.below (Zr w x)).look_at Tryz.keyKB underlying162 (s _) d o,c.1,c.2⟩
end
section
open Go.Maps (Keyed IsMap Tidy)
variable {W0:World} {k:BkH} {h:GH} {G:Gr} {S':Nat->Prop} {w:World} {gR:Nat} {b:Nat->Bool} {u:Nat->Value} {X:World}
def PM.made(H:PM W0 k h G S' w gR b u X)(i:Nat)(hi:i=12/\b 14=false\/i=13/\b 15=false):PM W0 k h G S' w gR (Mz b i) (upd u i (aP (some ⟨X,0,aN⟩))) (X.alloc (aC #[K aN 0 0,aB false] 168)):=by
 obtain⟨⟨l,a1,a2,a3,o,p⟩,A,r,J⟩:=H;have m:=Zy X (aC #[K aN 0 0,aB false] 168);have s:=Blk.new X 168 #[K aN 0 0,aB false];have M:=s.lt;have C:=r.lt;have D:4≠i:=AA
 have E:11≠i:=AA
 have F:14≠i:=AA
 have I:15≠i:=AA
 have y:∀(a:Bool) (d:Value),a=false->Cel (λq=>l q\/q=X.heap.size) gR (X.alloc (aC #[K aN 0 0,aB false] 168)) (aP (some ⟨X,0,aN⟩)) a d:=λa d e=>⟨_,_,_,_,_,rfl,C,.inr rfl,s,λh=>by rw[e] at h;cases h⟩;have z:∀{v:Value} {a:Bool} {d:Value},Cel l gR X v a d->Cel (λq=>l q\/q=X.heap.size) gR (X.alloc (aC #[K aN 0 0,aB false] 168)) v a d:=λn=>n.mono (λq=>Or.inl) λg t L _ B=>B.ext m;have x:∀{v:Value} {a:Bool} {d:Value},Cel l gR X v a d->v ≠ aP (some ⟨X,0,aN⟩):=λn e=>by
  subst e;have:=n.lt;omega
 refine⟨⟨_,a1.more m (AJ _),λq f => .inl (a2 q f),λq f=>?_,?_,?_⟩,A.map_trans (Off.of_below m),r.ext m,?_⟩
 ·rcases f with f | rfl
  ·have:=a3 q f;omega
  omega
 ·rw[Ys F,Yj D];rcases hi with ⟨rfl,c⟩ | ⟨rfl,c⟩
  ·rw[D1];exact λ_=>y _ _ c
  rw[Ys AA,Yj AA];exact λh=>z (o h)
 ·rw[Ys I,Yj E];rcases hi with ⟨rfl,c⟩ | ⟨rfl,c⟩
  ·rw[Ys AA,Yj AA];exact λh=>z (p h)
  rw[D1];exact λ_=>y _ _ c
 rcases hi with ⟨rfl,c⟩ | ⟨rfl,c⟩
 ·rw[D1,Ys (j:=13) AA,Yj AA];exact λ_ h=>(x (p h)).symm
 rw[D1,Ys (j:=12) AA,Yj AA];exact λh _=>x (o h)
end
def Own.below{w:World}{B:Nat}{t:TypeId}{k:IntKind}{a:List Nat}(h:Own w g t k a)(b:Below B w w')(c:g<B):Own w' g t k a:=(b.block g c).trans h
def Zw4(A:Option Addr)(n c:Nat)(xs:List Nat)(w:World)(h:Zq .u32 w A n c xs)(p:n<=1000000):
 Calls prog 102 #[K A n c] w (RetOwn w xs):=by
 have j:=h.len;subst j;have q:∀(A:Option Addr) (n c:Nat) (w:World),(binOp .eql 44 (K A n c) (K aN 0 0)).run prog w = .ok (aB A.isNone) w:=λA n c w=>Lib.run_eql_slice_nil w _ _ _ _ _ _ _ underlying44;rcases A with _ | m
 ·have h0:(Q xs)=0:=by
   rcases BW (Q xs) with h0 | h0
   ·exact h0
   obtain⟨b,r,f,_⟩:=h.at_ h0;cases f
  obtain rfl:=BH h0;go_enter func102,ntmps102;go_wp2;go_ret;exact⟨aN,0,rfl,BL _ _ _ _,AP _ _⟩
 have d:=Zt0 w 41 0 [] rfl AA;have k:=h.sl.below ((AP _ _).alloc (AJ _) (aC #[] 41));go_enter func102,ntmps102;go_wp2_with (at_builtin;refine Zxz rfl _ _ 44 rfl w 41 (aI .u32 0) 4 underlying44 Tryz.info34 rfl _ 0 0 [] rfl d _ (Q xs) c (nums .u32 xs) rfl k (Zq2 _ _) AA AA AE ?_;intro l o w' a g);go_ret;simp only[BF,DA] at a;exact⟨_,_,rfl,a,X6 ((AP _ _).alloc (AJ _) _) g d AE⟩
def Zw7(h:Option Addr)(n c1:Nat)(xs:List Nat)(bit:Nat)(w:World)(h1:Zq .u32 w h n c1 xs)(q:Lim xs)(t:bit<=1)(L:n<=1000):
 Calls prog 210 #[K h n c1,aI .u32 (bit:Int)] w (RetNew w (Zq3 (2*val xs+bit))):=by
 obtain rfl:=h1.len;have p:=run_make_cap (P:=prog) 44 41 .u32 4 underlying44 Tryz.info34 ((Q xs)+1) AA AA;have B:∀w:World,(Instr.makeSlice 44 (aI aJ 0) (aI aJ (((Q xs):Int)+1))).run prog w = .ok (K (some ⟨w,0,aN⟩) 0 ((Q xs)+1)) (w.alloc (aC (nums .u32 (List.replicate ((Q xs)+1) 0)).toArray 41)):=p;go_enter func210,ntmps210;go_wp2;go_loopw [1,5,14] (TwRel w xs bit) (λ_ _ i _=>(Q xs)-(intOf i).toNat)
 case atStart=>exact⟨0,_,_,AV _,rfl,rfl,rfl,own_cap w _ .u32 ((Q xs)+1) _ AE AA,(AP _ _).alloc (AJ _) _⟩
 obtain⟨k,A,G,J,rfl,rfl,rfl,c,b⟩:=hrel;have u:=Ae xs bit t q k;have o:=b.size;by_cases z:k<(Q xs)
 ·obtain⟨F,N,x,rfl,H,Hx,I⟩:=(h1.below b).get (j:=k) z;have D:=q.of_get Hx;have M:=shl_or x (twP xs bit k).2 D u;go_wp2_with (at_builtin;refine Vc (w:=wr) rfl _ _ 44 rfl w 41 (aI .u32 0) 4 underlying44 Tryz.info34 rfl _ k _ _ rfl c _ rfl rfl AA AA AA ?_;intro d f r a g);go_roundw
  case rel =>
   refine⟨k+1,d,f,AA,AF,?_,rfl,?_,X6 b g c o⟩
   ·have e:x / 2147483648=(2*x+(twP xs bit k).2) / 4294967296:=AA
    simp only[twP,Yn Hx.out];rw[<-e];go_num
   have e:=Mi .u32 (twP xs bit k).1 ((2*x+(twP xs bit k).2) % 4294967296);simp only[twP,Yn Hx.out];rw[e];simpa using a
  simp[intOf];omega
 obtain rfl:k=(Q xs):=AA
 have y:Lim ((twP xs bit (Q xs)).1++[(twP xs bit (Q xs)).2]):=(twP_lim xs bit (Q xs)).append (Lim.mk AA Lim.nil);have l:=LH (Vg _ y);rw[twP_all] at l;have E:=LH (Zye xs bit (Q xs));have s:=LH (Mi .u32 (twP xs bit (Q xs)).1 (twP xs bit (Q xs)).2);go_wp2_with (first
  | (at_builtin;refine Vc (w:=wr) rfl _ _ 44 rfl w 41 (aI .u32 0) 4 underlying44 Tryz.info34 rfl _ (Q xs) _ _ rfl c _ rfl rfl AA AA AA ?_;intro d f r a g;rw[<-s] at a)
  | (go_at_call 162;have C:=Yl a;refine (Q3 _ _ _ _ _ C).mono ?_;rintro e w'⟨rfl,m,rfl⟩))
 have v:=Zv3 a;go_ret;rw[l] at m ⊢;unfold RetNew;exact⟨_,_,rfl,m,X6 b g c o,v⟩
def nat_take(q:Option Addr)(n c1:Nat)(xs:List Nat)(r:Option Addr)(m c2:Nat)(P:List Nat)(w:World)(h1:Zq .u32 w q n c1 xs)(z:Zq .u32 w r m c2 P)(U:Lim xs)(V:Lim P)(hn:n<=1000):
 Calls prog 211 #[K q n c1,K r m c2] w (RetTake w xs P):=by
 obtain rfl:=h1.len;obtain rfl:=z.len;go_enter func211,ntmps211;go_wp2_with (go_at_call 102;refine (Zw4 _ _ _ _ _ h1 AA).mono ?_;rintro e w2⟨A,c,rfl,F,B⟩);go_loopw [7,14] (SubRel w A (Q xs) c xs P) (λ_ i _=>(Q xs)-(intOf i).toNat)
 case atStart=>exact⟨0,AV _,rfl,rfl,F,B⟩
 obtain⟨k,hk,rfl,rfl,d,b⟩:=hrel;have C:=Qi xs P k;have l:=LH (Mj xs P k);by_cases f:k<(Q xs)
 ·obtain⟨g,u,rfl,D,ae,J,aa,ad⟩:=Gh d f;obtain⟨x,Hx⟩:∃x,Hid (xs[k]? = some x):=⟨_,LH (AL f)⟩;have R:u = aI .u32 (x:Int):=by
   obtain⟨x',h,rfl⟩:=Zrz _ _ _ _ J;rw[Zsa _ _ _ _ l Hx] at h;injection h with h;rw[h]
  subst R;have G:=U.of_get Hx;by_cases O:k<(Q P)
  ·obtain⟨X,o2,y,rfl,Z,o,ab⟩:=(z.below b).get (j:=k) O;have T:=V.of_get o;go_wp2_with (go_at_call 161;refine (Dj x y _ _ G T C).mono ?_;rintro e w'⟨rfl,rfl⟩);go_roundw
   case rel =>
    refine⟨k+1,AA,AF,?_,?_,b.setCell D _⟩
    ·simp only[Xn,Yn Hx.out,Yn o.out]
    have:=Lt d k (aI .u32 (((4294967296+x-y-(Xn xs P k).2) % 4294967296:Nat):Int));rw[<-Be,Md _ xs k _ l f] at this;simpa [Xn,Hx.out,o.out] using this
   simp[intOf];omega
  have s:=LH (K8 (xs:=P) (j:=k) AA);go_wp2_with (go_at_call 161;refine (L7 x _ _ G C).mono ?_;rintro e w'⟨rfl,rfl⟩);go_roundw
  case rel =>
   refine⟨k+1,AA,AF,?_,?_,b.setCell D _⟩
   ·simp only[Xn,Yn Hx.out,s.out,Nat.sub_zero]
   have:=Lt d k (aI .u32 (((4294967296+x-0-(Xn xs P k).2) % 4294967296:Nat):Int));rw[<-Be,Md _ xs k _ l f] at this;have I:=s.out;rw[AO] at I;simpa [Xn,Hx.out,I] using this
  simp[intOf];omega
 obtain rfl:k=(Q xs):=AA
 rw[List.drop_length,DJ] at d;have p:=Yl d;have N:=Zv3 d;have H:∀v:Bool,v=decide ((Xn xs P (Q xs)).2=0/\(Q P)<=(Q xs))->
  ∀w',Zq .u32 w' A (Xx (Xn xs P (Q xs)).1).length (Xx (Xn xs P (Q xs)).1).length (Xx (Xn xs P (Q xs)).1)->Below w w w'->
  RetTake w xs P (aR (.tuple #[K A (Xx (Xn xs P (Q xs)).1).length (Xx (Xn xs P (Q xs)).1).length,aB v])) w':=by
  intro v S w' a L;subst S;unfold RetTake;exact⟨_,_,rfl,a,L,N⟩
 have W:=LH (Mj xs P (Q xs));generalize M:(Xn xs P (Q xs)).2=t at *;by_cases h0:t=0
 ·subst h0;by_cases E:(Q P)<=(Q xs)
  ·have hd:decide (((Q xs):Int) ≥ ((Q P):Int))=true:=AG
   go_wp2_with (go_at_call 162;refine (Q3 _ _ _ _ _ p).mono ?_;rintro e w'⟨rfl,a,rfl⟩);go_ret2;exact H _ (by simp[E]) _ a b
  have hd:decide (((Q xs):Int) ≥ ((Q P):Int))=false:=AG
  go_wp2_with (go_at_call 162;refine (Q3 _ _ _ _ _ p).mono ?_;rintro e w'⟨rfl,a,rfl⟩);go_ret2;exact H _ (by simp[E]) _ a b
 have Y:((t:Int)==0)=false:=by simp[h0]
 go_wp2_with (go_at_call 162;refine (Q3 _ _ _ _ _ p).mono ?_;rintro e w'⟨rfl,a,rfl⟩);go_ret2;exact H _ (by simp[h0]) _ a b
end
section
variable{A0:Option Addr}
def rf_Endless(h:GH)(G:Gr)(w:World)(l:Yf w h G)(h1:h.n1<=100)(c:h.n2<=100)(d:h.n3<=100):
 Calls prog 126 #[GV h G.zt] w λe w'=>Below w w w'/\e = aR (aB (endG G)):=by
 obtain⟨a1,n1,c1,a2,n2,c2,a3,n3,c3⟩:=h;have r:=LH l;have f:=Zy w (aC #[K a1 n1 c1,K a2 n2 c2,K a3 n3 c3,aI aJ G.zt] 26);have j:=Y1.new w 26 ⟨a1,n1,c1,a2,n2,c2,a3,n3,c3⟩ G.zt;clear l;go_enter func126,ntmps126;have⟨y5,y0,y1,y2,y3⟩:=j;simp only[] at y0 y1 y2 y3;go_upto_region 1 with fail;generalize w.alloc (aC #[K a1 n1 c1,K a2 n2 c2,K a3 n3 c3,aI aJ G.zt] 26)=a at *;have o:=LH f;have g:=LH (r.out.below f);clear f j;have m:=LH λx:Ext a=>(Zvc ⟨a1,n1,c1,a2,n2,c2,a3,n3,c3⟩ G (bl a x) (g.out.below (Zr a x)) h1 c d).mono λe w' b=>And.intro b.2 b.1;have n:=LH λx:Ext a=>(Zvq ⟨a1,n1,c1,a2,n2,c2,a3,n3,c3⟩ G (bl a x) (g.out.below (Zr a x)) h1 c d).mono λe w' b=>And.intro b.2 b.1;have u:=and32 (Vh G) (Gy G) (Ztq G) (useG_lt G);have k:endG G=((((Vh G &&& Gy G:Nat):Int)) != 0):=by rw[bne_cast];rfl
 have q:=LH k;generalize Vh G &&& Gy G=z at *;generalize Vh G=v at *;generalize Gy G=y at *;have t:=Yt a;clear h1 c d k;refine Zs AB AB ?_;repeat (go_big_quiet_step (first
  | (go_at_call 61;with_reducible exact Ve (m.out _))
  | (go_at_call 127;with_reducible exact Ve (n.out _))))
 refine BJ ?_;rintro _⟨x,rfl⟩;have p:=LH (Zz o.out (Zr a x));generalize bl a x=s at *;go_wp2_with fail;go_ret;exact⟨p.out,by rw[q.out];rfl⟩
def rf_Order(h:GH)(G:Gr)(w:World)(r:Yf w h G)(h1:h.n1<=100)(h2:h.n2<=100)(h3:h.n3<=100):
 Calls prog 66 #[GV h G.zt] w (Mx G w):=by
 obtain⟨a1,n1,c1,a2,n2,c2,a3,n3,c3⟩:=h;have e2:(Q G.O)=n2:=r.O.len;have k2:=r.O.cap;simp only[] at h1 h2 h3 k2;have B:=LH r;have V:=Zy w (aC #[K a1 n1 c1,K a2 n2 c2,K a3 n3 c3,aI aJ G.zt] 26);have aa:=Y1.new w 26 ⟨a1,n1,c1,a2,n2,c2,a3,n3,c3⟩ G.zt;clear r;go_enter func66,ntmps66;have⟨z5,z0,z1,z2,z3⟩:=aa;simp only[] at z0 z1 z2 z3;go_wp2_with fail;generalize w.alloc (aC #[K a1 n1 c1,K a2 n2 c2,K a3 n3 c3,aI aJ G.zt] 26)=W0 at *;(with_reducible refine (Jr ⟨a1,n1,c1,a2,n2,c2,a3,n3,c3⟩ G W0 (B.out.below V) (by simp only[];omega) (by simp only[];omega) (by simp only[];omega)).mono ?_);rintro e Wr⟨rfl,k⟩;have F:=Zz V k;have ad:=aa.below k;clear z0 z1 z2 z3 z5 aa;have⟨y5,y0,y1,y2,y3⟩:=ad;simp only[] at y0 y1 y2 y3;rcases I:G.rt with _ | _
 ·go_wp2_with fail;go_ret2;exact Mx.fail (by unfold N5;rw[I];rfl) F
 have au:=LH I;have bm:=LH F;have cE:=rf_Endless ⟨a1,n1,c1,a2,n2,c2,a3,n3,c3⟩ G Wr (B.out.below F) (by simp only[];omega) (by simp only[];omega) (by simp only[];omega);have aq:Hid (N5 G=if endG G then ([],10) else ((Y4 (Yz G) (Qm G) (Q G.O) (Q G.O)).1,0)):=LH (by unfold N5;rw[I];rfl);have CE:=LH cE;clear I V k F cE;go_wp2_with fail;(with_reducible refine CE.out.mono ?_);rintro e d⟨k,rfl⟩;have y:=LH (Zz bm.out k);have ae:=ad.below k;clear k ad y0 y1 y2 y3 y5 CE;have⟨y5,y0,y1,y2,y3⟩:=ae;simp only[] at y0 y1 y2 y3;rcases H:endG G with _ | _
 case true =>
  have N:Hid (N5 G=([],10)):=LH (by rw[aq.out,H];rfl);clear H;go_wp2_with fail;go_ret2;exact Mx.fail N.out y.out
 have N:Hid (N5 G=((Y4 (Yz G) (Qm G) n2 n2).1,0)):=LH (by rw[aq.out,H,e2];rfl);have hu:Gy G=Qm G:=by unfold Gy;rw[au.out];rfl
 have CN:=LH λX (c:Below d d X)=>(Zss ⟨a1,n1,c1,a2,n2,c2,a3,n3,c3⟩ G X ((B.out.below y.out).below c) (by simp only[];omega) (by simp only[];omega) (by simp only[];omega)).mono λe w' m=>And.intro (Zz c m.1) (And.intro (LH m.1) (m.2.resolve_left λhc=>by rw[au.out] at hc;cases hc.1).2);have M:=LH λX (c:Below d d X)=>(Zvq ⟨a1,n1,c1,a2,n2,c2,a3,n3,c3⟩ G X ((B.out.below y.out).below c) (by simp only[];omega) (by simp only[];omega) (by simp only[];omega)).mono λe w' m=>And.intro (Zz c m.1) (And.intro (LH m.1) m.2);rw[hu] at M;have HS:Hid (∀a,Below d d a->a.cell? ⟨w,0,aN⟩=some (K a1 n1 c1)/\a.cell? ⟨w,1,aN⟩=some (K a2 n2 c2)/\a.cell? ⟨w,2,aN⟩=some (K a3 n3 c3)/\a.cell? ⟨w,3,aN⟩=some (aI aJ G.zt)/\Below d d a):=LH λa c=>⟨by rw[c.cell (by exact y5)];exact y0,by rw[c.cell (by exact y5)];exact y1,by rw[c.cell (by exact y5)];exact y2,by rw[c.cell (by exact y5)];exact y3,c⟩;clear H hu;go_upto_region 5 with fail;go_region_held3 (λa=>a.cell? ⟨w,0,aN⟩=some (K a1 n1 c1)/\a.cell? ⟨w,1,aN⟩=some (K a2 n2 c2)/\a.cell? ⟨w,2,aN⟩=some (K a3 n3 c3)/\a.cell? ⟨w,3,aN⟩=some (aI aJ G.zt)/\Below d d a)
  ((refine HS.out _ ?_;(repeat (first | assumption | exact AP _ _ | refine Below.drew ?_ | refine Zo ?_ _ | refine Zg ?_ _ _ _ (by (first | exact AJ _ | exact DO _ | exact Below.size AH | exact Nat.le_succ_of_le (Below.size AH) | (simp;done) | omega))));done))
  (first
    | (go_at_call 119;refine (CN.out _ (by (repeat (first | assumption | exact AP _ _ | refine Below.drew ?_ | refine Zo ?_ _ | refine Zg ?_ _ _ _ (by (first | exact AJ _ | exact DO _ | exact Below.size AH | exact Nat.le_succ_of_le (Below.size AH) | (simp;done) | omega)))))).mono ?_;rintro e w2⟨b5,bs,gS,b7,rfl,an⟩)
    | (go_at_call 127;refine (M.out _ (by (repeat (first | assumption | exact AP _ _ | refine Below.drew ?_ | refine Zo ?_ _ | refine Zg ?_ _ _ _ (by (first | exact AJ _ | exact DO _ | exact Below.size AH | exact Nat.le_succ_of_le (Below.size AH) | (simp;done) | omega)))))).mono ?_;rintro e t⟨W,ao,rfl⟩))
 have bq:Hid (V0 t gS (Yz G)):=Blk.hidden an ao;have bn:=LH (Zz y.out W);have bt:=LH (ae.below W);have bd:(Yz G).length=n2:=by rw[Wh];exact e2
 have be:=Ks G;have bi:=useS_lt G;generalize Yz G=S at *;generalize Qm G=use at *;have bw:=LH bd;have bx:=LH be;have aw:=LH bi;clear b5 bs b7 an ao W CN M HS y0 y1 y2 y3 y5 ae bd be bi;go_wp2_with fail;go_loopw [6,7,8] (λo s i wr=>∃(q:Nat) (A:Option Addr) (x:Nat),q<=n2/\i = aI aJ (q:Int)/\o = K A (Y4 S use n2 q).1.length x/\s = aI .u32 (((Y4 S use n2 q).2:Nat):Int) /\
  wr.ownsRow t 3 1 (K A (Y4 S use n2 q).1.length x) (Y4 S use n2 q).1.length (ints .i64 (Z6 (Y4 S use n2 q).1))/\Hid ((Y4 S use n2 q).1.length<=q)/\Below t t wr) (λo s i _=>n2-(intOf i).toNat)
 case atStart=>exact⟨0,aN,0,AV _,rfl,rfl,rfl,BL _ _ _ _,LH (AJ _),AP _ _⟩
 obtain⟨q,A,x,hq,rfl,rfl,rfl,g,ap,p⟩:=hrel;have cd:=p.size;have ab:=bt.out.below p;have⟨y5,y0,y1,y2,y3⟩:=ab;simp only[] at y0 y1 y2 y3;have J:=Nf S use n2 q;have ag:=Dl S n2 aw.out q;by_cases ci:q<n2
 case neg =>
  obtain rfl:q=n2:=AA
  have C:=LH g;have n:=LH p;clear J ag ab g p;go_wp2_with fail;go_ret2;exact Mx.good N.out (Zz bn.out n.out) C.out
 have bg:=ag.lt;have D:=LH bg;have a8:=ap.out;clear ag bg ab ap;have Y:∀i,Qx (U2 S use (Y4 S use n2 q).2) n2=some i->Y4 S use n2 (q+1)=((Y4 S use n2 q).1++[i],(Y4 S use n2 q).2 ||| Y6 (i:Int)):=λi hi=>by rw[J];exact Ly hi
 have Z:Qx (U2 S use (Y4 S use n2 q).2) n2=aN->Y4 S use n2 (q+1)=Y4 S use n2 q:=λhi=>by rw[J];exact Ln hi
 clear J;generalize bf:Y4 S use n2 (q+1)=ck at *;have av:=LH bf;clear bf;generalize Y4 S use n2 q=st at *;obtain⟨l,b⟩:=st;simp only[] at Y Z g a8 D;have HF:=LH Y;have HN:=LH Z;clear Y Z;have C:=LH g;have n:=LH p;clear g p;simp only[];go_wp2_with fail;go_loop [6,7,9] (λo s i=>o = K A (Q l) x/\s = aI .u32 (b:Int)/\∃j:Nat,j<=n2/\i = aI aJ (j:Int)/\Hid (∀f,f<j->U2 S use b f=false)) (λo s i=>n2-(intOf i).toNat)
 case atStart=>exact⟨rfl,rfl,0,AV _,rfl,LH λj h=>AA⟩
 obtain⟨rfl,rfl,j,hj,rfl,O⟩:=hrel;by_cases a7:j<n2
 case neg =>
  obtain rfl:j=n2:=AA
  have ah:=HN.out (findB_none O.out);subst ah;go_wp2_with fail;go_roundw
  case rel =>
   refine⟨q+1,A,x,AA,AF,?_⟩;rw[av.out];exact⟨rfl,rfl,C.out,LH (Nat.le_succ_of_le a8),n.out⟩
  simp[intOf];omega
 have br:Hid (V0 wr gS S):=Blk.ext bq.out n.out;have cc:=br.out.at (i:=j) (by rw[bw.out];exact a7);have ax:=Bl use j wr aw.out;have ay:=Bl b j wr D.out;have hv:=bx.out.get j;have cb:=andn32 (S.getD j 0) b hv D.out;have hz:=beq0_cast (Ck (S.getD j 0) b);have hp:U2 S use b j=(use.testBit j&&!b.testBit j&&(Ck (S.getD j 0) b==0)):=rfl;have cg:=or32 b (Y6 (j:Int)) D.out (Ua _);have cB:=λX=>Ch (j:Int) X;generalize Ck (S.getD j 0) b=z at *;generalize S.getD j 0=v at *;generalize use.testBit j=u at *;generalize b.testBit j=E at *;generalize (z==0)=T at *;have Hp:=LH hp;have C1:=LH ax;have C2:=LH ay;have CB:=LH cB;clear ax ay cB hp hv;have bb:U2 S use b j=false->Hid (∀f,f<j+1->U2 S use b f=false):=λhf=>LH λf cf=>by
  rcases BD f j with h | h
  ·exact O.out f h
  rw[show f=j by omega];exact hf
 have bv:=LH bb;clear bb;rcases (by cases u <;> cases E <;> cases T <;> simp:u=false\/(u=true/\E=true)\/(u=true/\E=false/\T=false)\/(u=true/\E=false/\T=true)) with rfl | ⟨rfl,rfl⟩ | ⟨rfl,rfl,rfl⟩ | ⟨rfl,rfl,rfl⟩
 case inr.inr.inr =>
  have ah:=HF.out j (findB_some a7 (by rw[Hp.out];rfl) O.out);subst ah;have g:=C.out;have b6:=n.out.size;have ba:(l++[j]).length=(Q l)+1:=AE
  have a9:ints .i64 (Z6 (l++[j]))=ints .i64 (Z6 l)++[aI aJ (j:Int)]:=by simp[ints,Z6]
  have R:=LH ba;have bu:=LH a9;clear ba a9;go_wp2_with (first
   | (go_at_call 120;(first | (with_reducible refine C1.out.mono ?_) | (with_reducible refine C2.out.mono ?_));rintro e w'⟨rfl,rfl⟩)
   | (go_at_call 121;(with_reducible refine (CB.out _).mono ?_);rintro e w'⟨rfl,rfl⟩)
   | (at_builtin;refine Vc (w:=wr) rfl _ _ 30 rfl t 3 (aI aJ 0) 8 underlying30 Tryz.infoInt rfl _ (Q l) _ _ rfl g (aI aJ ((j:Int))) rfl rfl AA AA AA ?_;intro L U w2 ho r))
  go_roundw
  case rel =>
   refine⟨q+1,L,U,AA,AF,?_⟩;rw[av.out];refine⟨?_,rfl,?_,LH (by show (l++[j]).length<=q+1;rw[R.out];omega),X6 n.out r g b6⟩
   ·show _=K L (l++[j]).length U;rw[R.out]
   show w2.ownsRow t 3 1 (K L (l++[j]).length U) (l++[j]).length (ints .i64 (Z6 (l++[j])));rw[R.out,bu.out];exact ho
  simp[intOf];omega
 all_goals
  have hf:=bv.out (by rw[Hp.out];rfl);go_wp2_with (go_at_call 120;(first | (with_reducible refine C1.out.mono ?_) | (with_reducible refine C2.out.mono ?_));rintro e w'⟨rfl,rfl⟩);go_round
  case rel=>exact⟨rfl,rfl,j+1,AA,AF,hf⟩
  simp[intOf];omega
section
open Go.Maps (Keyed IsMap Tidy)
theorem Cz(h:GH)(G:Gr)(w:World)(F:Yf w h G)(hs:∀t∈G.T,t.name.size<=maxLen)(h1:h.n1<=100)(h2:h.n2<=100)(h3:h.n3<=100):
 Calls prog 40 #[GV h G.zt] w (Zyo G w):=by
 obtain⟨a1,n1,c1,a2,n2,c2,a3,n3,c3⟩:=h;have e1:G.T.length=n1:=F.T.len;have e2:G.O.length=n2:=F.O.len;have e3:G.U.length=n3:=F.U.len;have k1:=F.T.cap;have k2:=F.O.cap;have k3:=F.U.cap;simp only[] at h1 h2 h3 k1 k2 k3;have Hg:=LH F;have Hs:=LH hs;have h7:=Zy w (.cells #[.slice a1 n1 c1,.slice a2 n2 c2,.slice a3 n3 c3,.int .i64 G.zt] 26);have fw:=Y1.new w 26 ⟨a1,n1,c1,a2,n2,c2,a3,n3,c3⟩ G.zt;clear F hs;go_enter func40,ntmps40;have⟨z5,z0,z1,z2,z3⟩:=fw;simp only[] at z0 z1 z2 z3;go_upto_region 1 with fail;have fv:=Zy (w.alloc (.cells #[.slice a1 n1 c1,.slice a2 n2 c2,.slice a3 n3 c3,.int .i64 G.zt] 26)) (.cells #[.slice none 0 0,.slice none 0 0,.slice none 0 0,.int .i64 0] 26);have fp:=Blk.new (w.alloc (.cells #[.slice a1 n1 c1,.slice a2 n2 c2,.slice a3 n3 c3,.int .i64 G.zt] 26)) 26 #[.slice none 0 0,.slice none 0 0,.slice none 0 0,.int .i64 0];have bq:=Zz h7 fv;have fx:=fw.below fv;have kf:(w.alloc (.cells #[.slice a1 n1 c1,.slice a2 n2 c2,.slice a3 n3 c3,.int .i64 G.zt] 26)).heap.size=w.heap.size+1:=Zl _ _;generalize (w.alloc (.cells #[.slice a1 n1 c1,.slice a2 n2 c2,.slice a3 n3 c3,.int .i64 G.zt] 26)).alloc (.cells #[.slice none 0 0,.slice none 0 0,.slice none 0 0,.int .i64 0] 26)=W1 at *;rw[kf] at fp;clear kf fv fw h7 z0 z1 z2 z3 z5;have jn:Hid (Blk W1 (w.heap.size+1) 26 #[.slice none 0 0,.slice none 0 0,.slice none 0 0,.int .i64 0]):=fp;have⟨y5,y0,D,y2,y3⟩:=fx;simp only[] at y0 D y2 y3;go_wp2_with fail;(with_reducible refine (J4 ⟨a1,n1,c1,a2,n2,c2,a3,n3,c3⟩ G W1 (Hg.out.below bq) Hs.out (by simp only[];omega) (by simp only[];omega)).mono ?_);rintro e S⟨rfl,ds⟩;have b9:=Zz bq ds;have ju:=fx.below ds;have ap:Blk S (w.heap.size+1) 26 #[.slice none 0 0,.slice none 0 0,.slice none 0 0,.int .i64 0]:=Blk.ext jn.out ds;clear ds fx bq fp jn y0 D y2 y3 y5;have r0:=ap.cell 0;have r1:=ap.cell 1;have r2:=ap.cell 2;have r3:=ap.cell 3;have f0:=ap.frozen 0;have f1:=ap.frozen 1;have f2:=ap.frozen 2;have f3:=ap.frozen 3;have dc:=LH ap;have bt:=LH b9;have d7:=LH ju;clear ap b9 ju;rcases cm:G.rt with _ | _
 case false =>
  have b1:Hid (Xp G=false):=LH (by unfold Xp;rw[cm];rfl);clear cm;go_wp2_with fail;refine AW (Yu (p:=2) (u:=3) (v:=4) AB _ _ (w.heap.size+1) 26 #[.slice none 0 0,.slice none 0 0,.slice none 0 0,.int .i64 0] (0,0) _ rfl ((((Blk.set (Blk.set (Blk.set (Blk.set dc.out 0 (.slice none 0 0)) 1 (.slice none 0 0)) 2 (.slice none 0 0)) 3 (.int .i64 0))))) underlying26 rfl AB) rfl ?_;exact⟨Zsh dc.out bt.out (DO _),.inl ⟨b1.out,1,AC,rfl⟩⟩
 have ce:=Gr.fits cm;have di:=LH cm;have ad:=LH ce;have j4:=ce.n1;have md:=ce.n2;have me:=ce.n3;rw[e1] at j4;rw[e2] at md;rw[e3] at me;have⟨y5,y0,D,y2,y3⟩:=d7.out;simp only[] at y0 D y2 y3;have HS:Hid (∀Y,Below S S Y->Y.cell? ⟨w,0,none⟩=some (.slice a1 n1 c1)/\Y.cell? ⟨w,1,none⟩=some (.slice a2 n2 c2)/\Y.cell? ⟨w,2,none⟩=some (.slice a3 n3 c3)/\Y.cell? ⟨w,3,none⟩=some (.int .i64 G.zt)/\Below S S Y):=LH λY a=>⟨by rw[a.cell (by exact y5)];exact y0,by rw[a.cell (by exact y5)];exact D,by rw[a.cell (by exact y5)];exact y2,by rw[a.cell (by exact y5)];exact y3,a⟩;have CP:=LH λX (a:Below S S X)=>(N4 ⟨a1,n1,c1,a2,n2,c2,a3,n3,c3⟩ G X ((Hg.out.below bt.out).below a) Hs.out (by simp only[];omega) (by simp only[];omega) (by simp only[];omega)).mono λe w' hh=>And.intro (Zz a hh.1) (And.intro (LH hh.1) (hh.2.resolve_left λhc=>by rw[di.out] at hc;cases hc.1).2);have CR:=LH λX (a:Below S S X)=>(tr_Reachable ⟨a1,n1,c1,a2,n2,c2,a3,n3,c3⟩ G X ((Hg.out.below bt.out).below a) Hs.out (by simp only[];omega) (by simp only[];omega) (by simp only[];omega)).mono λe w' hh=>And.intro (Zz a hh.1) (And.intro (LH hh.1) (hh.2.resolve_left λhc=>by rw[di.out] at hc;cases hc.1).2);clear cm ce r0 r1 r2 r3 f0 f1 f2 f3;go_upto_region 3 with fail;go_region_held3 (λY=>Y.cell? ⟨w,0,none⟩=some (.slice a1 n1 c1)/\Y.cell? ⟨w,1,none⟩=some (.slice a2 n2 c2)/\Y.cell? ⟨w,2,none⟩=some (.slice a3 n3 c3)/\Y.cell? ⟨w,3,none⟩=some (.int .i64 G.zt)/\Below S S Y)
  ((refine HS.out _ ?_;(repeat (first | assumption | exact AP _ _ | refine Below.drew ?_));done))
  (first
    | (go_at_call 88;with_reducible refine (CP.out _ (by (repeat (first | assumption | exact AP _ _ | refine Below.drew ?_)))).mono ?_;rintro e w7⟨lv,ku,gP,l5,rfl,g6⟩)
    | (go_at_call 89;with_reducible refine (CR.out _ (by (repeat (first | assumption | exact AP _ _ | refine Below.drew ?_)))).mono ?_;rintro e J⟨dn,he,gQ,l6,rfl,g7⟩))
 rename_i lw;clear lw;have g3:Hid (Z8 J gP (Zt G)):=Blk.hidden g6 he;have kp:Hid (Z8 J gQ (Z5 G)):=g7;have bc:=LH (Zz bt.out dn);have bz:=LH (d7.out.below dn);have W:Hid (Blk J (w.heap.size+1) 26 #[.slice none 0 0,.slice none 0 0,.slice none 0 0,.int .i64 0]):=Blk.ext dc.out dn;clear lv ku l5 g6 dn he l6 g7 CP CR HS y0 D y2 y3 y5 dc bt d7;have⟨y5,y0,D,y2,y3⟩:=bz.out;simp only[] at y0 D y2 y3;obtain⟨st,ge⟩:∃st:Nat,G.zt=(st:Int):=⟨G.zt.toNat,by have:=ad.out.st;omega⟩;have mo:st<n2:=by have:=ad.out.st;omega
 have b4:Hid (G.zt.toNat=st):=LH AA;have c0:=g3.out.at (i:=st) (by rw[Vx,e2];exact mo);have fa:Hid (Xp G=(Zt G).getD st false):=LH (by unfold Xp;rw[di.out,b4.out];rfl);rw[ge] at y3;have lj:=LH ge;clear ge;generalize kc:(Zt G).getD st false=pv at *;rcases pv with _ | _
 case false =>
  have r0:=W.out.cell 0;have r1:=W.out.cell 1;have r2:=W.out.cell 2;have r3:=W.out.cell 3;have f0:=W.out.frozen 0;have f1:=W.out.frozen 1;have f2:=W.out.frozen 2;have f3:=W.out.frozen 3;clear kc;go_wp2_with fail;refine AW (Yu (p:=2) (u:=3) (v:=4) AB _ _ (w.heap.size+1) 26 #[.slice none 0 0,.slice none 0 0,.slice none 0 0,.int .i64 0] (0,0) _ rfl ((((Blk.set (Blk.set (Blk.set (Blk.set W.out 0 (.slice none 0 0)) 1 (.slice none 0 0)) 2 (.slice none 0 0)) 3 (.int .i64 0))))) underlying26 rfl AB) rfl ?_;exact⟨Zsh W.out bc.out (DO _),.inl ⟨fa.out,9,AC,rfl⟩⟩
 clear kc;have CT:=LH (tr_CloneT a1 n1 c1 G.T J ((Hg.out.below bc.out).T) AA);have mb:=@run_makeMap prog;go_upto_region 8 with (go_at_call 90;(with_reducible refine CT.out.mono ?_);rintro e w9⟨fk,M,O,rfl,fq⟩);have jo:∀b,(Value.slice M n1 O).ownBlock=some b->b<w9.heap.size:=λb a=>(fq.lt b a).2;have ji:=Blk.new w9 26 #[.slice M n1 O,.slice none 0 0,.slice none 0 0,.int .i64 0];have jc:=Zy w9 (.cells #[.slice M n1 O,.slice none 0 0,.slice none 0 0,.int .i64 0] 26);have jq:=fq.alloc (.cells #[.slice M n1 O,.slice none 0 0,.slice none 0 0,.int .i64 0] 26);have mk:J.heap.size<=w9.heap.size:=fk.size;have gd:(w9.alloc (.cells #[.slice M n1 O,.slice none 0 0,.slice none 0 0,.int .i64 0] 26)).heap.size=w9.heap.size+1:=Zl _ _;have h8:=fk.trans (jc.mono mk);generalize w9.alloc (.cells #[.slice M n1 O,.slice none 0 0,.slice none 0 0,.int .i64 0] 26)=bp at *;generalize w9.heap.size=d at *;clear fq jc fk CT;go_upto_region 9 with fail;have fm:=Zy bp (.map #[] 0);have fo:NumM (bp.alloc (.map #[] 0)) bp []:=World.ownsMap_made _ _ _ _;have jj:=Blk.ext ji fm;have jr:=jq.alloc (.map #[] 0);have mm:(bp.alloc (.map #[] 0)).heap.size=bp.heap.size+1:=Zl _ _;have ja:=h8.trans (fm.mono (by rw[gd];omega));generalize bp.alloc (.map #[] 0)=wB at *;rw[gd] at fo mm;have n6:d+1<wB.heap.size:=AA
 have bd:Hid (Below J J wB):=ja;have g1:=LH fo;have g2:=LH jj;have g8:=LH jr;have d4:=LH jo;have km:=LH (Zz bc.out bd.out);clear fo fm ji jj jq jr h8 ja jo mb y0 D y2 y3 y5 c0;have⟨y5,y0,D,y2,y3⟩:=bz.out.below bd.out;simp only[] at y0 D y2 y3;clear gd;go_wp2_with fail;clear y0 D y2 y3 y5;go_loopw [7,43] (λkk i wz=>∃(q:Nat) (Ak:Option Addr) (T:Nat) (N:Option Addr) (P:Nat),q<=n3/\i = .int .i64 (q:Int)/\kk = .slice Ak (ksN G q).length T/\Hid (Dm wB d (d+1) (.slice M n1 O) G wz Ak T N P (ksN G q) (Wu (Wj G q)))) (λ_ i _=>n3-(intOf i).toNat)
 case atStart=>exact⟨0,none,0,none,0,AV _,rfl,rfl,LH ⟨Off.refl _ _,g1.out,g2.out,BL _ _ _ _,BL _ _ _ _⟩⟩
 obtain⟨q,Ak,T,N,P,hq,rfl,rfl,m⟩:=hrel;have R:Hid (Below J J wr):=bd.out.trans (m.out.off.is_below bd.out.size λk hk=>AA);have al:=LH (Zz bc.out R.out);have cc:=bz.out.below R.out;have⟨y5,y0,D,y2,y3⟩:=cc;simp only[] at y0 D y2 y3;clear cc;by_cases ci:q<n3
 case pos =>
  as_aux_lemma =>
   obtain⟨bb,ay,r,Ar,cr,rfl,cb,Hr,q0,q1,q2,cj⟩:=Hg.out.U.get ci;rw[<-al.out.cell (by exact cb)] at q0 q1 q2;have a:bb<wr.heap.size:=AK cb al.out.size;have dh:=LH cj;have ax:=AM Hr.out;obtain⟨l1,l2⟩:=ad.out.L r ax;obtain⟨f,cg⟩:∃f:Nat,r.L=(f:Int):=⟨r.L.toNat,AA⟩;have f4:f<n2:=AA
   have b0:Hid (r.L.toNat=f):=LH AA;have l9:=ad.out.len r ax;have bm:=ad.out.symB ax;rw[e2] at bm;have fc:=LH bm;rw[cg] at q0;have a6:=Zy wr (.cells #[.int .i64 (f:Int),.slice Ar r.rt.length cr,.int .i64 r.P] 60);have ca:=Blk.new wr 60 #[.int .i64 (f:Int),.slice Ar r.rt.length cr,.int .i64 r.P];have bw:=LH (m.out.below a6);have cz:=LH (R.out.trans (a6.mono R.out.size));have hn:Hid (∀b,(Value.slice Ak (ksN G q).length T).ownBlock=some b->b<wr.heap.size):=LH λb a=>(m.out.kept.lt b a).2;have oa:d+1<wr.heap.size:=m.out.num.lt;have ot:J.heap.size<=wr.heap.size:=R.out.size;clear bm l1 l2 cg ax cj;go_upto_region 12 with fail;generalize wr.alloc (.cells #[.int .i64 (f:Int),.slice Ar r.rt.length cr,.int .i64 r.P] 60)=C at *;generalize wr.heap.size=gX at *;have am:=LH ca;clear a6 ca m R al q0 q1 q2 a y0 D y2 y3 y5;have x0:=am.out.cell 0;have x1:=am.out.cell 1;have x2:=am.out.cell 2;have kl:=LH (Zz bc.out cz.out);have lP:Hid ((Zt G).length=n2):=LH (by rw[Vx,e2]);have jk:Z8 C gP (Zt G):=Blk.ext g3.out cz.out;have jm:Z8 C gQ (Z5 G):=Blk.ext kp.out cz.out;have cQ:=jm.at (i:=f) (by rw[K9,e2];exact f4);have CA:=F7 (f:Int) Ar cr gP n2 r.rt r.P (Zt G) C (dh.out.below kl.out) jk lP.out AA fc.out;rw[Zty] at CA;have CA:=LH CA;have de:Hid (Ky (Zt G) (Z5 G) r=((Z5 G).getD f false&&Xj true (Zt G) r.rt)):=LH (by unfold Ky;rw[b0.out]);have b1:Hid (Ky (Zt G) (Z5 G) r=false->ksN G (q+1)=ksN G q/\Wj G (q+1)=Wj G q):=ksN_no Hr.out;have hx:Hid (Ky (Zt G) (Z5 G) r=true->ksN G (q+1)=ksN G q++[q]/\Wj G (q+1)=Wj G q++[r]):=Zts Hr.out;generalize (Z5 G).getD f false=qv at *;generalize Xj true (Zt G) r.rt=av at *;clear jk jm;rcases qv with _ | _
   ·obtain⟨e4,e5⟩:=b1.out (by rw[de.out];rfl);have E4:=LH e4;have E5:=LH e5;clear e4 e5;go_wp2_with fail;go_roundw
    case rel=>exact⟨q+1,Ak,T,N,P,AA,AF,by rw[E4.out],LH (by rw[E4.out,E5.out];exact bw.out)⟩
    simp[intOf];omega
   rcases av with _ | _
   ·obtain⟨e4,e5⟩:=b1.out (by rw[de.out];rfl);have E4:=LH e4;have E5:=LH e5;clear e4 e5;go_wp2_with (go_at_call 91;(with_reducible refine CA.out.mono ?_);rintro e w'⟨rfl,bj⟩);go_roundw
    case rel=>exact⟨q+1,Ak,T,N,P,AA,AF,by rw[E4.out],LH (by rw[E4.out,E5.out];exact bw.out.below bj)⟩
    simp[intOf];omega
   obtain⟨e4,e5⟩:=hx.out (by rw[de.out];rfl);have E4:=LH e4;have E6:Hid (Wu (Wj G (q+1))=N3 (Wu (Wj G q)) f):=LH (by rw[e5,Vs,b0.out]);clear e4 e5 b1 hx de;have hf:Hid ((prog.info? 3).map (λi=>(i.zero,i.size,i.bytes))=some (some (.int .i64 0),1,8)):=Tryz.infoInt;have f6:=Zu9 G q;have n0:wB.heap.size<=C.heap.size:=bw.out.off.size;have mf:=Zsg G ad.out q;rw[e2] at mf;generalize ksN G q=ks at *;generalize Wu (Wj G q)=L at *;have d9:=LH (key_num f AA);have jg:d+1≠d:=AA
   by_cases bl:f∈L
   case pos =>
    as_aux_lemma =>
     have d8:Hid (decide (f∈L)=true):=LH (by simpa using bl);have b2:Hid (N3 L f=L):=LH (by unfold N3;rw[if_pos bl]);clear bl;go_wp2_with (first
      | (go_at_call 91;(with_reducible refine CA.out.mono ?_);rintro e wW⟨rfl,bj⟩
         have bf:=LH (bw.out.below bj);have d5:=LH (Blk.ext am.out bj);have l0:wB.heap.size<=wW.heap.size:=bf.out.off.size)
      | (at_builtin;refine Ye rfl _ _ 30 rfl wB 3 _ 1 8 underlying30 hf.out AC AC Ak ks.length T (ints .i64 (Z6 ks)) rfl bf.out.kept [.int .i64 (q:Int)] rfl rfl (by simp[Value.oneCell']) AA AA AA ?_;intro A5 c5 w5 Z F ha
         have be:=LH (bf.out.put AA AA q A5 c5 Z F);have a5:=d5.out.grown F (by intro e;have:=hn.out gX e.symm;omega);have kh:=a5.cell 0;have ki:=a5.lt;clear Z F ha a5)
      | (at_lookup;refine wpList_lookup_own_ok_int _ rfl _ _ 147 rfl 3 3 .i64 keyInt underlying147 underlying3 (zeroInt _) (d+1) L.length (Zys L) rfl be.out.num _ _ rfl d9.out ?_;intro cv ft gf;rw[Zt6,d8.out];clear ft gf))
     go_roundw
     case rel=>exact⟨q+1,A5,c5,N,P,AA,AF,by rw[E4.out,AU];rfl,LH (by rw[E4.out,E6.out,b2.out];exact be.out)⟩
     simp[intOf];omega
   as_aux_lemma =>
    have d8:Hid (decide (f∈L)=false):=LH (by simpa using bl);have b2:Hid (N3 L f=L++[f]):=LH (by unfold N3;rw[if_neg bl]);have k0:=LH bl;have kz:Hid ((prog.info? 9).map (λi=>(i.zero,i.size,i.bytes))=some (some (.string ByteArray.empty),1,16)):=LH AB;clear bl;go_upto_region 17 with (first
     | (go_at_call 91;(with_reducible refine CA.out.mono ?_);rintro e wW⟨rfl,bj⟩
        have bf:=LH (bw.out.below bj);have d5:=LH (Blk.ext am.out bj);have l0:wB.heap.size<=wW.heap.size:=bf.out.off.size)
     | (at_builtin;refine Ye rfl _ _ 30 rfl wB 3 _ 1 8 underlying30 hf.out AC AC Ak ks.length T (ints .i64 (Z6 ks)) rfl bf.out.kept [.int .i64 (q:Int)] rfl rfl (by simp[Value.oneCell']) AA AA AA ?_;intro A5 c5 w5 Z F ha
        have be:=LH (bf.out.put AA AA q A5 c5 Z F);have a5:=d5.out.grown F (by intro e;have:=hn.out gX e.symm;omega);have kh:=a5.cell 0;have ki:=a5.lt;have co:=be.out.out.cell 1;have kr:=LH a5;clear Z F ha a5)
     | (at_lookup;refine wpList_lookup_own_ok_int _ rfl _ _ 147 rfl 3 3 .i64 keyInt underlying147 underlying3 (zeroInt _) (d+1) L.length (Zys L) rfl be.out.num _ _ rfl d9.out ?_;intro cv ft gf;rw[Zt6,d8.out];clear ft gf)
     | (at_mapUpdate;refine wpList_mapUpdate_own _ rfl _ _ _ 147 rfl 3 3 keyInt underlying147 _ (d+1) L.length (Zys L) rfl be.out.num (by unfold maxLen;omega) _ _ _ rfl rfl d9.out _ [] (plainElem_int underlying3 (WalkArith.wf_i64 AA)) ?_;intro w6 j9 fz
        have bu:=LH (be.out.number AA AA jg k0.out j9 fz);have kt:=LH (kr.out.grown fz (by intro e;injection e with e;omega));clear j9 fz))
    have gy:Hid (Below J J w6):=bd.out.trans (bu.out.off.is_below bd.out.size λk hk=>AA);have jt:=bz.out.below gy.out;have fs:=kt.out;obtain⟨nb,no,nm,rfl,oh,k9,nq⟩:=(Hg.out.below (Zz bc.out gy.out)).O.get f4;have j7:nm=Ws G f:=by unfold Ws;rw[k9.out];rfl
    have ox:wB.heap.size<=w6.heap.size:=bu.out.off.size;have⟨y5,y0,D,y2,y3⟩:=jt;simp only[] at y0 D y2 y3;have x0:=fs.cell 0;have pj:=fs.lt;have nr:=bu.out.out.cell 1;have lq:=bu.out.out.lt;have dp:Below w6 w6 (w6.drew.alloc (.cells #[.string nm] 9)):=(AP w6 w6).drew.alloc (AJ _) _;have da:=LH (bu.out.below dp);have l8:wB.heap.size<=(w6.drew.alloc (.cells #[.string nm] 9)).heap.size:=by have:=dp.size;omega
    have ni:=LH dp;have la:=LH j7;clear jt fs j7 dp co kh ki;go_region_law (first
     | (refine V5 rfl _ _ 23 rfl wB 9 _ 1 16 underlying23 kz.out AC AC N L.length P (L.map λi=>Value.string (Ws G i)) (by simp[Act.eval,Act.put]) (by exact da.out.O) ⟨w6,0,none⟩ 1 1 [.string nm] rfl (by simp[Act.eval,Act.put]) (by exact Qn w6.drew [.string nm] _) (by simp[Value.oneCell']) AA AA (by exact l8) ?_;intro A6 c6 w7 Z br ha
        have b6:=da.out.out.grown br (by intro e;have:=(da.out.O.lt d e.symm).1;omega);have i1:=b6.cell 1;have i2:=b6.frozen 1;have HF:=LH (da.out.name AA AA jg A6 c6 (by rw[<-la.out];exact Z) br);clear b6 Z br ha))
    all_goals
     go_wp2_with fail;go_roundw
     case rel=>exact⟨q+1,A5,c5,A6,c6,AA,AF,by rw[E4.out,AU];rfl,LH (by rw[E4.out,E6.out,b2.out];exact HF.out)⟩
     simp[intOf];omega
 as_aux_lemma =>
  obtain rfl:n3=q:=AA
  obtain⟨wC,mq⟩:∃x,x=wr:=⟨wr,rfl⟩;subst mq;have lc:Hid (Wu (Wj G n3)=Ze G):=LH (by rw[<-e3,Jp];rfl);have f7:=Mh G n3 AA;have jz:Wj G n3=Yh G:=by rw[<-e3,Jp]
  rw[jz] at f7;have j1:∀i,i∈ksN G n3->i<n3:=λi hi=>ks_lt hi;have oe:=Zu9 G n3;rw[lc.out] at m;have og:(Ze G).length<=n2:=by have:=Zu7 ad.out;omega
  generalize j2:ksN G n3=ks at *;have k6:Hid (ksN G G.U.length=ks):=LH (by rw[e3];exact j2);clear j2;have gz:=LH m.out.num;have c9:=LH m.out.kept;have g0:=LH m.out.O;have kq:=LH (m.out.off.row g8.out λb a h=>by have:=d4.out b a;omega);have lx:Hid (Zyu wC d (.slice M n1 O) (.slice N (Ze G).length P) wC none 0 []):=LH ⟨Off.refl _ _,m.out.out,[],BL _ _ _ _,Kz.nil _ _⟩;have n7:d+1<wC.heap.size:=m.out.num.lt;have ou:wB.heap.size<=wC.heap.size:=m.out.off.size;have d0:=R;have hm:=LH f7;have k5:=LH j1;have f5:=(Yl m.out.kept).2;generalize j6:ks.length=I at *;have od:I<=T/\T<=9223372036854775807:=⟨f5.1,f5.2.1⟩;have k8:=LH j6;have lk:Hid (st∈Ze G):=LH (by have:=Jm ad.out (by rw[b4.out];have:=fa.out;unfold Xp at this;rw[AS,b4.out] at this;exact this.2);rwa [b4.out] at this);have os:J.heap.size<=wC.heap.size:=d0.out.size;clear m f7 jz j1 R al j6 bd km g2 g8 ci hq f5 g1;have g4:Hid ((Yh G).length=I):=hm.out.1.symm;clear y0 D y2 y3 y5;go_wp2_with fail;go_loopw [93] (λi wz=>∃(q:Nat) (A3:Option Addr) (ae:Nat),q<=I/\i = .int .i64 (q:Int)/\Hid (Zyu wC d (.slice M n1 O) (.slice N (Ze G).length P) wz A3 ae (((Yh G).take q).map (Wb (Ze G))))) (λi _=>I-(intOf i).toNat)
  case atStart=>exact⟨0,none,0,AV _,rfl,LH (by simpa using lx.out)⟩
  obtain⟨q,A3,ae,hq,rfl,m⟩:=hrel;have R:Hid (Below J J wr):=d0.out.trans (m.out.off.is_below d0.out.size λk hk=>AA);have al:=LH (Zz bc.out R.out);have cc:=bz.out.below R.out;have ov:wC.heap.size<=wr.heap.size:=m.out.off.size;have dt:(((Yh G).take q).map (Wb (Ze G))).length=q:=by rw[BI,BU,g4.out];omega
  have d3:Hid (NumM wr (d+1) (Ze G)):=gz.out.block (m.out.off.keep (d+1) gz.out.lt AA);have⟨y5,y0,D,y2,y3⟩:=cc;simp only[] at y0 D y2 y3;clear cc;by_cases ci:q<I
  case pos =>
   as_aux_lemma =>
    obtain⟨i,hi⟩:∃i,ks[q]? = some i:=⟨_,AL (by rw[k8.out];exact ci)⟩;have l7:=k5.out i (AM hi);obtain⟨r,gb,gc⟩:=hm.out.2 q i hi;have jf:wr.ownsRow wB 3 1 (.slice Ak I T) I (ints .i64 (Z6 ks)):=m.out.off.row c9.out λb a h=>by have:=(c9.out.lt b a).1;omega
    have je:Za .i64 wr Ak I T (Z6 ks):=Yl jf;obtain⟨kb,ko,kv,rfl,oc,k7,lp⟩:=je.get ci;obtain rfl:(i:Int)=kv:=by have h:=k7.out;rw[show (Z6 ks)[q]? = some (i:Int) by unfold Z6;rw[BB,hi];rfl] at h;exact BM h
    obtain⟨bb,ay,r',Ar,cr,rfl,cb,Hr,q0,q1,q2,cj⟩:=Hg.out.U.get l7;obtain rfl:r=r':=by have h:=Hr.out;rw[gb] at h;exact BM h
    rw[<-al.out.cell (by exact cb)] at q0 q1 q2;have a:bb<wr.heap.size:=AK cb al.out.size;have dh:=LH cj;have ax:=AM gb;have hv:Hid (r∈Yh G):=AM gc;obtain⟨l1,l2⟩:=ad.out.L r ax;obtain⟨f,cg⟩:∃f:Nat,r.L=(f:Int):=⟨r.L.toNat,AA⟩;have f4:f<n2:=AA
    have b0:Hid (r.L.toNat=f):=LH AA;have l9:=ad.out.len r ax;have bm:=ad.out.symB ax;rw[e2] at bm;have fc:=LH bm;rw[cg] at q0;have lg:=LH gc;have k4:Hid (f∈Ze G):=LH (by rw[<-b0.out];exact Zug hv.out);have a6:=Zy wr (.cells #[.int .i64 (f:Int),.slice Ar r.rt.length cr,.int .i64 r.P] 60);have ca:=Blk.new wr 60 #[.int .i64 (f:Int),.slice Ar r.rt.length cr,.int .i64 r.P];have ml:(wr.alloc (.cells #[.int .i64 (f:Int),.slice Ar r.rt.length cr,.int .i64 r.P] 60)).heap.size=wr.heap.size+1:=Zl _ _;have db:=LH (d3.out.block (a6.block (d+1) d3.out.lt));have cz:=LH (R.out.trans (a6.mono R.out.size));have d6:=LH a6;have kj:Hid (∀b,(Value.slice A3 (((Yh G).take q).map (Wb (Ze G))).length ae).ownBlock=some b->wC.heap.size<=b/\b<wr.heap.size):=LH λb a=>by obtain⟨cs,h3,_⟩:=m.out.U;exact h3.lt b a
    clear bm l1 l2 cg ax cj gc gb hi jf je a6;go_upto_region 23 with fail;generalize wr.alloc (.cells #[.int .i64 (f:Int),.slice Ar r.rt.length cr,.int .i64 r.P] 60)=C at *;have am:=LH ca;clear ca q0 q1 q2 a y0 D y2 y3 y5 lp;have x0:=am.out.cell 0;have x1:=am.out.cell 1;have x2:=am.out.cell 2;have xl:=am.out.lt;have ll:Hid ((Wb (Ze G) r).L=toI (Ze G) f):=LH (by show toI (Ze G) r.L.toNat=_;rw[b0.out]);have ht:Hid (∀X,Below C C X->(Instr.lookup 147 (.map (some (d+1))) (.int .i64 (f:Int)) false).run prog X = .ok (.int .i64 (toI (Ze G) f)) X):=LH λX hX=>(db.out.block (hX.block (d+1) db.out.lt)).look (Ub G) k4.out AA;have lh:=LH ((dh.out.below al.out).below d6.out);generalize toI (Ze G) f=tl at *;refine Xh (λX=>Below C C X) (λX X'=>Below X X X') (λu=>(⟨(GV ⟨a1,n1,c1,a2,n2,c2,some ⟨bb,ay,none⟩,n3,c3⟩ G.zt::Value.pointer (some ⟨w,0,none⟩)::Value.pointer (some ⟨w+1,0,none⟩)::Value.slice none 0 0::Value.int IntKind.i64 0::Value.slice (some ⟨gP,0,none⟩) n2 n2::Value.slice (some ⟨gQ,0,none⟩) n2 n2::Value.slice (some ⟨kb,ko,none⟩) I T::Value.pointer (some ⟨d,0,none⟩)::Value.map (some (d+1))::u10::u11::u12::u13::undef::Value.int IntKind.i64 (i:Int)::Value.pointer (some ⟨wr,0,none⟩)::u 10::u18::u19::Value.agg #[Value.slice a1 n1 c1,Value.slice a2 n2 c2,Value.slice (some ⟨bb,ay,none⟩) n3 c3,Value.int IntKind.i64 G.zt]::Value.bool true::Value.bool false::undef::Value.agg #[Value.slice a1 n1 c1,Value.slice a2 n2 c2,Value.slice (some ⟨bb,ay,none⟩) n3 c3,Value.int IntKind.i64 G.zt]::Value.slice (some ⟨gP,0,none⟩) n2 n2::Value.agg #[Value.slice a1 n1 c1,Value.slice a2 n2 c2,Value.slice (some ⟨bb,ay,none⟩) n3 c3,Value.int IntKind.i64 G.zt]::Value.slice (some ⟨gQ,0,none⟩) n2 n2::Value.slice (some ⟨gP,0,none⟩) n2 n2::Value.pointer (some ⟨w,3,none⟩)::Value.int IntKind.i64 (st:Int)::Value.pointer (some ⟨gP,st,none⟩)::Value.bool true::Value.bool false::undef::Value.pointer (some ⟨w,0,none⟩)::Value.slice a1 n1 c1::Value.slice M n1 O::Value.agg #[Value.slice M n1 O,Value.slice none 0 0,Value.slice none 0 0,Value.int IntKind.i64 0]::Value.map (some (d+1))::Value.pointer (some ⟨w,2,none⟩)::Value.slice (some ⟨bb,ay,none⟩) n3 c3::Value.int IntKind.i64 (n3:Int)::Value.int IntKind.i64 (n3:Int)::Value.bool false::u45::u46::u47::u48::u49::u50::u51::u52::u53::u54::u55::u56::u57::u58::u59::u60::u61::u62::u63::u64::u65::u66::u67::u68::u69::u70::u71::u72::u73::u74::u75::u76::u77::u78::u79::u80::u81::u82::u83::u84::u85::u86::u87::u88::u89::u90::Value.slice (some ⟨kb,ko,none⟩) I T::Value.int IntKind.i64 (I:Int)::Value.int IntKind.i64 (q:Int)::Value.bool true::Value.pointer (some ⟨kb,ko+q,none⟩)::Value.int IntKind.i64 (i:Int)::Value.pointer (some ⟨w,2,none⟩)::Value.slice (some ⟨bb,ay,none⟩) n3 c3::Value.int IntKind.i64 (i:Int)::Value.pointer (some ⟨bb,ay+i*3,none⟩)::Value.agg #[Value.int IntKind.i64 (f:Int),Value.slice Ar r.rt.length cr,Value.int IntKind.i64 r.P]::u 0::u 1::u 2::u 3::u 4::u 5::u 6::u 7::u 8::u 9::u112::u113::u114::u115::u116::u117::u118::u119::u120::u121::u122::u123::u124::u125::u126::u127::u128::u129::u130::u131::u132::u133::u134::u135::u136::u137::u138::undef::undef::undef::undef::undef::undef::undef::[]).toArray,[]⟩:Act)) [u102,u103,u104,u105,u106,u107,u108,u109,u110,u111,u17] [λv X=>v=Value.map (some (d+1)),λv X=>v=Value.pointer (some ⟨wr,0,none⟩),λv X=>v=Value.int .i64 (f:Int),λv X=>v=Value.int .i64 tl,λv X=>v=Value.pointer (some ⟨wr,1,none⟩),λv X=>v=Value.slice Ar r.rt.length cr,λv X=>∃B z,v=Value.slice B r.rt.length z/\World.ownsRow X C 3 1 (Value.slice B r.rt.length z) r.rt.length (ints .i64 r.rt),λv X=>v=Value.pointer (some ⟨wr,2,none⟩),λv X=>v=Value.int .i64 r.P,λv X=>∃B z,v=Value.agg #[Value.int .i64 tl,Value.slice B r.rt.length z,Value.int .i64 r.P]/\World.ownsRow X C 3 1 (Value.slice B r.rt.length z) r.rt.length (ints .i64 r.rt),λv X=>∃H,v=Value.pointer (some ⟨H,0,none⟩)/\C.heap.size<=H/\Blk X H 60 #[.int .i64 0,.slice none 0 0,.int .i64 0]] (λu X=>∃B z H,u 10=Value.pointer (some ⟨H,0,none⟩)/\C.heap.size<=H/\Blk X H 60 #[Value.int .i64 tl,Value.slice B r.rt.length z,Value.int .i64 r.P]/\World.ownsRow X C 3 1 (Value.slice B r.rt.length z) r.rt.length (ints .i64 r.rt)/\Below C C X) (l:=[_,_,_,_,_,_,_,_,_,_,_]) AB AB AB rfl rfl (AP _ _).drew ⟨AI,AI,AI,AI,AI,AI,(λ_ _ _ ⟨A,c,e,h⟩ a=>⟨A,c,e,Wv h λb _ hl=>a.block b hl⟩),AI,AI,(λ_ _ _ ⟨A,c,e,h⟩ a=>⟨A,c,e,Wv h λb _ hl=>a.block b hl⟩),(λ_ _ _ ⟨g,e,h,h2⟩ a=>⟨g,e,h,Blk.ext h2 a⟩),trivial⟩ ?_ ?_ ?_
    ·refine Zk.v0 ?_;refine Zk.v0 ?_;refine Zk.vf (λQ u X KK o y E=>?_) ?_
     ·have p1:u 1=_:=y 1 rfl;clear y;generalize u 1=x1 at *;subst p1;have fe:=(o.cell (p:=⟨wr,0,none⟩) xl).trans x0;go_simp;exact E
     refine Zk.vf (λQ u X KK o y E=>?_) ?_
     ·have p0:u 0=_:=y 0 rfl;have p2:u 2=_:=y 2 rfl;clear y;generalize u 0=x0 at *;subst p0;generalize u 2=x2 at *;subst p2;have j3:=ht.out X o;go_simp;exact E
     refine Zk.v0 ?_;refine Zk.vf (λQ u X KK o y E=>?_) ?_
     ·have p4:u 4=_:=y 4 rfl;clear y;generalize u 4=x4 at *;subst p4;have fe:=(o.cell (p:=⟨wr,1,none⟩) xl).trans x1;go_simp;exact E
     refine Zk.con (λQ u X o y KK E=>?_) ?_
     ·have p5:u 5=_:=y 5 rfl;clear y;rw[p5] at E⊢;have mi:=lh.out.below o;go_simp;(with_reducible refine (Zxu Ar r.rt.length cr r.rt X mi AA).mono ?_);rintro e w2⟨v2,rfl,ka,b9⟩;obtain⟨B,z,rfl⟩:=M3 ka;have mg:=Bv ka o.size;go_simp;exact E _ _ (Zz o b9) b9 ⟨B,z,rfl,mg⟩
     refine Zk.v0 ?_;refine Zk.vf (λQ u X KK o y E=>?_) ?_
     ·have p7:u 7=_:=y 7 rfl;clear y;generalize u 7=x7 at *;subst p7;have fe:=(o.cell (p:=⟨wr,2,none⟩) xl).trans x2;go_simp;exact E
     refine Zk.con (λQ u X o y KK E=>?_) ?_
     ·have p3:u 3=_:=y 3 rfl;obtain⟨B,z,p6,a7⟩:=y 6 rfl;have p8:u 8=_:=y 8 rfl;clear y;rw[p3] at E⊢;generalize u 6=x6 at *;subst p6;rw[p8] at E⊢;go_simp;exact E _ _ o (AP _ _) ⟨B,z,rfl,a7⟩
     refine Zk.con (λQ u X o y KK E=>?_) ?_
     ·go_simp;exact E _ _ (Zo o _) (Zy _ _) ⟨_,rfl,o.size,Blk.new _ _ _⟩
     exact Zk.nil
    ·intro Q u X o y KK E;obtain⟨B,z,p9,a7⟩:=y 9 AC;obtain⟨H,m0,jw,U⟩:=y 10 AC;clear y;generalize u 9=x9 at *;subst p9;generalize u 10=nh at *;subst m0;have fe:=U.cell 0;have nn:=U.cell 1;have np:=U.cell 2;have nv:=U.frozen 0;have nw:=U.frozen 1;have nx:=U.frozen 2;have oy:=U.lt;have j8:=(Off.of_set X H 0 (.int .i64 tl)).trans (Off.of_set _ H 1 (.slice B r.rt.length z)) λ_ _ h=>h;have f9:=j8.trans (Off.of_set _ H 2 (.int .i64 r.P)) λ_ _ h=>h;have kw:=LH (And.intro jw (And.intro (((U.set 0 (.int .i64 tl)).set 1 (.slice B r.rt.length z)).set 2 (.int .i64 r.P)) (And.intro (f9.row a7 λb a e=>Zxw a7 a U AC e) (o.trans (f9.is_below o.size λk hk=>AA)))));clear j8 f9 U a7;go_simp;exact E (λi=>([u 0,u 1,u 2,u 3,u 4,u 5,u 6,u 7,u 8,Value.agg #[Value.int .i64 tl,Value.slice B r.rt.length z,Value.int .i64 r.P],Value.pointer (some ⟨H,0,none⟩)]:List Value).getD i undef) _ (⟨B,z,H,rfl,kw.out⟩)
    intro u W9 l4;generalize u 10=nh at *;obtain⟨B,z,H,rfl,jw,U,a7,jb⟩:=l4;have HY:=LH U;have dg:=LH a7;have c8:=LH jb;have D:=U.cell 1;have yl:=U.lt;clear U a7 jb x0 x1 x2 ht;have n4:=dh.out.cap;go_wp2_with fail;clear D;obtain⟨wE,mr⟩:∃x,x=wr:=⟨wr,rfl⟩;subst mr;have ma:ints .i64 (((r.rt.take 0).map (Xd (Ze G)))++r.rt.drop 0)=ints .i64 r.rt:=AE
    have jv:d+1<C.heap.size:=db.out.lt;go_loopw [115] (λi wz=>∃kk:Nat,kk<=r.rt.length/\i = .int .i64 (kk:Int)/\Hid (Off (λk=>(Value.slice B r.rt.length z).ownBlock=some k) W9 wz)/\Hid (wz.ownsRow C 3 1 (.slice B r.rt.length z) r.rt.length (ints .i64 (((r.rt.take kk).map (Xd (Ze G)))++r.rt.drop kk)))) (λi _=>r.rt.length-(intOf i).toNat)
    case atStart=>exact⟨0,AV _,rfl,LH (Off.refl _ _),LH (by rw[ma];exact dg.out)⟩
    obtain⟨kk,j0,rfl,bv,Ho⟩:=hrel;have dd:=LH (bv.out.blk HY.out λe=>Zxw dg.out e HY.out AC rfl);have D:=dd.out.cell 1;have pl:=dd.out.lt;have n5:=(Yl Ho.out).2;by_cases f6:kk<r.rt.length
    case pos =>
     obtain⟨gC,u,rfl,n8,n9,Hu,cu,fu⟩:=Gh Ho.out (j:=kk) f6;obtain⟨V,b5⟩:∃V,Hid (r.rt[kk]? = some V):=⟨_,LH (AL f6)⟩;have cf:(((r.rt.take kk).map (Xd (Ze G)))++r.rt.drop kk)[kk]? = some V:=by
      rw[BX (by rw[BI,BU];omega),BI,BU,Nat.min_eq_left j0,Nat.sub_self,DX,DN];exact b5.out
     have hu:u = .int .i64 V:=by have:=Hu.out;unfold ints at this;rw[BB,cf] at this;exact (BM this).symm
     subst hu;have mj:=fc.out V (AM b5.out);have df:Hid ((((r.rt.take kk).map (Xd (Ze G)))++r.rt.drop kk).set kk (Xd (Ze G) V)=((r.rt.take (kk+1)).map (Xd (Ze G)))++r.rt.drop (kk+1)):=LH (by
      have hd:r.rt.drop kk=V::r.rt.drop (kk+1):=by
       have h1:=AN.1 b5.out;rw[Eb h1.1,h1.2]
      rw[hd,List.set_append_right _ _ AG,BI,BU,Nat.min_eq_left j0,Nat.sub_self,Ya b5.out,DI,DW];rfl)
     by_cases h0:0<=V
     ·as_aux_lemma =>
       have cl:Xd (Ze G) V=V:=by unfold Xd;rw[if_neg AA]
       have mc:¬(V<0):=AA
       have li:Hid ((((r.rt.take kk).map (Xd (Ze G)))++r.rt.drop kk)=((r.rt.take (kk+1)).map (Xd (Ze G)))++r.rt.drop (kk+1)):=LH (by
        have h9:=df.out;rw[cl] at h9;rw[<-h9];refine List.ext_getElem? λj=>?_;by_cases hj:kk=j
        ·subst hj;rw[List.getElem?_set_self (by have:=(AN.1 cf).1;exact this),cf]
        rw[List.getElem?_set_ne hj])
       clear cl cf df;go_wp2_with fail;go_roundw
       case rel=>exact⟨kk+1,AA,AF,bv,LH (by rw[<-li.out];exact Ho.out)⟩
       simp[intOf];omega
     as_aux_lemma =>
      obtain⟨jp,ob,j5,hw⟩:=Vy (s:=V) (n:=n2) AA mj.1 AA;have cl:Xd (Ze G) V=-1-toI (Ze G) jp:=by unfold Xd;rw[if_pos AA,j5]
      have jy:jp∈Ze G:=by rw[<-j5];exact Qz ad.out hv.out (AM b5.out) AA
      have jh:NumM wr (d+1) (Ze G):=(db.out.block (c8.out.block (d+1) jv)).block (bv.out.keep (d+1) (AK jv c8.out.size) λe=>by have:=(dg.out.lt (d+1) e).1;omega);have j3:=jh.look (Ub G) jy AA;have om:=Df (Ze G) jp;have oq:IntKind.i64.wrap (-1-toI (Ze G) jp)=-1-toI (Ze G) jp:=BZ _ AA;have mc:V<0:=AA
      have ke:=Lt Ho.out kk (.int .i64 (-1-toI (Ze G) jp));have mn:Hid ((wr.setCell ⟨gC,kk,none⟩ (.int .i64 (-1-toI (Ze G) jp))).ownsRow C 3 1 (.slice (some ⟨gC,0,none⟩) r.rt.length z) r.rt.length (ints .i64 (((r.rt.take (kk+1)).map (Xd (Ze G)))++r.rt.drop (kk+1)))):=LH (by
       rw[<-df.out,cl];have e9:ints .i64 ((((r.rt.take kk).map (Xd (Ze G)))++r.rt.drop kk).set kk (-1-toI (Ze G) jp))=(ints .i64 (((r.rt.take kk).map (Xd (Ze G)))++r.rt.drop kk)).set kk (.int .i64 (-1-toI (Ze G) jp)):=by unfold ints;rw[List.map_set]
       rw[e9];exact ke)
      clear cl cf df ke jh jy;generalize toI (Ze G) jp=tj at *;go_wp2_with fail;go_roundw
      case rel=>exact⟨kk+1,AA,AF,LH (bv.out.trans (Off.of_set wr gC kk (.int .i64 (-1-tj))) λk _ h=>by rw[h];rfl),mn⟩
      simp[intOf];omega
    obtain rfl:r.rt.length=kk:=AA
    as_aux_lemma =>
     have oj:C.heap.size=wE.heap.size+1:=ml;have fl:Below wE wE wr:=(Zz d6.out c8.out).trans (bv.out.is_below (by have:=c8.out.size;have:=d6.out.size;omega) λk hk=>by have:=(dg.out.lt k hk).1;omega);have bx:=LH (m.out.below fl);obtain⟨cs,h3,fy⟩:=bx.out.U;have H3:=LH h3;have co:=bx.out.out.cell 2;have lq:=bx.out.out.lt;have kn:=LH bx.out.out;have ld:Hid (((Yh G).take (q+1)).map (Wb (Ze G))=((Yh G).take q).map (Wb (Ze G))++[Wb (Ze G) r]):=LH (by rw[Ya lg.out,DI];rfl);have hI:Za .i64 wr B r.rt.length z (r.rt.map (Xd (Ze G))):=by
      have:=Yl Ho.out;rw[AQ (AJ _),List.drop_length,DJ] at this;exact this
     have b2:=LH λw7 A7 c7 Z F a=>Zyu.put bx.out AA (Wb (Ze G) r) (Ar:=B) (cr:=z) (by show Za .i64 wr B (r.rt.map (Xd (Ze G))).length z (r.rt.map (Xd (Ze G)));rw[BI];exact hI)
      (λb ay a=>by have h1:=Ho.out.lt b (by rw[a];rfl);refine⟨h1.2,AA,λh=>?_⟩;have:=(kj.out b h).2;omega) (w1:=w7) A7 c7 Z F a
     have pm:=dd.out.cell 0;have pn:=dd.out.cell 2;have ky:Hid ((prog.info? 60).map (λi=>(i.zero,i.size,i.bytes))=some (some (.agg #[.int .i64 0,.slice none 0 0,.int .i64 0]),3,40)):=LH AB;have ow:wC.heap.size<=wr.heap.size:=by have:=fl.size;omega
     have oi:(((Yh G).take q).map (Wb (Ze G))).length<60:=AA
     generalize ((Yh G).take q).map (Wb (Ze G))=rs at *;clear dt h3 fy fl hI;go_wp2_with (first
      | (at_builtin;refine Ye rfl _ _ 24 rfl wC 60 _ 3 40 underlying24 ky.out AC AC A3 rs.length ae cs rfl H3.out [.int .i64 tl,.slice B r.rt.length z,.int .i64 r.P] rfl rfl (by simp[Value.oneCell']) AA AA AA ?_;intro A7 c7 w7 Z F ha
         have b7:=kn.out.grown F (by intro e;have:=(H3.out.lt d e.symm).1;omega);have i1:=b7.cell 2;have i2:=b7.frozen 2;have nj:=b7.lt;have HF:=LH (b2.out w7 A7 c7 (λns h1=>by rw[Cx h1 H3.out];show w7.ownsRow _ _ _ _ _ (cs++[.int .i64 (Wb (Ze G) r).L,.slice B (r.rt.map (Xd (Ze G))).length z,.int .i64 r.P]);rw[ll.out,BI];exact Z) F ha);clear b7 Z F ha))
     go_roundw
     case rel=>exact⟨q+1,A7,c7,AA,AF,LH (by rw[ld.out];exact HF.out)⟩
     simp[intOf];omega
  as_aux_lemma =>
   obtain rfl:I=q:=AA
   have d2:=LH (m.out.off.row c9.out λb a h=>by have:=(c9.out.lt b a).1;omega);have js:((Yh G).take I).map (Wb (Ze G))=(Yh G).map (Wb (Ze G)):=by rw[AQ (by rw[g4.out];exact AJ _)]
   rw[js] at m dt;have j3:=d3.out.look (Ub G) lk.out AA;have o0:=m.out.out.cell 0;have o1:=m.out.out.cell 1;have o2:wr.cell? ⟨d,2,none⟩=some (.slice A3 I ae):=by have:=m.out.out.cell 2;rw[dt] at this;exact this
   have o3:=m.out.out.cell 3;have o8:=m.out.out.frozen 3;have ol:=m.out.out.lt;have au:Blk wr (w.heap.size+1) 26 #[.slice none 0 0,.slice none 0 0,.slice none 0 0,.int .i64 0]:=Blk.ext W.out R.out;have r0:=au.cell 0;have r1:=au.cell 1;have r2:=au.cell 2;have r3:=au.cell 3;have f0:=au.frozen 0;have f1:=au.frozen 1;have f2:=au.frozen 2;have f3:=au.frozen 3;have nz:=au.lt;have ny:=W.out.lt;have ly:w.heap.size+1≠d:=AA
   rw[lj.out] at y3;have lf:Hid ((Zi G).zt=toI (Ze G) st):=LH (by show toI (Ze G) G.zt.toNat=_;rw[b4.out]);have ga:Xp G=true:=fa.out;have hH:=Gr.fits (Ju di.out (by have:=ga;unfold Xp at this;rw[AS] at this;exact this.2));have lb:=LH ga;have fr:=m.out.off.row kq.out λb a h=>by have:=d4.out b a;omega
   have fn:=m.out.off.row g0.out λb a h=>by have:=(g0.out.lt b a).1;omega
   have br:∀wF,Off (λk=>k=d\/k=w.heap.size+1) wr wF->Yf wF ⟨M,n1,O,N,(Ze G).length,P,A3,I,ae⟩ (Zi G):=λwF ch=>by
    obtain⟨cs,h3,fy⟩:=m.out.U;refine⟨Cr (ch.row fr λb a h=>by have h1:=d4.out b a;have h2:=(fr.lt b a).1;omega),?_,?_,λr hr s hs=>?_⟩
    ·have:=Yl (ch.row fn λb a h=>by have h1:=(fn.lt b a).1;omega);rw[show ((Ze G).map λi=>Value.string (Ws G i))=((Ze G).map (Ws G)).map Value.string by rw[List.map_map];rfl] at this;exact this
    ·have:=Cn (ch.row h3 λb a h=>by have h1:=(h3.lt b a).1;omega) (fy.keep ch.size λk hk ha=>⟨ch.keep k hk λh=>by have h1:=ha.1;omega,ha⟩);rw[dt] at this;exact this
    have h1:=hH.sym r hr s hs;have h2:=hH.n2;have h3:=hH.n1;unfold U3;omega
   have kx:=LH br;generalize toI (Ze G) st=ts at *;clear js fr fn br ga hH;go_wp2_with fail;have dr:=Off.of_set wr d 3 (.int .i64 ts);have s0:=Off.of_set (wr.setCell ⟨d,3,none⟩ (.int .i64 ts)) (w.heap.size+1) 0 (.slice M n1 O);have s1:=s0.trans (Off.of_set _ (w.heap.size+1) 1 (.slice N (Ze G).length P)) λ_ _ h=>h;have s2:=s1.trans (Off.of_set _ (w.heap.size+1) 2 (.slice A3 I ae)) λ_ _ h=>h;have s3:=s2.trans (Off.of_set _ (w.heap.size+1) 3 (.int .i64 ts)) λ_ _ h=>h;have bq:Below w w (wr.setCell ⟨d,3,none⟩ (.int .i64 ts)):=al.out.trans (dr.is_below al.out.size λk hk=>AA);have lz:Blk (wr.setCell ⟨d,3,none⟩ (.int .i64 ts)) (w.heap.size+1) 26 #[.slice none 0 0,.slice none 0 0,.slice none 0 0,.int .i64 0]:=dr.blk (Blk.ext W.out R.out) ly;refine AW (Yu (p:=2) (u:=3) (v:=4) AB _ _ (w.heap.size+1) 26 #[.slice M n1 O,.slice N (Ze G).length P,.slice A3 I ae,.int .i64 ts] (0,0) _ rfl (Blk.set (Blk.set (Blk.set (Blk.set lz 0 (.slice M n1 O)) 1 (.slice N (Ze G).length P)) 2 (.slice A3 I ae)) 3 (.int .i64 ts)) underlying26 rfl AB) rfl ?_;refine⟨bq.trans (s3.is_below bq.size λk hk=>AA),.inr ⟨lb.out,⟨M,n1,O,N,(Ze G).length,P,A3,I,ae⟩,Ak,I,T,?_,?_,j4,by simp only[];omega,by simp only[];omega,by rw[k6.out];exact Yl (s3.row (dr.row d2.out λb a h=>by have:=(d2.out.lt b a).1;omega) λb a h=>by have:=(d2.out.lt b a).1;omega)⟩⟩
   ·rw[lf.out];rfl
   exact kx.out _ ((offX dr s3))
def Zuf(h:GH)(G:Gr)(w:World)(c:Yf w h G)(f:∀t∈G.T,t.name.size<=maxLen)(h1:h.n1<=100)(a:h.n2<=100)(b:h.n3<=100):
 Calls prog 40 #[GV h G.zt] w (Dh G w):=(Cz h G w c f h1 a b).mono λe w' d=>d.plain
def Zxm{f w W:World}{k:BkH}{h:GH}{G:Gr}{S S':Nat->Prop}{g x:Nat}{A:Option Addr}{n c:Nat}{b:Bool}{n0 c0:Nat}{b0:Bool}(C:Wd f k h G S' W)(a:Blk W g 168 #[K A0 n0 c0,aB b0])(s:Z1 W A n c b x)(m:Off k.map w W)(o:S' g)(h0:f.heap.size<=g)(t:w.heap.size<=g)(r:∀q,S q->S' q):
 Blk ((W.setCell ⟨g,0,aN⟩ (K A n c)).setCell ⟨g,1,aN⟩ (aB b)) g 168 #[K A n c,aB b]/\Zuw f k h G S w x (aR (aG #[K A n c,aB b])) ((W.setCell ⟨g,0,aN⟩ (K A n c)).setCell ⟨g,1,aN⟩ (aB b)):=by
 have j:Off (λq=>q=g) W ((W.setCell ⟨g,0,aN⟩ (K A n c)).setCell ⟨g,1,aN⟩ (aB b)):=(Off.of_set W g 0 (K A n c)).trans (Off.of_set _ g 1 (aB b)) λ_ _ h=>h;have l:Zf W ((W.setCell ⟨g,0,aN⟩ (K A n c)).setCell ⟨g,1,aN⟩ (aB b)):=Zf.of_off j λq d=>by rw[d];exact Jk a
 have p:=C.not_map a;refine⟨(a.set 0 _).set 1 _,(C.move j l λq d=>?_).less r,m.trans j λq d e=>AA,A,n,c,b,rfl,s.kept l⟩;subst d;refine⟨o,h0,?_,p⟩;rintro rfl;have h1:=C.box;unfold Blk at h1 a;rw[h1] at a;injection a with a;injection a with _ h3 _;exact absurd h3 AC
end
def tr_Is(h:GH)(G:Gr)(w:World)(E:Yf w h G)(M:∀t∈G.T,t.name.size<=maxLen)(h1:h.n1<=100)(z:h.n2<=100)(A:h.n3<=100):
 Calls prog 93 #[GV h G.zt] w λe w'=>e = aR (aB (Q9 G))/\Below w w w':=by
 obtain⟨a1,n1,c1,a2,n2,c2,a3,n3,c3⟩:=h;simp only[] at h1 z A;have x:=LH E;have R:=LH M;have u:=Zy w (aC #[K a1 n1 c1,K a2 n2 c2,K a3 n3 c3,aI aJ G.zt] 26);have o:=Y1.new w 26 ⟨a1,n1,c1,a2,n2,c2,a3,n3,c3⟩ G.zt;clear E M;go_enter func93,ntmps93;have⟨z5,z0,z1,z2,z3⟩:=o;simp only[] at z0 z1 z2 z3;go_wp2_with fail;generalize w.alloc (aC #[K a1 n1 c1,K a2 n2 c2,K a3 n3 c3,aI aJ G.zt] 26)=S at *;have g:=Zuf ⟨a1,n1,c1,a2,n2,c2,a3,n3,c3⟩ G S (x.out.below u) R.out h1 z A;unfold Dh at g;(with_reducible refine g.mono ?_);rintro e a⟨n,⟨J,U,X,rfl⟩ | ⟨L,V,Ak,nk,ck,rfl,F,Y,Z,m3⟩⟩
 ·have b:=Zz u n;have p:Q9 G=false:=by unfold Q9;rw[J];rfl
  have af:(U==0)=false:=by rw[AR];exact X
  clear g J z0 z1 z2 z3 z5 o;go_wp2_with fail;go_ret;exact⟨by rw[p];rfl,b.trans ((Zy a _).mono b.size)⟩
 have b:=Zz u n;have B:=o.below n;obtain⟨c,q,j,d,r,k,f,s,l⟩:=V;have p:Q9 G=eqG G (Zi G):=by unfold Q9;rw[L];rfl
 generalize Zi G=H at *;clear g z0 z1 z2 z3 z5 o L;have m:=Zy a (aC #[K c q j,K d r k,K f s l,aI aJ H.zt] 26);have D:=Y1.new a 26 ⟨c,q,j,d,r,k,f,s,l⟩ H.zt;have C:=B.below m;have v:=Zz b m;have I:=F.below m;go_upto_region 2 with fail;generalize a.alloc (aC #[K c q j,K d r k,K f s l,aI aJ H.zt] 26)=T at *;generalize a.heap.size=gH at *;have y:=tr_Same ⟨a1,n1,c1,a2,n2,c2,a3,n3,c3⟩ ⟨c,q,j,d,r,k,f,s,l⟩ G H T (x.out.below v) I;have N:=LH y;have P:=LH p;have O:=LH v;have⟨y5,y0,y1,y2,y3⟩:=C;simp only[] at y0 y1 y2 y3;have⟨x5,x0,x1,x2,x3⟩:=D;simp only[] at x0 x1 x2 x3;clear y p v C D I m n b B F Y Z m3;go_wp2_with (go_at_call 152;(with_reducible refine N.out.mono ?_);rintro e w6⟨rfl,W⟩);go_ret;exact⟨by rw[P.out];rfl,Zz O.out W⟩
section
open Go.Maps (Keyed IsMap Tidy)
variable {W0:World} {k:BkH} {h:GH} {G:Gr} {S':Nat->Prop} {w:World} {gR:Nat} {b:Nat->Bool} {u:Nat->Value} {X:World}
def PM.wrote(H:PM W0 k h G S' w gR b u X)(i j p:Nat)(hi:i=14/\j=12/\p=4\/i=15/\j=13/\p=11)(x:b j=true){A:Option Addr}{n c:Nat}{d:Bool}(hp:u p = aG #[K A n c,aB d])(hw:w.heap.size<=gR)(ag:W0.heap.size<=gR):
 ∃g A0 n0 c0 C,u j = aP (some ⟨g,0,aN⟩)/\Blk X g 168 #[K A0 n0 c0,aB C]/\∀v,PM W0 k h G S' w gR (Mz b i) (upd u i v) ((X.setCell ⟨g,0,aN⟩ (K A n c)).setCell ⟨g,1,aN⟩ (aB d))/\Zf X ((X.setCell ⟨g,0,aN⟩ (K A n c)).setCell ⟨g,1,aN⟩ (aB d)):=by
 obtain⟨⟨o,a1,a2,a3,D,E⟩,M,N,B⟩:=H;have U:Cel o gR X (u j) false undef:=by
  rcases hi with ⟨rfl,rfl,rfl⟩ | ⟨rfl,rfl,rfl⟩
  ·obtain⟨g,A,n,c,d,e,r,l,a,_⟩:=D x;exact⟨g,A,n,c,d,e,r,l,a,nofun⟩
  obtain⟨g,A,n,c,d,e,r,l,a,_⟩:=E x;exact⟨g,A,n,c,d,e,r,l,a,nofun⟩
 obtain⟨g,A0,n0,c0,C,e,r,l,a,_⟩:=U;refine⟨g,A0,n0,c0,C,e,a,λv=>?_⟩;have m:Off (λq=>q=g) X ((X.setCell ⟨g,0,aN⟩ (K A n c)).setCell ⟨g,1,aN⟩ (aB d)):=(Off.of_set X g 0 (K A n c)).trans (Off.of_set _ g 1 (aB d)) λ_ _ h=>h;have F:Zf X ((X.setCell ⟨g,0,aN⟩ (K A n c)).setCell ⟨g,1,aN⟩ (aB d)):=Zf.of_off m λq f=>by rw[f];exact Jk a
 have P:Blk ((X.setCell ⟨g,0,aN⟩ (K A n c)).setCell ⟨g,1,aN⟩ (aB d)) g 168 #[K A n c,aB d]:=(a.set 0 _).set 1 _;have V:g≠k.c:=by
  rintro rfl;have h1:=a1.box;unfold Blk at h1 a;rw[h1] at a;injection a with a;injection a with _ h3 _;exact absurd h3 AC
 have W:=a1.not_map a;have S:=a1.move m F λq f=>by subst f;exact⟨l,AA,V,W⟩
 have Z:=M.trans m λq f e=>AA
 have i1:4≠i:=AA
 have i2:11≠i:=AA
 have y:12≠i:=AA
 have z:13≠i:=AA
 have I:∀{v:Value} {s:Bool} {L:Value},v≠u j->Cel o gR X v s L->Cel o gR ((X.setCell ⟨g,0,aN⟩ (K A n c)).setCell ⟨g,1,aN⟩ (aB d)) v s L:=λY T=>T.mono (λq f=>f) λg' t cs O R=>m.blk R (by rintro rfl;exact Y (O.trans e.symm));have J:∀(s:Bool),Cel o gR ((X.setCell ⟨g,0,aN⟩ (K A n c)).setCell ⟨g,1,aN⟩ (aB d)) (u j) s (u p):=λs=>⟨g,A,n,c,d,e,r,l,P,λ_=>hp⟩;refine⟨⟨⟨o,S,a2,λq f=>AK (a3 q f) m.size,?_,?_⟩,Z,m.blk N (λe=>AA),?_⟩,F⟩
 ·rw[Ys y,Yj y,Yj i1];rcases hi with ⟨rfl,rfl,rfl⟩ | ⟨rfl,rfl,rfl⟩
  ·exact λ_=>J _
  rw[Ys AA];exact λh=>I (B h x) (D h)
 ·rw[Ys z,Yj z,Yj i2];rcases hi with ⟨rfl,rfl,rfl⟩ | ⟨rfl,rfl,rfl⟩
  ·rw[Ys AA];exact λh=>I (B x h).symm (E h)
  exact λ_=>J _
 rw[Ys y,Yj y,Ys z,Yj z];exact B
end
section
variable {W0:World} {k:BkH} {h:GH} {G:Gr} {mk:Nat} {cs:List Nat} {S:Nat->Prop} {A:Option Addr} {c:Nat} {W:World}
def Me.off{a:World}(M:Me W0 k h G mk cs S A c W)(C:Wd W0 k h G S a)(b:Off k.map W a):Me W0 k h G mk cs S A c a :=
 ⟨C,b.blk M.box (M.bk.not_map M.box),M.row.off b λg f=>by
   obtain⟨_,_,q,d⟩:=M.row.blk f;exact M.bk.not_map d,M.own,λq d=>AK (M.lt q d) b.size,M.low,M.few⟩
end
end
section
variable{B j g l:Nat}{a f d:Option Addr}{ops:Array Oper}{rest:List Oper}{w' w1:World}{wd ps:List Int}{row:Option Nat}
def rf_one_mark(A:Option Addr)(n c i:Nat)(xs:List Nat)(w:World)(h:Zq .u8 w A n c xs)(j:∀x∈xs,x<256)(z:n<=100000)(hi:i<n)(d:Xf (xs.getD i 0)=false)(o:xs.getD i 0≠39)(q:Bz xs i [37,37]=false)(r:xs.getD i 0≠37)(f:L0 (xs.getD i 0)≠0):
 Calls prog 130 #[K A n c,aI aJ (i:Int)] w λe w'=>e = aR (.tuple #[TokV (L0 (xs.getD i 0)) [] (atP xs i),aI aJ ((i+1:Nat):Int),aI aJ 0])/\Below w w w':=by
 obtain rfl:=h.len;have R:=h.cap;obtain⟨b,D,x,rfl,N,Hx,O⟩:=h.get hi;have B:xs.getD i 0=x:=by rw[AO,Hx];rfl
 rw[B] at d o r f ⊢;have H:=LH h;have CT:=LH λW (g:Below w w W)=>B0 (some ⟨b,D,aN⟩) (Q xs) c xs (i:Int) W (h.below g) z;have CH:=LH λW (g:Below w w W)=>(F3 (some ⟨b,D,aN⟩) (Q xs) c i xs [37,37] W (h.below g) j AC z AA AC);rw[q,show str [37,37]=⟨#[37,37]⟩ from rfl] at CH;have I:=j x (AM Hx);have l:=LH λW=>K6 x W I;rw[d] at l;have E:=LH λW=>rf_mark7 x W;obtain⟨F,G,t⟩:∃a b,atP xs (i:Int) = .complex .f64 a b:=by
  unfold atP PV;split
  ·exact⟨_,_,rfl⟩
  exact⟨_,_,rfl⟩
 rw[t] at CT ⊢;have J:((x:Int)==39)=false:=by rw[AR];omega
 have L:((x:Int)==37)=false:=by rw[AR];omega
 have M:(L0 x==0)=false:=by rw[AR];exact f
 generalize L0 x=mk at *;clear h j d o q r f B t;have s:=Zy w (aC #[aI aJ 0,aS ⟨#[]⟩,.complex .f64 0 0] 181);have S:∀(w:World) (a:Addr) (k:FloatKind) (x y:Nat) (m:Mode),(store a (.complex k x y) m).run prog w=stored prog w a (.complex k x y) m:=λw a k x y m=>run_store prog w a _ m rfl;go_enter func130,ntmps130;go_wp2_with (first
  | (go_at_call 129;refine (CT.out _ s).mono ?_;rintro e T⟨rfl,rfl⟩)
  | (go_at_call 170;refine (l.out _).mono ?_;rintro e U⟨rfl,rfl⟩)
  | (go_at_call 176;refine (CH.out _ (Zo s _)).mono ?_;rintro e V⟨rfl,rfl⟩)
  | (go_at_call 183;refine (E.out _).mono ?_;rintro e X⟨rfl,rfl⟩))
 refine AW (Yu (p:=4) (u:=5) (v:=6) AB _ _ w 181 #[aI aJ mk,aS ⟨#[]⟩,.complex .f64 F G] (0,0) _ rfl (Blk.ext (Blk.new w _ _) (Zy _ _)) underlying181 rfl AB) rfl ?_;exact⟨rfl,Zo (Zy _ _) _⟩
def rf_one_cut(A:Option Addr)(n c i:Nat)(xs:List Nat)(w:World)(h:Zq .u8 w A n c xs)(g:∀x∈xs,x<256)(s:n<=100000)(hi:i<n)(d:Xf (xs.getD i 0)=false)(l:xs.getD i 0≠39)(o:Bz xs i [37,37]=true):
 Calls prog 130 #[K A n c,aI aJ (i:Int)] w λe w'=>e = aR (.tuple #[TokV 9 [] (atP xs i),aI aJ ((i+2:Nat):Int),aI aJ 0])/\Below w w w':=by
 obtain rfl:=h.len;have J:=h.cap;obtain⟨b,z,x,rfl,G,Hx,I⟩:=h.get hi;have t:xs.getD i 0=x:=by rw[AO,Hx];rfl
 rw[t] at d l;have H:=LH h;have CT:=LH λW (f:Below w w W)=>B0 (some ⟨b,z,aN⟩) (Q xs) c xs (i:Int) W (h.below f) s;have CH:=LH λW (f:Below w w W)=>(F3 (some ⟨b,z,aN⟩) (Q xs) c i xs [37,37] W (h.below f) g AC s AA AC);rw[o,show str [37,37]=⟨#[37,37]⟩ from rfl] at CH;have E:=g x (AM Hx);have j:=LH λW=>K6 x W E;rw[d] at j;obtain⟨B,D,r⟩:∃a b,atP xs (i:Int) = .complex .f64 a b:=by
  unfold atP PV;split
  ·exact⟨_,_,rfl⟩
  exact⟨_,_,rfl⟩
 rw[r] at CT ⊢;have F:((x:Int)==39)=false:=by rw[AR];omega
 clear h g d l o t r;have q:=Zy w (aC #[aI aJ 0,aS ⟨#[]⟩,.complex .f64 0 0] 181);have L:∀(w:World) (a:Addr) (k:FloatKind) (x y:Nat) (m:Mode),(store a (.complex k x y) m).run prog w=stored prog w a (.complex k x y) m:=λw a k x y m=>run_store prog w a _ m rfl;go_enter func130,ntmps130;go_wp2_with (first
  | (go_at_call 129;refine (CT.out _ q).mono ?_;rintro e M⟨rfl,rfl⟩)
  | (go_at_call 170;refine (j.out _).mono ?_;rintro e N⟨rfl,rfl⟩)
  | (go_at_call 176;refine (CH.out _ (Zo q _)).mono ?_;rintro e O⟨rfl,rfl⟩))
 refine AW (Yu (p:=4) (u:=5) (v:=6) AB _ _ w 181 #[aI aJ 9,aS ⟨#[]⟩,.complex .f64 B D] (0,0) _ rfl (Blk.ext (Blk.new w _ _) (Zy _ _)) underlying181 rfl AB) rfl ?_;exact⟨rfl,Zo (Zy _ _) _⟩
def rf_one_name(A:Option Addr)(n c i f:Nat)(xs:List Nat)(w:World)(h:Zq .u8 w A n c xs)(I:∀x∈xs,x<256)(hn:n<=100000)(hi:i<n)(G:Xf (xs.getD i 0)=true)(ao:i<f)(ap:f<=n)(aq:f<=i+20)(S:∀k,i<k->k<f->Wa (xs.getD k 0)=true)(T:f<n->Wa (xs.getD f 0)=false):
 Calls prog 130 #[K A n c,aI aJ (i:Int)] w λe w'=>e = aR (.tuple #[TokV 1 ((xs.drop i).take (f-i)) (atP xs i),aI aJ (f:Int),aI aJ 0])/\Below w w w':=by
 obtain rfl:=h.len;have an:=h.cap;obtain⟨b,E,x,rfl,al,Hx,hc⟩:=h.get hi;have U:xs.getD i 0=x:=by rw[AO,Hx];rfl
 rw[U] at G;have H:=LH h;have CT:=LH λW (z:Below w w W)=>B0 (some ⟨b,E,aN⟩) (Q xs) c xs (i:Int) W (h.below z) hn;have aj:=I x (AM Hx);have N:=LH λW=>K6 x W aj;rw[G] at N;obtain⟨o,q,R⟩:∃a b,atP xs (i:Int) = .complex .f64 a b:=by
  unfold atP PV;split
  ·exact⟨_,_,rfl⟩
  exact⟨_,_,rfl⟩
 rw[R] at CT ⊢;have O:=LH I;have X:=LH S;have Y:=LH T;clear h I G U R S T;have r:=Zy w (aC #[aI aJ 0,aS ⟨#[]⟩,.complex .f64 0 0] 181);have au:∀(w:World) (a:Addr) (k:FloatKind) (x y:Nat) (m:Mode),(store a (.complex k x y) m).run prog w=stored prog w a (.complex k x y) m:=λw a k x y m=>run_store prog w a _ m rfl;go_enter func130,ntmps130;go_wp2_with (first
  | (go_at_call 129;refine (CT.out _ r).mono ?_;rintro e w2⟨rfl,rfl⟩)
  | (go_at_call 170;refine (N.out _).mono ?_;rintro e V⟨rfl,rfl⟩))
 go_loop [9] (λv=>∃(k:Nat),i<k/\k<=f/\v = aI aJ (k:Int)) (λv=>(Q xs)-(intOf v).toNat)
 case atStart=>exact⟨i+1,AA,AA,AF⟩
 obtain⟨k,ab,ar,rfl⟩:=hrel;by_cases ad:k<f
 ·obtain⟨Z,ak,y,g,_,t,aa⟩:=H.get (j:=k) AA;injection g with g;injection g with g e3;subst g e3;have D:xs.getD k 0=y:=by rw[AO,t];rfl
  have d:=X k ab ad;rw[D] at d;have s:=LH λW=>Zy7 y W (O y (AM t));rw[d] at s;have J:k<(Q xs):=AA
  clear d D;go_wp2_with (go_at_call 171;refine (s.out _).mono ?_;rintro e V⟨rfl,rfl⟩);go_round
  case rel=>exact⟨k+1,AA,AA,AF⟩
  simp[intOf];omega
 obtain rfl:k=f:=AA
 by_cases J:k<(Q xs)
 ·obtain⟨Z,ak,y,g,_,t,aa⟩:=H.get (j:=k) J;injection g with g;injection g with g e3;subst g e3;have D:xs.getD k 0=y:=by rw[AO,t];rfl
  have d:=Y J;rw[D] at d;have s:=LH λW=>Zy7 y W (O y (AM t));rw[d] at s;clear d D;go_wp2_with (go_at_call 171;refine (s.out _).mono ?_;rintro e V⟨rfl,rfl⟩);have l:∀W,Below w w W->(convert 57 9 (K (some ⟨b,E+i,aN⟩) (k-i) (c-i))).run prog W = .ok (aS (str ((xs.drop i).take (k-i)))) W:=λW z=>by
   have L:=(H.below z).part i (k-i) (c-i) AA AA AA;have d:((xs.drop i).take (k-i)).length=k-i:=by rw[BU,CJ];omega
   have:=Ux (P:=prog) W 57 5 9 underlying57 underlying5 underlying9 (some ⟨b,E+i,aN⟩) (c-i) _ (by rw[d];exact L);rwa [d] at this
  have af:=l _ (Zo r (aC #[aI aJ 0,aS ⟨#[]⟩,.complex .f64 o q] 181));have ag:=l _ (Zo r (aC #[aI aJ 0,aS ⟨#[]⟩,.complex .f64 o q] 181)).drew;have ah:=l _ (Zo r (aC #[aI aJ 1,aS ⟨#[]⟩,.complex .f64 o q] 181));have ai:=l _ (Zo r (aC #[aI aJ 1,aS ⟨#[]⟩,.complex .f64 o q] 181)).drew;generalize B:str ((xs.drop i).take (k-i))=M at *;have F:=LH B;clear l B;go_region_with (fail)
  all_goals
   go_wp2_with fail;refine AW (Yu (p:=4) (u:=5) (v:=6) AB _ _ w 181 #[aI aJ 1,aS M,.complex .f64 o q] (0,0) _ rfl (Blk.drew (Blk.ext (Blk.new w _ _) (Zy _ _))) underlying181 rfl AB) rfl ?_;exact⟨by unfold TokV;rw[F];rfl,(Zo (Zy _ _) _).drew⟩
 go_wp2_with fail;have l:∀W,Below w w W->(convert 57 9 (K (some ⟨b,E+i,aN⟩) (k-i) (c-i))).run prog W = .ok (aS (str ((xs.drop i).take (k-i)))) W:=λW z=>by
  have L:=(H.below z).part i (k-i) (c-i) AA AA AA;have d:((xs.drop i).take (k-i)).length=k-i:=by rw[BU,CJ];omega
  have:=Ux (P:=prog) W 57 5 9 underlying57 underlying5 underlying9 (some ⟨b,E+i,aN⟩) (c-i) _ (by rw[d];exact L);rwa [d] at this
 have af:=l _ (Zo r (aC #[aI aJ 0,aS ⟨#[]⟩,.complex .f64 o q] 181));have ag:=l _ (Zo r (aC #[aI aJ 0,aS ⟨#[]⟩,.complex .f64 o q] 181)).drew;have ah:=l _ (Zo r (aC #[aI aJ 1,aS ⟨#[]⟩,.complex .f64 o q] 181));have ai:=l _ (Zo r (aC #[aI aJ 1,aS ⟨#[]⟩,.complex .f64 o q] 181)).drew;generalize B:str ((xs.drop i).take (k-i))=M at *;have F:=LH B;clear l B;go_region_with (fail)
 all_goals
  go_wp2_with fail;refine AW (Yu (p:=4) (u:=5) (v:=6) AB _ _ w 181 #[aI aJ 1,aS M,.complex .f64 o q] (0,0) _ rfl (Blk.drew (Blk.ext (Blk.new w _ _) (Zy _ _))) underlying181 rfl AB) rfl ?_;exact⟨by unfold TokV;rw[F];rfl,(Zo (Zy _ _) _).drew⟩
def rf_one_lit(A:Option Addr)(n c i:Nat)(xs:List Nat)(w:World)(h:Zq .u8 w A n c xs)(q:∀x∈xs,x<256)(N:n<=100000)(hi:i+3<=n)(z:xs.getD i 0=39)(B:H5 ((xs.drop i).take 3)=true):
 Calls prog 130 #[K A n c,aI aJ (i:Int)] w λe w'=>e = aR (.tuple #[TokV 2 ((xs.drop i).take 3) (atP xs i),aI aJ ((i+3:Nat):Int),aI aJ 0])/\Below w w w':=by
 obtain rfl:=h.len;have Y:=h.cap;obtain⟨b,r,x,rfl,V,Hx,X⟩:=h.get (j:=i) AA;have I:xs.getD i 0=x:=by rw[AO,Hx];rfl
 obtain rfl:39=x:=by rw[<-I,z]
 have t:Xf 39=false:=AC
 have H:=LH h;have CT:=LH λW (o:Below w w W)=>B0 (some ⟨b,r,aN⟩) (Q xs) c xs (i:Int) W (h.below o) N;have J:Hid (∀W,Calls prog 170 #[aI .u8 39] W λe w'=>e = aR (aB false)/\W=w'):=LH λW=>by
  have:=K6 39 W AC;rwa [t] at this
 obtain⟨d,f,D⟩:∃a b,atP xs (i:Int) = .complex .f64 a b:=by
  unfold atP PV;split
  ·exact⟨_,_,rfl⟩
  exact⟨_,_,rfl⟩
 rw[D] at CT ⊢;have U:=LH q;have E:∀y∈(xs.drop i).take 3,y<256:=λy R=>q y (List.mem_of_mem_drop (List.mem_of_mem_take R));have s:∀W,Calls prog 169 #[aS (str ((xs.drop i).take 3))] W λe w'=>e = aR (aB true)/\W=w':=λW=>by
  have:=Gb (str ((xs.drop i).take 3)) W;rwa [Vd _ E,B] at this
 have L:=LH s;clear h q t z B I D E s;have g:=Zy w (aC #[aI aJ 0,aS ⟨#[]⟩,.complex .f64 0 0] 181);have ae:∀(w:World) (a:Addr) (k:FloatKind) (x y:Nat) (m:Mode),(store a (.complex k x y) m).run prog w=stored prog w a (.complex k x y) m:=λw a k x y m=>run_store prog w a _ m rfl;go_enter func130,ntmps130;go_wp2_with (first
  | (go_at_call 129;refine (CT.out _ g).mono ?_;rintro e w2⟨rfl,rfl⟩)
  | (go_at_call 170;refine (J.out _).mono ?_;rintro e T⟨rfl,rfl⟩))
 have l:∀W,Below w w W->(convert 57 9 (K (some ⟨b,r+i,aN⟩) 3 (c-i))).run prog W = .ok (aS (str ((xs.drop i).take 3))) W:=λW o=>by
  have O:=(H.below o).part i 3 (c-i) AA AA AA;have F:((xs.drop i).take 3).length=3:=by rw[BU,CJ];omega
  have:=Ux (P:=prog) W 57 5 9 underlying57 underlying5 underlying9 (some ⟨b,r+i,aN⟩) (c-i) _ (by rw[F];exact O);rwa [F] at this
 have Z:=l _ (Zo g (aC #[aI aJ 0,aS ⟨#[]⟩,.complex .f64 d f] 181));have aa:=l _ (Zo g (aC #[aI aJ 0,aS ⟨#[]⟩,.complex .f64 d f] 181)).drew;have ab:=l _ (Zo g (aC #[aI aJ 2,aS ⟨#[]⟩,.complex .f64 d f] 181));have ad:=l _ (Zo g (aC #[aI aJ 2,aS ⟨#[]⟩,.complex .f64 d f] 181)).drew;generalize G:str ((xs.drop i).take 3)=S at *;have M:=LH G;have s2:IntKind.i64.wrap ((i:Int)+3)=(i:Int)+3:=BZ _ AA;have s3:(i:Int)+3<=((Q xs):Int):=AA
 have s4:((i:Int)+3).toNat=i+3:=AA
 have s5:(0:Int)<=(i:Int)+3:=AA
 have s6:(i:Int)<=(i:Int)+3:=AA
 have s7:i+3-i=3:=AA
 have s8:(i:Int)+3<=(c:Int):=AA
 clear l G;go_loop [10] (λv=>v = aI aJ 3) (λ_=>0)
 case atStart=>rfl
 subst hrel;go_wp2_with (go_at_call 169;refine (L.out _).mono ?_;rintro e T⟨rfl,rfl⟩);go_region_with (fail)
 all_goals
  go_wp2_with fail;refine AW (Yu (p:=4) (u:=5) (v:=6) AB _ _ w 181 #[aI aJ 2,aS S,.complex .f64 d f] (0,0) _ rfl (Blk.drew (Blk.ext (Blk.new w _ _) (Zy _ _))) underlying181 rfl AB) rfl ?_;exact⟨by unfold TokV;rw[M];rfl,(Zo (Zy _ _) _).drew⟩
def rf_one(A:Option Addr)(n c i:Nat)(xs:List Nat)(w:World)(h:Zq .u8 w A n c xs)(f:∀x∈xs,x<256)(g:n<=100000)(hi:i<n)(t:Af)(j:Nat)(a:oneP xs i=some (t,j)):
 Calls prog 130 #[K A n c,aI aJ (i:Int)] w λe w'=>e = aR (.tuple #[TokV t.kind t.text (atP xs i),aI aJ (j:Int),aI aJ 0])/\Below w w w':=by
 have v:=h.len;unfold oneP at a;by_cases h1:Xf (xs.getD i 0)=true
 ·rw[if_pos h1] at a;split at a
  ·rename_i q;simp only[BT,DM] at a;obtain⟨rfl,rfl⟩:=a;have:=Zu3 Wa (xs.drop (i+1));rw[CJ] at this;refine rf_one_name A n c i (Kk xs i) xs w h f g hi h1 (by unfold Kk;omega) (by unfold Kk;omega) q (λk u r=>?_) (λs=>?_)
   ·have:=tw_in Wa (xs.drop (i+1)) (k-(i+1)) (by unfold Kk at r;omega);rw[F0,show i+1+(k-(i+1))=k by omega] at this;exact this
   have:=tw_out Wa (xs.drop (i+1)) (by rw[CJ];unfold Kk at s;omega);rw[F0] at this;exact this
  cases a
 rw[if_neg h1] at a;have l:Xf (xs.getD i 0)=false:=by simpa using h1
 by_cases b:xs.getD i 0=39
 ·rw[if_pos b] at a;split at a
  ·rename_i m;simp only[AS,decide_eq_true_eq] at m;simp only[BT,DM] at a;obtain⟨rfl,rfl⟩:=a;exact rf_one_lit A n c i xs w h f g AA b m.1
  cases a
 rw[if_neg b] at a;by_cases d:Bz xs i [37,37]=true
 ·rw[if_pos d] at a;simp only[BT,DM] at a;obtain⟨rfl,rfl⟩:=a;exact rf_one_cut A n c i xs w h f g hi l b d
 rw[if_neg d] at a;split at a
 ·cases a
 rename_i o;split at a
 ·cases a
 rename_i p;simp only[BT,DM] at a;obtain⟨rfl,rfl⟩:=a;exact rf_one_mark A n c i xs w h f g hi l b (by simpa using d) o p
def rf_Tokens(A:Option Addr)(n c q:Nat)(xs:List Nat)(w:World)(h:Zq .u8 w A n c xs)(hb:∀x∈xs,x<256)(hn:n<=4000)(ts:List Af)(aw:Ml xs q 0=some ts)(hc:Dd ts<2):
 Calls prog 69 #[K A n c] w λe w'=>∃f g x y,e = aR (.tuple #[K f (Q ts) g,.complex .f64 x y,aI aJ 0])/\Kq w' w' f (Q ts) g (ts.map Zyr)/\Below w w w':=by
 obtain rfl:=h.len;have be:=h.cap;have H:=LH h;have Hb:=LH hb;have Hc:=LH hc;have a3:=LH aw;have ao:(prog.info? 181).map (λi=>(i.zero,i.size,i.bytes))=some (some (aG #[aI aJ 0,aS ⟨#[]⟩,.complex .f64 0 0]),3,40):=AB
 have a0:=LH ao;have bi:∀(w:World) (a:Addr) (k:FloatKind) (x y:Nat) (m:Mode),(store a (.complex k x y) m).run prog w=stored prog w a (.complex k x y) m:=λw a k x y m=>run_store prog w a _ m rfl;clear h hb hc ao aw;go_enter func69,ntmps69;go_wp2_with fail;go_loopw [5,6,7] (λo a m wr=>∃(i mk d g:Nat) (f:Option Addr) (done R:List Af) (cs:List Value),o = K f d g/\a = aI aJ (i:Int)/\m = aI aJ (mk:Int)/\i<=(Q xs)/\d<=i/\mk<2 /\
  Hid (d=(Q done))/\Hid (mk=Dd done)/\Hid (∃Z,Ml xs Z i=some R)/\Hid (done++R=ts)/\Hid (wr.ownsRow w 181 3 (K f d g) d cs)/\Hid (Dp cs (done.map Zyr))/\Below w w wr) (λ_ a _ _=>(Q xs)-(intOf a).toNat)
 case atStart=>exact⟨0,0,0,0,aN,[],ts,[],rfl,rfl,rfl,AA,AA,AA,LH rfl,LH rfl,LH ⟨q,a3.out⟩,LH rfl,LH (BL _ _ _ _),LH Dp.nil,AP _ _⟩
 obtain⟨i,mk,d,g,f,done,R,cs,rfl,rfl,rfl,hi,hd,bg,U,M,X,C,W,L,v⟩:=hrel;by_cases O:i<(Q xs)
 case neg =>
  obtain rfl:i=(Q xs):=AA
  have CT:=LH (B0 A (Q xs) c xs ((Q xs):Int) wr (H.out.below v) AA);have V:Hid (done=ts/\d=(Q ts)):=LH (by
   obtain⟨Z,P⟩:=X.out;have e:=C.out;rw[toksP_end P (AJ _),DJ] at e;exact⟨e,by rw[U.out,e]⟩)
  obtain⟨l,p,D⟩:∃a b,atP xs ((Q xs):Int) = .complex .f64 a b:=by
   unfold atP PV;split
   ·exact⟨_,_,rfl⟩
   exact⟨_,_,rfl⟩
  rw[D] at CT;clear D;go_wp2_with (go_at_call 129;(with_reducible refine CT.out.mono ?_);rintro e B⟨rfl,rfl⟩);refine AW (results_tmp3 rfl _ _ _) rfl ?_;refine⟨f,g,l,p,by rw[<-V.out.2];rfl,?_,v⟩;have ht:=own_toks W.out L.out;rw[V.out.1,V.out.2] at ht;exact ht
 obtain⟨Z,P⟩:=X.out;obtain⟨ar,ba⟩:=toksP_step P O;have I:=LH (rf_skip7 A (Q xs) c i xs wr (H.out.below v) Hb.out AA O ar);clear X P ar;rcases ba with ⟨E,S,F⟩ | ⟨E,t,j,rest,S,Y,F,rfl⟩
 ·rw[E,if_pos rfl] at I;have N:=LH F;clear F E;go_wp2_with (go_at_call 128;(with_reducible refine I.out.mono ?_);rintro e B⟨rfl,rfl⟩);go_roundw
  case rel=>exact⟨i+1,mk,d,g,f,done,R,cs,rfl,rfl,rfl,AA,AA,AA,U,M,LH ⟨S,N.out⟩,C,W,L,v⟩
  simp[intOf];omega
 rw[E,if_neg DD] at I;obtain⟨bf,ap⟩:=oneP_lt O Y;have G:=LH (rf_one A (Q xs) c i xs wr (H.out.below v) Hb.out AA O t j Y);have N:=LH F;have a1:Hid (Dd (done++[t])<2):=LH (by
  have u:=Hc.out;rw[<-C.out,show done++t::rest=(done++[t])++rest by simp,Cw] at u;omega)
 obtain⟨l,p,D⟩:∃a b,atP xs (i:Int) = .complex .f64 a b:=by
  unfold atP PV;split
  ·exact⟨_,_,rfl⟩
  exact⟨_,_,rfl⟩
 rw[D] at G;have ag:Hid (done++[t]++rest=ts):=LH (by rw[<-C.out];simp);have az:=LH (Dp.snoc L.out (Zyr t) l p);have T:Hid (Dd [t]=if t.kind=9 then 1 else 0):=LH (by
  unfold Dd;by_cases r:t.kind=9
  ·simp[r]
  simp[r])
 have Ht:Hid (Zyr t=(t.kind,str t.text)):=rfl;clear F E Y D L C;generalize av:Zyr t=tk at *;generalize a8:t.kind=s at *;generalize ax:str t.text=z at *;unfold TokV at G;rw[ax] at G;have a2:=LH av;clear a8 ax av;have r:((s==9)=true/\Hid (Dd [t]=1))\/((s==9)=false/\Hid (Dd [t]=0)):=by
  by_cases r:s=9
  ·exact .inl ⟨by simp[r],LH (by rw[T.out,if_pos r])⟩
  exact .inr ⟨by simp[r],LH (by rw[T.out,if_neg r])⟩
 clear T;rcases r with ⟨e9,J⟩ | ⟨e9,J⟩;all_goals
  go_wp2_with (first
   | (go_at_call 128;(with_reducible refine I.out.mono ?_);rintro e B⟨rfl,rfl⟩)
   | (go_at_call 130;(with_reducible refine G.out.mono ?_);rintro e B⟨rfl,ak⟩
      have al:=Zz v ak;have a6:=Zo al (aC #[aI aJ s,aS z,.complex .f64 l p] 181);have bd:w.heap.size<=B.heap.size:=al.size;have p5:=Zl B (aC #[aI aJ s,aS z,.complex .f64 l p] 181);have ah:=LH ((M5 W.out ak).alloc (aC #[aI aJ s,aS z,.complex .f64 l p] 181)))
   | (at_builtin;refine Ye (w:=B.alloc (aC #[aI aJ s,aS z,.complex .f64 l p] 181)) rfl _ _ 118 rfl w 181 _ 3 40 underlying118 a0.out AC AC f d g cs rfl ah.out [aI aJ s,aS z,.complex .f64 l p] rfl (by rw[p5];rfl) (by simp[Value.oneCell']) AA AA AA ?_;intro A4 c4 w4 ho a7 ha))
  have a9:mk+Dd [t]<2:=by
   have u:=a1.out;rwa [Cw,<-M.out] at u
  rw[J.out] at a9;have ab:=LH (below_appendG a6 a7 ah.out AA);have ad:Hid (Dp (cs++[aI aJ s,aS z,.complex .f64 l p]) ((done++[t]).map Zyr)):=LH (by
   have u:=az.out;rw[Ht.out] at u;rw[DI,CU,List.map_nil,a2.out,Ht.out];exact u)
  have af:Hid (d+1=(done++[t]).length):=LH (by rw[AU,<-U.out];rfl);go_roundw
  case rel =>
   first
    | exact⟨j,mk+1,d+1,c4,A4,done++[t],rest,_,rfl,rfl,AF,ap,AA,AA,af,LH (by have u:=M.out;have h2:=J.out;rw[Cw];omega),LH ⟨S,N.out⟩,ag,LH ho,ad,ab.out⟩
    | exact⟨j,mk,d+1,c4,A4,done++[t],rest,_,rfl,rfl,rfl,ap,AA,AA,af,LH (by have u:=M.out;have h2:=J.out;rw[Cw];omega),LH ⟨S,N.out⟩,ag,LH ho,ad,ab.out⟩
  simp[intOf];omega
def rd_Of(A:Option Addr)(n c q x y:Nat)(ts:List Tk)(ps:List Prd)(w:World)(h:Kq w w.heap.size A n c ts)(hl:n<=4000)(C:srcP q ts=some ps) :
 Calls Tryz.prog 70 #[K A n c,.complex .f64 x y] w λe w'=>∃A' c' cs,e = aR (.tuple #[aG #[K aN 0 0,K A' (Q ps) c'],.complex .f64 0 0,aI aJ 0])/\w'.ownsRow w.heap.size 132 5 (K A' (Q ps) c') (Q ps) cs/\Vu w' (λb=>w.heap.size<=b) cs ps/\Below w.heap.size w w':=by
 obtain rfl:=h.1;obtain⟨m,B,l,aa,R,rfl,a8,am,b3,rfl⟩:∃m B l aa R,ts=m::B/\m.1=9/\Fj q B=some (l,aa)/\Ku q aa=some R/\ps=l++R:=by
  cases ts with
  | nil=>cases C
  | cons m G =>
    have C:(if m.1=9 then (match Fj q G with | none=>aN | some (ps,r)=>(Ku q r).map (ps++·)) else aN)=some ps:=C;split at C
    ·rename_i h9;split at C
     ·cases C
     rename_i p0 r0 U;rw[Option.map_eq_some_iff] at C;obtain⟨m2,h1,h2⟩:=C;exact⟨m,G,p0,r0,m2,rfl,h9,U,h1,h2.symm⟩
    cases C
 have d3:=h.2.1;have d4:=h.2.2.1;have fk:∀(w:World) (a:Addr) (k:FloatKind) (x y:Nat) (m:Mode),(store a (.complex k x y) m).run Tryz.prog w=stored Tryz.prog w a (.complex k x y) m:=λw a k x y m=>run_store Tryz.prog w a _ m rfl;have b5:(Tryz.prog.info? 132).map (λi=>(i.zero,i.size,i.bytes))=some (some (aG #[aS ⟨#[]⟩,.complex .f64 0 0,K aN 0 0,aS ⟨#[]⟩,.complex .f64 0 0]),5,88):=by kernel_rfl
 have Hi:=LH b5;have CD:=LH λ(W:World) (p:Nat) (E:Wc W p (m::B))=>rd_decls p (m::B) W E a8;have CT:=LH λ(W:World) (p:Nat) (E:Wc W p (m::B))=>Ca p 9 9 m B W E (by simp[isP,a8]);have CG:=LH λ(W:World) (p:Nat) (E:Wc W p B)=>Zsd p q B l aa W E am;have H:=LH h;have dy:=LH am;have c7:=LH b3;have fd:=Zxb am;have d9:(Q B)+1<=4000:=hl;clear h a8 am b3 C b5;generalize hN:(m::B).length=N at *;go_enter Tryz.func70,Tryz.ntmps70;go_wp2_with fail;have a0:=Zo (Zy w (aC #[K aN 0 0,K aN 0 0] 79)) (aC #[K A N c,.complex .f64 x y,.complex .f64 0 0,aI aJ 0] 186);have cf:(w.alloc (aC #[K aN 0 0,K aN 0 0] 79)).heap.size=w.heap.size+1:=Zl _ _;have a3:=Blk.new (w.alloc (aC #[K aN 0 0,K aN 0 0] 79)) 186 #[K A N c,.complex .f64 x y,.complex .f64 0 0,aI aJ 0];have br:Blk (w.alloc (aC #[K aN 0 0,K aN 0 0] 79)) w.heap.size 79 #[K aN 0 0,K aN 0 0]:=Blk.new w _ _;have a4:=br.ext (Zy _ (aC #[K A N c,.complex .f64 x y,.complex .f64 0 0,aI aJ 0] 186));rw[cf] at a3;have ao:Wc ((w.alloc (aC #[K aN 0 0,K aN 0 0] 79)).alloc (aC #[K A N c,.complex .f64 x y,.complex .f64 0 0,aI aJ 0] 186)) (w.heap.size+1) (m::B):=by
  have ht:=(H.out.wide (Nat.le_succ w.heap.size)).below a0;subst hN;exact⟨hl,A,c,x,y,0,0,a3,ht⟩
 generalize (w.alloc (aC #[K aN 0 0,K aN 0 0] 79)).alloc (aC #[K A N c,.complex .f64 x y,.complex .f64 0 0,aI aJ 0] 186)=J at *;generalize hp:w.heap.size+1=p at *;have fe:w.heap.size<p:=by omega
 clear a3 br cf hp;(with_reducible refine (CD.out _ _ ao).mono ?_);rintro e w1⟨rfl,rfl⟩;have a1:=Zo a0 (aC #[K aN 0 0,K aN 0 0] 79);have Z:=ao.below (Zy J (aC #[K aN 0 0,K aN 0 0] 79));have bw:=Blk.new J 79 #[K aN 0 0,K aN 0 0];have bs:=a4.ext (Zy J (aC #[K aN 0 0,K aN 0 0] 79));have fc:=ao.lt;have d2:w.heap.size<J.heap.size:=a4.lt;go_wp2_with fail;generalize J.alloc (aC #[K aN 0 0,K aN 0 0] 79)=W2 at *;generalize J.heap.size=f at *;clear ao a0 a4;(with_reducible refine (CT.out _ _ Z).mono ?_);rintro e W3⟨⟨x3,y3,rfl⟩,ba,an⟩;have a5:=bw.grown an (by intro e;injection e with e;omega);have bt:=bs.grown an (by intro e;injection e with e;omega);have a2:Below w.heap.size w W3:=a1.trans (Zn an a1.size (by omega));have b9:=ba.lt;have d7:=a5.lt;clear Z a1 bw bs an;go_wp2_with fail;(with_reducible refine (CG.out _ _ ba).mono ?_);rintro e j⟨z,c1,ax,rfl,Y,bm,cc,X⟩;have ak:=a5.grown X (by intro e;injection e with e;omega);have bu:=bt.grown X (by intro e;injection e with e;omega);have bk:Below w.heap.size w j:=a2.trans (Zn X a2.size (by omega));have v1:=ak.frozen 1;have z1:=ak.cell 1;go_wp2_with fail;have cd:=cc.keep (w':=j.setCell ⟨f,1,aN⟩ (K z (Q l) c1)) (by simp) λk h1 h2=>Below.heap_setCell j ⟨f,1,aN⟩ _ k (show k≠f by omega);have b8:(j.setCell ⟨f,1,aN⟩ (K z (Q l) c1)).ownsRow W3.heap.size 132 5 (K z (Q l) c1) (Q l) ax:=Yq Y λb hb _ _=>Below.heap_setCell j ⟨f,1,aN⟩ _ b (show b≠f by omega);have bn:Vu (j.setCell ⟨f,1,aN⟩ (K z (Q l) c1)) (λb=>W3.heap.size<=b/\(K z (Q l) c1).ownBlock≠some b) ax l:=bm.keep (by simp) λk O o=>⟨Below.heap_setCell j ⟨f,1,aN⟩ _ k (show k≠f by omega),o⟩;have bx:=ak.set 1 (K z (Q l) c1);have bv:=bu.other f 1 (K z (Q l) c1) (by omega);have dt:W3.heap.size<=(j.setCell ⟨f,1,aN⟩ (K z (Q l) c1)).heap.size:=by simpa using X.size
 have bl:=Zg bk f 1 (K z (Q l) c1) (by omega);generalize j.setCell ⟨f,1,aN⟩ (K z (Q l) c1)=W5 at *;have db:=LH b8;have cr:=LH bn;have df:=LH cd;have co:=LH bl;have bz:Blk W5 f 79 #[K aN 0 0,K z (Q l) c1]:=bx;have cz:=LH bz;have cx:=LH bv;clear b8 bn cd bl bx bv bz Y bm cc bk ak bu X v1 z1 ba a2 a5 bt;go_loopw [] (λwr=>∃(d c:Nat) (A:Option Addr) (done:List Prd) (G:List Tk) (cs:List Value),d+(Q G)<=4000/\W3.heap.size<=wr.heap.size/\Hid (d=(Q done))/\Hid (∃q' P,Ku q' G=some P/\done++P=l++R) /\
  Hid (wr.ownsRow W3.heap.size 132 5 (K A d c) d cs)/\Hid (Vu wr (λb=>W3.heap.size<=b/\(K A d c).ownBlock≠some b) cs done)/\Hid (Wc wr p G)/\Hid (Below w.heap.size w wr) /\
  Hid (Blk wr f 79 #[K aN 0 0,K A d c])/\Hid (Blk wr w.heap.size 79 #[K aN 0 0,K aN 0 0])) (λwr=>Zyp wr p)
 case atStart=>exact⟨(Q l),c1,z,l,aa,ax,by omega,dt,LH rfl,LH ⟨q,R,c7.out,rfl⟩,db,cr,df,co,cz,cx⟩
 obtain⟨d,c,A,done,G,cs,d5,ce,Hd,Hq,Ho,Hc,Hr,HB,au,I⟩:=hrel;obtain⟨q',P,cb,al⟩:=Hq.out;obtain⟨A0,c0,x0,y0,fu,fx,_,_,_,r0,r1,r2,r3⟩:=Hr.out.parts;have k0:=au.out.cell 0;have k1:=au.out.cell 1;have m0:=I.out.frozen 0;have m1:=I.out.frozen 1;have j0:=I.out.cell 0;have j1:=I.out.cell 1;have d8:f≠w.heap.size:=by omega
 clear Hq;rcases groupsP_step cb with ⟨rfl,rfl⟩ | ⟨u,S,rfl,cg,q2,g,F,m2,U,b1,rfl⟩
 ·have fo:wr.cell? ⟨p,0,aN⟩=some (K A0 0 c0):=r0;rw[List.append_nil] at al;clear r0;go_wp2_with fail;have hF:Blk ((wr.setCell ⟨w.heap.size,0,aN⟩ (K aN 0 0)).setCell ⟨w.heap.size,1,aN⟩ (K A d c)) w.heap.size 79 #[K aN 0 0,K A d c]:=(I.out.set 0 (K aN 0 0)).set 1 (K A d c);have a6:wr.grownBy ((wr.setCell ⟨w.heap.size,0,aN⟩ (K aN 0 0)).setCell ⟨w.heap.size,1,aN⟩ (K A d c)) (some w.heap.size):=Zc (Zd _ _ _ _) (Zd _ _ _ _);refine bodyPost_ret (Yu (p:=4) (u:=5) (v:=6) (by kernel_rfl) _ _ w.heap.size 79 #[K aN 0 0,K A d c] (0,0) _ rfl hF Tryz.underlying79 rfl (by kernel_rfl)) rfl ?_;have bo:w.heap.size<W3.heap.size:=by omega
  rw[<-al,<-Hd.out];refine⟨A,c,cs,rfl,Zzw (Qg Ho.out a6 bo) (Nat.le_of_lt bo),Hc.out.keep a6.size λk O o=>⟨a6.block k O (by intro e;injection e with e;have:=o.1;omega),by have:=o.1;omega⟩,Zg (Zg HB.out _ _ _ (Nat.le_refl _)) _ _ _ (Nat.le_refl _)⟩
 have CK:=LH (Ztg p (u::S) wr Hr.out);have cn:=LH λ(W:World) (E:Wc W p (u::S))=>Zsd p q2 (u::S) g F W E U;have ca:=Zxb U;have dr:Hid ((Q F)<Zyp wr p):=LH (by rw[Hr.out.rem];omega);have ff:d+(Q g)+(Q F)<=4000:=by omega
 have e9:(u.1 != 9)=true:=by rw[bne_iff_ne];exact cg
 have fb:0<(u::S).length:=by simp
 have b6:Qy (u::S)=u.1:=rfl;rw[b6] at CK;have c8:=LH b1;have c5:=LH al;have dq:=ca.1;clear U b1 cg cb b6 al ca;generalize (u::S).length=nu at *;generalize u.1=uk at *;go_wp2_with (go_at_call 134;(with_reducible refine CK.out.mono ?_);rintro e w2⟨rfl,rfl⟩);go_region_law (first
  | (go_simp;go_at_call 133;refine (cn.out _ (by exact Hr.out)).mono ?_;rintro e w2⟨A2,c2,T,rfl,a9,aj,Z,L⟩
     have V:wr.grownBy w2 (some p):=⟨L.os,L.tape,L.output,L.size,L.block⟩;obtain⟨g2,rfl,d6,fa,b0⟩:=own_cells a9 dq;have b2:=au.out.grown V (by intro e;injection e with e;omega);have z1:=b2.cell 1;have ae:=LH (Qg Ho.out V b9);have ds:W3.heap.size<=w2.heap.size:=Nat.le_trans ce V.size;have dm:(Q T)=(Q g)*5:=aj.1;have dn:=LH (prdCs_one aj);have c3:=LH b0;have cq:=LH aj;have de:=LH Z;have cu:=LH b2;have ad:=LH V;have dz:=LH a9;clear b0 aj Z b2 V L a9)
  | (refine V5 rfl _ _ 77 rfl W3.heap.size 132 _ 5 88 Tryz.underlying77 Hi.out (by decide) (by decide) A d c cs (by simp[Act.eval,Act.put]) ae.out ⟨g2,0,aN⟩ (Q g) c2 T dm (by simp[Act.eval,Act.put]) c3.out dn.out (by omega) (by omega) ds ?_;intro s t j Y a7 bp
     have b4:=cu.out.grown a7 (by intro e;have:=(ae.out.lt f e.symm).1;omega);have y1:=b4.cell 1;have v1:=b4.frozen 1;have cv:=LH b4;have D:=LH a7;have be:=LH bp;have da:=LH Y;clear b4 a7 bp Y))
 all_goals
  have M:j.grownBy (j.setCell ⟨f,1,aN⟩ (K s (d+(Q g)) t)) (some f):=Zd _ _ _ _;have ai:∀b,(K A d c).ownBlock=some b->W3.heap.size<=b/\b<wr.heap.size:=λb hb=>Ho.out.lt b hb;have s2:=ad.out.size;have s4:=D.out.size;have sX:=M.size;have ct:Hid (Vu (j.setCell ⟨f,1,aN⟩ (K s (d+(Q g)) t)) (λb=>W3.heap.size<=b/\(K s (d+(Q g)) t).ownBlock≠some b) (cs++T) (done++g)):=LH (Vu.app
   (Hc.out.keep (by omega) λk O o=>⟨by rw[M.block k (by omega) (by intro e;injection e with e;have:=o.1;omega),D.out.block k (by omega) (λe=>o.2 e.symm),ad.out.block k O (by intro e;injection e with e;have:=o.1;omega)],o.1,λh3=>o.2 (be.out k h3 (by omega))⟩)
   (cq.out.keep (by omega) λk O o=>⟨by rw[M.block k (by omega) (by intro e;injection e with e;have:wr.heap.size<=k:=o.1;omega),D.out.block k (by omega) (λe=>by have:=ai k e.symm;have:wr.heap.size<=k:=o.1;omega)],Nat.le_trans ce o.1,λh3=>by have:=ai k (be.out k h3 (by omega));have:wr.heap.size<=k:=o.1;omega⟩))
  have dc:Hid ((j.setCell ⟨f,1,aN⟩ (K s (d+(Q g)) t)).ownsRow W3.heap.size 132 5 (K s (d+(Q g)) t) (d+(Q g)) (cs++T)):=LH (Qg da.out M (by omega));have bi:Hid (Wc (j.setCell ⟨f,1,aN⟩ (K s (d+(Q g)) t)) p F):=LH ((de.out.app D.out ae.out b9).keep sX λk h1 h2=>M.block k h2 (by intro e;injection e with e;omega));have cp:Hid (Below w.heap.size w (j.setCell ⟨f,1,aN⟩ (K s (d+(Q g)) t))):=LH (Zg ((HB.out.trans (Zn ad.out HB.out.size (by omega))).trans ⟨D.out.os,D.out.tape,D.out.output,s4,λk O=>D.out.block k (by have:=HB.out.size;omega) (λe=>by have:=(ai k e.symm).1;omega)⟩) _ _ _ (by omega));have cw:Hid (Blk (j.setCell ⟨f,1,aN⟩ (K s (d+(Q g)) t)) f 79 #[K aN 0 0,K s (d+(Q g)) t]):=LH (cv.out.set 1 (K s (d+(Q g)) t));have cy:Hid (Blk (j.setCell ⟨f,1,aN⟩ (K s (d+(Q g)) t)) w.heap.size 79 #[K aN 0 0,K aN 0 0]):=LH (((I.out.grown ad.out (by intro e;injection e with e;omega)).grown D.out (by intro e;have:=(ae.out.lt _ e.symm).1;omega)).other f 1 _ (by omega));have c6:Hid (d+(Q g)=(done++g).length):=LH (by rw[List.length_append,<-Hd.out]);have dd:Hid (∃q' P,Ku q' F=some P/\(done++g)++P=l++R):=LH ⟨q2,m2,c8.out,by rw[<-c5.out];simp⟩;have dg:Hid (Zyp (j.setCell ⟨f,1,aN⟩ (K s (d+(Q g)) t)) p=(Q F)):=LH bi.out.rem;have du:W3.heap.size<=(j.setCell ⟨f,1,aN⟩ (K s (d+(Q g)) t)).heap.size:=by omega
  clear ai M s2 s4 sX;go_wp2_with fail;go_roundw
  case rel=>exact⟨d+(Q g),t,s,done++g,F,cs++T,by omega,du,c6,dd,dc,ct,bi,cp,cw,cy⟩
  rw[dg.out];exact dr.out
def rf_Parse(A:Option Addr)(n c q I:Nat)(xs:List Nat)(w:World)(h:Zq .u8 w A n c xs)(D:∀x∈xs,x<256)(X:n<=4000)(ts:List Af)(H:Ml xs q 0=some ts)(F:Dd ts<2)(U:(Q ts)<=4000)(ps:List Prd)(G:srcP I (ts.map Zyr)=some ps):
 Calls prog 33 #[K A n c] w λe w'=>∃f g cs,e = aR (.tuple #[aG #[K aN 0 0,K f (Q ps) g],.complex .f64 0 0,aI aJ 0])/\w'.ownsRow w 132 5 (K f (Q ps) g) (Q ps) cs/\Vu w' (λb=>w.heap.size<=b) cs ps/\Below w w w':=by
 have t:=Zy w (aC #[K aN 0 0,K aN 0 0] 79);have S:=Blk.new w 79 #[K aN 0 0,K aN 0 0];have CT:=LH (rf_Tokens A n c q xs _ (h.below t) D X ts H F);have V:(ts.map Zyr).length=(Q ts):=AE
 have L:=LH λ(W:World) (f:Option Addr) (g x y:Nat) (o:Kq W W f (Q ts) g (ts.map Zyr))=>rd_Of f (Q ts) g I x y (ts.map Zyr) ps W o U G;have Z:∀(w:World) (a:Addr) (k:FloatKind) (x y:Nat) (m:Mode),(store a (.complex k x y) m).run prog w=stored prog w a (.complex k x y) m:=λw a k x y m=>run_store prog w a _ m rfl;clear h D H F G V;go_enter func33,ntmps33;go_wp2_with fail;generalize w.alloc (aC #[K aN 0 0,K aN 0 0] 79)=Y at *;(with_reducible refine CT.out.mono ?_);rintro e w1⟨J,c1,x,y,rfl,o,z⟩;have E:=S.ext z;have M:=LH (Zz t z);go_wp2_with fail;(with_reducible refine (L.out w1 J c1 x y o).mono ?_);rintro e l⟨d,c2,cs,rfl,P,R,B⟩;have j:=E.ext B;have N:=LH (Zz M.out B);have v0:=j.frozen 0;have v1:=j.frozen 1;have z0:=j.cell 0;have z1:=j.cell 1;go_wp2_with fail;have s:w.heap.size<w1.heap.size:=E.lt;have O:Blk ((l.setCell ⟨w,0,aN⟩ (K aN 0 0)).setCell ⟨w,1,aN⟩ (K d (Q ps) c2)) w 79 #[K aN 0 0,K d (Q ps) c2]:=(j.set 0 (K aN 0 0)).set 1 (K d (Q ps) c2);have r:l.grownBy ((l.setCell ⟨w,0,aN⟩ (K aN 0 0)).setCell ⟨w,1,aN⟩ (K d (Q ps) c2)) (some w):=Zc (Zd _ _ _ _) (Zd _ _ _ _);refine AW (Yu (p:=2) (u:=3) (v:=4) AB _ _ w 79 #[K aN 0 0,K d (Q ps) c2] (0,0) _ rfl O underlying79 rfl AB) rfl ?_;exact⟨d,c2,cs,rfl,Zzw (Qg P r s) (DS s),R.keep r.size λk T C=>⟨r.block k T (by intro e;injection e with e;have:w1.heap.size<=k:=C;omega),BC (DS s) C⟩,Zg (Zg N.out _ _ _ (AJ _)) _ _ _ (AJ _)⟩
def wk_lefts(p:Nat)(h:GH)(G:Gr)(T:List ByteArray)(A:Option Addr)(n c:Nat)(l:List Prd)(w:World)(k:Wk w p B h G)(hP:∀w',Below p w w'->Prds w' A n c l)(hn:n<=4000)(ht:G.T=[])(C:Nv G.O l=some T):
 Calls prog 72 #[aP (some ⟨p,0,aN⟩),K A n c] w λe w'=>e = aR (.tuple #[])/\∃r,Wk w' p B r { G with O:=T }/\V6 w w' p h r:=by
 have N:=hP w (AP _ _);have aq:(Q l)=n:=N.1;have ck:=N.2.1;have cl:=N.2.2.1;have HP:=LH hP;have Hk:=LH k;have Ht:=LH ht;have Hl:=LH C;have bg:=LH aq;have ap:(prog.info? 9).map (λi=>(i.zero,i.size,i.bytes))=some (some (aS ByteArray.empty),1,16):=AB
 have c0:∀(w:World) (a:Addr) (k:FloatKind) (x y:Nat) (m:Mode),(store a (.complex k x y) m).run prog w=stored prog w a (.complex k x y) m:=λw a k x y m=>run_store prog w a _ m rfl;have Hi:=LH ap;clear k hP N ht C aq ap;go_enter func72,ntmps72;go_wp2_with fail;go_loopw [4] (λv wr=>∃(j:Nat) (r:GH) (d:List ByteArray),v = aI aJ (j:Int)/\j<=n/\Hid (Wk wr p B r { G with O:=d })/\Hid (Nv d (l.drop j)=some T)/\Hid (V6 w wr p h r)) (λv _=>n-(intOf v).toNat)
 case atStart=>exact⟨0,h,G.O,rfl,AV _,Hk,Hl,LH (V6.refl _ _ _)⟩
 obtain⟨j,r,d,rfl,hj,o,ak,H⟩:=hrel;obtain⟨a1,n1,c1,a2,n2,c2,a3,n3,c3⟩:=r;obtain⟨hp,z0,z1,z2,z3,z7,dk,v0,v1,v2⟩:=o.out.cells;simp only[] at z0 z1 z2;by_cases br:j<n
 case neg =>
  obtain rfl:j=n:=AA
  go_wp2_with fail;(try simp only[Exit.inBlock,Exit.then]);refine bodyPost_end (results_none rfl _ _ _) rfl ?_;have C:=ak.out;rw[List.drop_eq_nil_of_le (by rw[bg.out];exact AJ _)] at C;have u:d=T:=by
   unfold Nv at C;injection C
  exact⟨rfl,_,by rw[<-u];exact o.out,H.out⟩
 obtain⟨b,c8,q,Ar,cr,x,y,x',y',rfl,hb,Hq,q0,q1,q2,q3,q4,bv⟩:=(HP.out wr (H.out.below Hk.out)).get br;obtain⟨ar,ax⟩:=leftsP_step ak.out Hq.out;have bj:=LH ax;have Z:=Zy wr (aC #[aS q.L,.complex .f64 x y] 124);have O:=Blk.new wr 124 #[aS q.L,.complex .f64 x y];have R:=o.out.below Z;have Y:=λw=>Zx8 q.L w;rw[ar] at Y;have CN:=LH Y;obtain⟨l1,l2,l3⟩:=o.out.lens;simp only[] at l1 l2 l3;have cs:n1<=24:=o.out.b1;have ct:n2<=16:=o.out.b2;have av:G.zt=0:=o.out.st;clear ar ax Y bv;generalize q.L=L at *;go_wp2_with (go_at_call 116;(with_reducible refine (CN.out _).mono ?_);rintro e w2⟨rfl,rfl⟩);generalize bq:wr.alloc (aC #[aS L,.complex .f64 x y] 124)=g at *;have cn:wr.heap.size<g.heap.size:=O.lt;obtain⟨cv,u0,u1,u2,u3,u7,u10,b7,b8,b9⟩:=R.cells;have y0:g.cell? ⟨wr,0,aN⟩=some (aS L):=O.cell 0;simp only[] at u0 u1 u2;have I:=λ(x:Ext g)=>C6 ⟨a1,n1,c1,a2,n2,c2,a3,n3,c3⟩ { G with O:=d } L (bl g x) (R.grAt.below (Zr g x)) (by simp only[];omega);rw[show ({ G with O:=d }:Gr).term L=-1 by unfold Gr.term;show Y8 _ G.T=-1;rw[Ht.out];rfl] at I;rw[show ({ G with O:=d }:Gr).zt=0 from av] at I;have CT:=LH I;have ai:=LH R;have bb:=LH O;have bc:=Yt g;clear I R O bq av l1;go_wp2_with fail;refine Zs AB AB ?_;repeat (go_big_quiet_step ((go_at_call 114;with_reducible exact Ve (CT.out _))))
 refine BJ ?_;rintro _⟨x2,rfl⟩;have J:=Zr g x2;have S:=ai.out.below J;have P:=bb.out.ext J;generalize bl g x2=f at *;have af:=LH (Zz Z J);obtain⟨cw,t0,t1,t2,t3,t7,b3,f0,f1,f2⟩:=S.cells;have e0:f.cell? ⟨wr,0,aN⟩=some (aS L):=P.cell 0;have co:wr.heap.size<f.heap.size:=P.lt;simp only[] at t0 t1 t2;have z:=λ(x:Ext f)=>Zu5 ⟨a1,n1,c1,a2,n2,c2,a3,n3,c3⟩ { G with O:=d } L (bl f x) (S.grAt.below (Zr f x)) (by simp only[];omega);rw[show ({ G with O:=d }:Gr).non L=Y8 (λt=>decide (t=L)) d from rfl,show ({ G with O:=d }:Gr).zt=0 from ai.out.st] at z;have aj:=LH S;have bd:=LH P;have bc2:=Yt f;clear S P bc CT y0 u0 u1 u2 u3 u7 u10 b7 b8 b9 J Z;rcases bj.out with ⟨ae,u⟩ | ⟨ae,bu,u⟩
 ·have W:=LH u;generalize Y8 (λt=>decide (t=L)) d=nv at *;have F:=LH z;clear z u;go_wp2_with fail;refine Zs AB AB ?_;repeat (go_big_quiet_step ((go_at_call 74;with_reducible exact Ve (F.out _))))
  refine BJ ?_;rintro _⟨E,rfl⟩;have s:=Zr f E;have V:=LH (aj.out.below s);have U:=LH (Zz af.out s);generalize bl f E=W3 at *;go_wp2_with fail;go_roundw
  case rel=>exact⟨j+1,_,d,AF,AA,V,W,LH (H.out.trans (V6.of_below U.out _ _))⟩
  simp[intOf];omega
 have W:=LH u;rw[ae] at z;rw[l2] at bu;have F:=LH z;have ch:((n2:Int)==16)=false:=by rw[AR];omega
 clear z u ae;go_wp2_with fail;refine Zs AB AB ?_;repeat (go_big_quiet_step ((go_at_call 74;with_reducible exact Ve (F.out _))))
 refine BJ ?_;rintro _⟨E,rfl⟩;have s:=Zr f E;have D:=aj.out.below s;have ab:=bd.out.ext s;have U:=LH (Zz af.out s);generalize bl f E=W3 at *;obtain⟨cx,m0,m1,m2,m3,m7,c5,g0,g1,g2⟩:=D.cells;have d0:W3.cell? ⟨wr,0,aN⟩=some (aS L):=ab.cell 0;have cp:wr.heap.size<W3.heap.size:=ab.lt;simp only[] at m0 m1 m2;have V:=LH D;have al:Hid ((W3.drew.alloc (aC #[aS L] 9)).ownsRow (p+1) 9 1 (K a2 n2 c2) n2 (d.map aS)):=M5 D.r2 ((AP W3 W3).drew.alloc (AJ _) _);have M:Below W3 W3 (W3.drew.alloc (aC #[aS L] 9)):=(AP W3 W3).drew.alloc (AJ _) _;have ba:=LH (D.blk.ext M);have ag:=LH M;have bs:p+1<=(W3.drew.alloc (aC #[aS L] 9)).heap.size:=by have:=M.size;omega
 clear M D ab s t0 t1 t2 t3 t7 b3 f0 f1 f2 bc2 F;go_wp2_with fail;go_region_law (first
  | (refine V5 rfl _ _ 23 rfl (p+1) 9 _ 1 16 underlying23 Hi.out AC AC a2 n2 c2 (d.map aS) (by simp[Act.eval,Act.put]) (by exact al.out) ⟨W3,0,aN⟩ 1 1 [aS L] rfl (by simp[Act.eval,Act.put]) (by exact Qn W3.drew [aS L] _) (by simp[Value.oneCell']) AA AA (by exact bs) ?_;intro A4 c4 w4 ho ad ha
     have X:=ba.out.grown ad (by intro e;have:=(al.out.lt p e.symm).1;omega);have k1:w4.cell? ⟨p,1,aN⟩=some (K a2 n2 c2):=X.cell 1;have k2:=X.frozen 1;have am:=LH (V.out.put2 L (by simp only[];omega) A4 c4 ho (Zc (Xz _ ag.out) ad) (λb hb bt=>ha b hb (AK bt ag.out.size)));clear X ho ad ha))
 all_goals
  go_wp2_with fail;go_roundw
  case rel=>exact⟨j+1,_,d++[L],AF,AA,LH am.out.1,W,LH ((H.out.trans (V6.of_below U.out _ _)).trans am.out.2)⟩
  simp[intOf];omega
def Wk.fresh(w:World):Wk (w.alloc (aC (Q0 noH) 126)) w (w.alloc (aC (Q0 noH) 126)).heap.size noH ⟨[],[],[],0⟩ :=
 ⟨Blk.new _ _ _,BL _ _ _ _,BL _ _ _ _,⟨[],BL _ _ _ _,Kz.nil _ _⟩,(λb a _=>by cases a),(λb a _=>by cases a),(λb a _=>by cases a),rfl,(λr c=>by cases c),AV _,AV _,AV _⟩
def rf_Build(A:Option Addr)(n c:Nat)(ps:List Prd)(G:Gr)(w:World)(B:Prds w A n c ps)(hn:n<=4000)(hr:∀q∈ps,(Q q.rt)<=4000)(W:Zwy ps=some G):
 Calls prog 34 #[aG #[K aN 0 0,K A n c]] w λe w'=>∃h,e = aR (.tuple #[GV h 0,.complex .f64 0 0,aI aJ 0])/\GrFrom w w' h G/\G.zt=0/\h.n1<=24/\h.n2<=16/\h.n3<=40/\Below w w w':=by
 obtain⟨bm,ns,hl,ao⟩:=buildP_ways W;have ak:=B.1;have bx:=B.2.1;have bz:=B.2.2.1;rw[ak] at bm;have cb:∀(w:World) (a:Addr) (k:FloatKind) (x y:Nat) (m:Mode),(store a (.complex k x y) m).run prog w=stored prog w a (.complex k x y) m:=λw a k x y m=>run_store prog w a _ m rfl;have H:=LH B;have Hr:=LH hr;have Hl:=LH hl;have bc:=LH ao;have ae:=Blk.new w 79 #[K aN 0 0,K A n c];have X:=Zy w (aC #[K aN 0 0,K A n c] 79);have L:=Blk.new (w.alloc (aC #[K aN 0 0,K A n c] 79)) 26 #[K aN 0 0,K aN 0 0,K aN 0 0,aI aJ 0];have Y:=Zo X (aC #[K aN 0 0,K aN 0 0,K aN 0 0,aI aJ 0] 26);have af:=ae.ext (Zy _ (aC #[K aN 0 0,K aN 0 0,K aN 0 0,aI aJ 0] 26));have N:=Zl w (aC #[K aN 0 0,K A n c] 79);rw[N] at L;have O:=Zl (w.alloc (aC #[K aN 0 0,K A n c] 79)) (aC #[K aN 0 0,K aN 0 0,K aN 0 0,aI aJ 0] 26);rw[N] at O;clear hr B W hl ao ae X N ak;go_enter func34,ntmps34;go_wp2_with fail;have ab:=L;have C:=Wk.fresh ((w.alloc (aC #[K aN 0 0,K A n c] 79)).alloc (aC #[K aN 0 0,K aN 0 0,K aN 0 0,aI aJ 0] 26));have I:=Zo Y (aC (Q0 noH) 126);have E:=af.ext (Zy _ (aC (Q0 noH) 126));have ad:=ab.ext (Zy _ (aC (Q0 noH) 126));rw[O] at C;change Calls _ _ _ (World.alloc _ (aC (Q0 noH) 126)) _;generalize ((w.alloc (aC #[K aN 0 0,K A n c] 79)).alloc (aC #[K aN 0 0,K aN 0 0,K aN 0 0,aI aJ 0] 26)).alloc (aC (Q0 noH) 126)=t at *;generalize bi:w.heap.size+1=f at *;generalize an:f+1=p at *;have b0:w.heap.size<f:=AA
 have b6:f<p:=AA
 clear af L ab Y O bi an;(with_reducible refine (wk_decls p noH _ t C).mono ?_);rintro e w1⟨rfl,rfl⟩;have k0:=E.cell 0;have k1:=E.cell 1;have CL:=LH (wk_lefts p noH ⟨[],[],[],0⟩ ns A n c ps t C (λw' l=>H.out.below (I.trans (l.mono AA))) hn rfl Hl.out);have a9:=LH C;have a7:=LH E;have a5:=LH ad;have az:=LH I;clear C E ad I;go_wp2_with fail;(with_reducible refine CL.out.mono ?_);rintro e w2⟨rfl,h2,M,J⟩;have T:=LH (M.mono (Nat.le_of_eq rfl));have a0:=LH J;have ah:=M.mono J.size;have T:=LH ah;clear M J k0 k1 ah;go_wp2_with fail;go_loopw [6] (λv wr=>∃(j:Nat) (d:GH) (s:Gr),v = aI aJ (j:Int)/\j<=n/\Hid (Wk wr p wr d s)/\Hid (Gn s (ps.drop j)=some G)/\Hid (V6 t wr p noH d)) (λv _=>n-(intOf v).toNat)
 case atStart=>exact⟨0,h2,_,rfl,AV _,T,bc,a0⟩
 obtain⟨j,d,s,rfl,hj,r,U,S⟩:=hrel;have z:=S.out.below a9.out;have o:Below w w wr:=az.out.trans (z.mono AA);have F:Blk wr w 79 #[K aN 0 0,K A n c]:=a7.out.below z AA;have g:Blk wr f 26 #[K aN 0 0,K aN 0 0,K aN 0 0,aI aJ 0]:=a5.out.below z AA;have k0:=F.cell 0;have k1:=F.cell 1;obtain⟨an,z0,z1,z2,z3,z7,cj,_,_,_⟩:=r.out.cells;have R:=LH o;by_cases bj:j<n
 case pos =>
  obtain⟨b,D,q,Ar,cr,x,y,x',y',rfl,l,V,q0,q1,q2,q3,q4,aq⟩:=H.out.get bj;obtain⟨P,am,al⟩:=prodsP_step U.out V.out;rw[<-o.cell (p:=⟨b,D+j*5,aN⟩) l] at q0;rw[<-o.cell (p:=⟨b,D+j*5+1,aN⟩) l] at q1;rw[<-o.cell (p:=⟨b,D+j*5+2,aN⟩) l] at q2;rw[<-o.cell (p:=⟨b,D+j*5+3,aN⟩) l] at q3;rw[<-o.cell (p:=⟨b,D+j*5+4,aN⟩) l] at q4;have ar:=Hr.out q (AM V.out);have CP:=LH (wk_prod p d s P q Ar cr x y x' y' wr r.out (AJ _) (λw' hw=>aq.below (R.out.trans (hw.mono AA))) ar am);have bb:=LH al;clear am al aq ar F g z o;go_wp2_with fail;(with_reducible refine CP.out.mono ?_);rintro e w5⟨rfl,h5,ai,aa⟩;have a8:=LH ai;have a4:=LH (S.out.trans aa);clear ai aa;go_wp2_with fail;go_roundw
  case rel=>exact⟨j+1,h5,P,AF,AA,a8,bb,a4⟩
  simp[intOf];omega
 have v0:=g.frozen 0;have v1:=g.frozen 1;have v2:=g.frozen 2;have v3:=g.frozen 3;have i0:=g.cell 0;have i1:=g.cell 1;have i2:=g.cell 2;have i3:=g.cell 3;have a6:=LH g;clear F g z o;go_wp2_with fail;go_quiet (fail)
 go_wp2_with fail;have bh:Blk (wr.drewN nq) f 26 #[K aN 0 0,K aN 0 0,K aN 0 0,aI aJ 0]:=a6.out;have hF:Blk (((((wr.drewN nq).setCell ⟨f,0,aN⟩ (K d.a1 d.n1 d.c1)).setCell ⟨f,1,aN⟩ (K d.a2 d.n2 d.c2)).setCell ⟨f,2,aN⟩ (K d.a3 d.n3 d.c3)).setCell ⟨f,3,aN⟩ (aI aJ 0)) f 26 #[K d.a1 d.n1 d.c1,K d.a2 d.n2 d.c2,K d.a3 d.n3 d.c3,aI aJ 0] :=
  (((bh.set 0 (K d.a1 d.n1 d.c1)).set 1 (K d.a2 d.n2 d.c2)).set 2 (K d.a3 d.n3 d.c3)).set 3 (aI aJ 0)
 have ag:(wr.drewN nq).grownBy (((((wr.drewN nq).setCell ⟨f,0,aN⟩ (K d.a1 d.n1 d.c1)).setCell ⟨f,1,aN⟩ (K d.a2 d.n2 d.c2)).setCell ⟨f,2,aN⟩ (K d.a3 d.n3 d.c3)).setCell ⟨f,3,aN⟩ (aI aJ 0)) (some f) :=
  Zc (Zc (Zc (Zd _ _ _ _) (Zd _ _ _ _)) (Zd _ _ _ _)) (Zd _ _ _ _)
 have Z:G=s:=by
  have:=U.out;rw[List.drop_eq_nil_of_le (by rw[H.out.1];omega)] at this;unfold Gn at this;injection this with this;exact this.symm
 refine AW (Yu (p:=2) (u:=3) (v:=4) AB _ _ f 26 #[K d.a1 d.n1 d.c1,K d.a2 d.n2 d.c2,K d.a3 d.n3 d.c3,aI aJ 0] (0,0) _ rfl hF underlying26 rfl AB) rfl ?_;have au:wr.heap.size<=_:=ag.size;refine⟨d,rfl,λw2 hs hk=>?_,by rw[Z];exact r.out.st,r.out.b1,r.out.b2,r.out.b3,Zg (Zg (Zg (Zg (Fp R.out nq) _ _ _ AA) _ _ _ AA) _ _ _ AA) _ _ _ AA⟩;rw[Z];exact r.out.grAt_ahead (BC au hs) λb l b5=>(hk b (AK l au) AA).trans (ag.block b l (by intro e;injection e with e;omega))
def rf_told(A:Option Addr)(n c:Nat)(b:Bool)(x:Nat)(w:World)(h:Z1 w A n c b x):
 Calls prog 62 #[aG #[K A n c,aB b]] w (Xr w (Xm x)):=by
 have o:=Zy w (aC #[K A n c,aB b] 110);have q:=Blk.new w 110 #[K A n c,aB b];have p:=(h.2.below o);have f:=h.2.len;have k:=h.cases;have l:=LH p;have j:=LH o;go_enter func62,ntmps62;rcases k with ⟨d,rfl,ex⟩ | ⟨d,rfl,ex⟩
 ·have a:Xm x=(Zq3 x,0):=by unfold Xm;rw[if_pos d]
  rw[ex] at f l;have g:=LH a;have m:=LH f;go_wp2_with fail;go_ret2;unfold Xr;rw[g];exact⟨A,c,by rw[<-m];rfl,by rw[m];exact l,j⟩
 have a:Xm x=([],2):=by unfold Xm;rw[if_neg d]
 have g:=LH a;go_wp2_with fail;go_ret2;unfold Xr;rw[g];exact⟨aN,0,rfl,Zq.nil _ _ _ _ AA,j⟩
def Zs0(w:World)(t:TypeId)(c1 c2:Array Value):Below w w ((w.alloc (aC c1 t)).alloc (aC c2 t)).drew/\Blk ((w.alloc (aC c1 t)).alloc (aC c2 t)).drew w t c1/\Blk ((w.alloc (aC c1 t)).alloc (aC c2 t)).drew (w.heap.size+1) t c2:=by
 have h1:=Blk.new w t c1;have b:=Blk.new (w.alloc (aC c1 t)) t c2;have c:=Zy w (aC c1 t);have a:=Zy (w.alloc (aC c1 t)) (aC c2 t);rw[Zl] at b;exact⟨(Zz c a).drew,Blk.drew (h1.ext a),Blk.drew b⟩
def Zqh:Zq3 1=[1]:=by
 have:=Mf [1] (Lim.mk AC Lim.nil) (X8 [1] AC);simpa [val] using this
def Zr5(xs:List Nat)(a:Lim xs):Zrs xs<=1024:=by
 unfold Zrs Zz9;split
 ·unfold Mw;split
  ·rename_i h;split
   ·decide
   rw[Yd];simp at h;have:=(Ul xs a h.1).2;exact bitLen_big _ AA
  decide
 omega
def Tryz.infoValS:(prog.info? 115).map (λi=>(i.zero,i.size,i.bytes))=some (some (K aN 0 0),1,24):=AB
def rf_fnil{h:GH}{G:Gr}{At:Option Addr}{t q:Nat}(Al:Option Addr)(o:Nat)(l:Option Addr)(u r:Nat)(w:World):
 Calls prog 64 #[GV h G.zt,K At t q,K Al 0 o,K l u r] w (Zv7 0 0 0 w):=by
 obtain⟨a1,n1,c1,a2,n2,c2,a3,n3,c3⟩:=h;have f:=Zy w (aC #[K a1 n1 c1,K a2 n2 c2,K a3 n3 c3,aI aJ G.zt] 26);have g:=Zy (w.alloc (aC #[K a1 n1 c1,K a2 n2 c2,K a3 n3 c3,aI aJ G.zt] 26)) (aC #[aI aJ 0,aI aJ 0,K aN 0 0] 67);have c:=Blk.new (w.alloc (aC #[K a1 n1 c1,K a2 n2 c2,K a3 n3 c3,aI aJ G.zt] 26)) 67 #[aI aJ 0,aI aJ 0,K aN 0 0];have k:=Zl w (aC #[K a1 n1 c1,K a2 n2 c2,K a3 n3 c3,aI aJ G.zt] 26);rw[k] at c;have a:=LH c;have d:=LH (Zz f g);clear c f g k;go_enter func64,ntmps64;go_upto_region 1 with fail;generalize (w.alloc (aC #[K a1 n1 c1,K a2 n2 c2,K a3 n3 c3,aI aJ G.zt] 26)).alloc (aC #[aI aJ 0,aI aJ 0,K aN 0 0] 67)=b at *;have v:=a.cell 0;have x:=a.cell 1;have y:=a.cell 2;have z:=a.frozen 0;have A:=a.frozen 1;have B:=a.frozen 2;have C:=a.lt;have n:=LH (((a.set 0 (aI aJ 0)).set 1 (aI aJ 0)).set 2 (K aN 0 0));have j:=((Off.of_set b (w.heap.size+1) 0 (aI aJ 0)).trans (Off.of_set _ (w.heap.size+1) 1 (aI aJ 0)) λ_ _ h=>h).trans (Off.of_set _ (w.heap.size+1) 2 (K aN 0 0)) λ_ _ h=>h;have m:=LH (d.trans (j.is_below d.size λp s=>by rw[s];exact DO _));clear j;go_wp2_with fail;refine AW (AX (p:=8) AB _ _ (w.heap.size+1) 67 #[aI aJ 0,aI aJ 0,K aN 0 0] (0,0) _ rfl n underlying67 rfl AB) rfl ?_;exact⟨m,aN,0,by rw[limbs0];rfl,by rw[limbs0];exact Zq.nil _ _ _ _ AA⟩
def walkP_shape{G:Gr}(f:G.Fits){q at_:Nat}{t:List Int}{non:Int}{a:WSt}{n:Nat}(h:Y0 G q ⟨t.drop at_,[],[]⟩ non=some (a,n)):
 ∃e:Nat,at_<e/\e<=(Q t)/\a.rest=t.drop e/\(Q a.word)<=6*(e-at_)/\(Q a.posts)=e-at_/\0<n/\n<=e-at_:=by
 obtain⟨i,r,d,B,w1,m,h1,p,b,s,c,g,k⟩:=Zz3 q _ _ _ _ h;simp only at c;have v:(t.drop at_).length=(Q d)+1+(Q a.rest):=by rw[c];simp;omega
 have x:(t.drop at_).length=(Q t)-at_:=CJ;have y:=b.len;have u:=b.height;have A:=b.words f;have o:r∈G.U:=by
  obtain⟨j,_,l⟩:=Uo h1;exact AM l
 have z:=f.len _ o;refine⟨at_+(Q d)+1,AA,AA,?_,?_,?_,AA,AA⟩
 ·have:(t.drop at_).drop ((Q d)+1)=a.rest:=by rw[c];simp
  rw[<-this,List.drop_drop];congr 1
 ·rw[g];simp only[DA];omega
 rw[k];simp;omega
section
variable {P:Program}
def Zqv{w:World}{o:Oper}{a:Act}{Q:Exit->Act->World->Prop}(V:o.guard=aN)(s x:Operand)(t:TypeId)(Y:o.op = .call { callee := .builtin .append,args:=#[s,x],argTypes:=#[t,t] })(base:Nat)(e:TypeId)(z:Value)(bytes:Nat)(J:P.underlying t=some (.slice e))(hi:(P.info? e).map (λi=>(i.zero,i.size,i.bytes))=some (some z,1,bytes))(af:z.cells.size=1)(ag:∀u∈z.cells.toList,∀k x,u≠aI k x)(A:Option Addr)(n c:Nat)(xs:List Value)(Z:a.eval s = K A n c)(H:w.ownsRow base e 1 (K A n c) n xs)(X:∀g,(K A n c).ownBlock=some g->Qf w g)(ae:∀u∈xs,∀k x,u≠aI k x)(f:Addr)(c2:Nat)(u:Value)(hx:a.eval x = K (some f) 1 c2)(U:w.cell? f=some u)(h1:u.oneCell'=true)(hu:∀k x,u≠aI k x)(C:n+1<=9223372036854775807)(E:(n+1)*bytes<=140737488355328)(T:base<=w.heap.size)(h:∀d l w',w'.ownsRow base e 1 (K d (n+1) l) (n+1) (xs++[u])->w.grownBy w' (K A n c).ownBlock->(∀b,(K d (n+1) l).ownBlock=some b->b<w.heap.size->(K A n c).ownBlock=some b)->
   (∀b,(K d (n+1) l).ownBlock=some b->Qf w' b)->wpList P ops Q rest (a.put o.dst (K d (n+1) l)) w'):wpList P ops Q (o::rest) a w:=by
 obtain⟨i,G,L,r,D⟩:=info_parts hi;have F:∀j v,[u][j]? = some v->w.cell? (f.add j)=some v:=by
  intro j v m;have W:j=0:=by have:=(AN.1 m).1;simp at this;omega
  subst W;obtain rfl:u=v:=by simpa using m
  have M:f.add 0=f:=by unfold Addr.add;simp
  rw[M];exact U
 have y:∀v∈[u],v.oneCell'=true:=λv m=>by rw[BO.1 m];exact h1
 obtain⟨v',w',I,B,N,_,p⟩:=run_append_own_at (P:=P) w base t o.type e i z 1 bytes J G L r D af AC _ n xs H f 1 c2 [u] rfl F y (by simpa [maxLen] using C) E T;have R:=Zr7 (P:=P) w base t o.type e i z J G L A n c xs (by rw[r];exact H) f 1 c2 AC [u] (by rw[r];rfl) F y C (by rw[D];exact E) X (λv m=>by rw[BO.1 m];exact hu) ae ag I;obtain⟨d,l,rfl⟩:=M3 B;have O:∀b,(K d (n+1) l).ownBlock=some b->b<w.heap.size->(K A n c).ownBlock=some b:=by
  intro b q ah;rcases p with p | p
  ·rw[<-p];exact q
  rw[p] at q;injection q with q;omega
 refine wpList_plain V λK S=>?_;unfold Oper.wp execOp;simp only[Y,resolve,invoke,builtin,Sem.run_bind,Sem.run_pure,Result.andThen_ok,List.map_toArray,CU,List.map_nil,Z,hx,I];exact S _ _ (h d l w' B N O R)
end
section
open Go.Maps (Keyed IsMap Tidy)
variable {W0:World} {k:BkH} {h:GH} {G:Gr} {S':Nat->Prop} {w:World} {gR:Nat} {b:Nat->Bool} {u:Nat->Value} {X:World}
def Wd.moveN{j w:World}{k:BkH}{h:GH}{G:Gr}{S P:Nat->Prop}(C:Wd j k h G S w)(g:Off P w w')(q:Zu w w')(h1:∀b,P b->S b/\j.heap.size<=b/\b≠k.c/\b≠k.t):Wd j k h G S w':=by
 have r:=C.map_lt;refine⟨C.base.trans (g.is_below C.base.size λb l=>(h1 b l).2.1),g.blk C.box λa=>(h1 _ a).2.2.1 rfl,C.low,?_⟩;obtain⟨ts,f⟩:=C.known;refine⟨ts,f.map.block (g.keep _ r λa=>(h1 _ a).2.2.2 rfl),f.key,λp a=>⟨?_,(f.val p a).2⟩⟩;obtain⟨A,n,c,d,m,o⟩:=(f.val p a).1;exact⟨A,n,c,d,(g.keep _ m.lt λl=>(f.val p a).2 (h1 _ l).1).trans m,o.nkept q⟩
end
section
open Go.RowKit Go.Shelf
attribute [local go_sem] Oper.semAt_some
open Go.RowKit Go.Shelf
def Zq1(w:World)(v:Value):Zqy w ((((w.alloc (aC #[v] 44)).alloc (aC #[K aN 0 0] 44)).alloc (aC #[aI aJ 0] 3)).alloc (aC #[aI aJ 0] 31)) v:=by
 have h0:=Boxed.new w 44 v;have h1:=Boxed.new (w.alloc (aC #[v] 44)) 44 (K aN 0 0);have a:=Boxed.new ((w.alloc (aC #[v] 44)).alloc (aC #[K aN 0 0] 44)) 3 (aI aJ 0);have b:=Boxed.new (((w.alloc (aC #[v] 44)).alloc (aC #[K aN 0 0] 44)).alloc (aC #[aI aJ 0] 3)) 31 (aI aJ 0);simp only[World.size_alloc] at h1 a b;exact⟨((h0.alloc _).alloc _).alloc _,(h1.alloc _).alloc _,a.alloc _,b⟩
end
section
variable {W0:World} {h:GH} {G:Gr} {At:Option Addr} {nt ct wk:Nat} {cs:List Nat} {full:Bool} {A:Option Addr} {c:Nat} {W:World}
def Bp.apart(M:Bp W0 h G At nt ct wk cs full A c W):(K A (Q cs) c).ownBlock≠some wk:=λe=>by
 obtain⟨_,_,v,a⟩:=M.row.blk e;exact absurd (a.same_ty M.box) AC
end
def X7.keep{w:World}(h:X7 w B f j wd d g ps)(k:∀b,B<=b->b<w.heap.size->w'.heap[b]? = w.heap[b]?):X7 w' B f j wd d g ps :=
 ⟨Yq h.word λb a _ c=>k b a c,Yq h.posts λb a _ c=>k b a c,h.apart⟩
def X7.set{w:World}{c:Option Addr}{f:Nat}{d:Nat}(h:X7 w B c f wd a d ps)(p i:Nat)(v:Value)(j:p<B):X7 (w.setCell ⟨p,i,aN⟩ v) B c f wd a d ps :=
 h.keep λb g _=>Ea w ⟨p,i,aN⟩ v b (show b≠p by omega)
def X7.mono{w:World}{c:Nat}{b:Option Addr}{f:Nat}{d:Nat}(h:X7 w B b f wd a d ps)(g:c<=B):X7 w c b f wd a d ps:=⟨Bv h.word g,Bv h.posts g,h.apart⟩
def X7.putW{w:World}{k:Option Addr}(h:X7 w B f j wd k l ps)(a:List Int)(q:w1.ownsRow B 3 1 (K d ((Q wd)+(Q a)) g) ((Q wd)+(Q a)) (ints .i64 wd++ints .i64 a))(o:w.grownBy w1 (K f (Q wd) j).ownBlock)(n:∀b,(K d ((Q wd)+(Q a)) g).ownBlock=some b->b<w.heap.size->(K f (Q wd) j).ownBlock=some b):X7 w1 B d g (wd++a) k l ps:=by
 have m:(wd++a).length=(Q wd)+(Q a):=AU;refine⟨?_,Yq h.posts λb _ c p=>o.block b p λe=>h.apart b e.symm c,?_⟩
 ·rw[m,Gj];exact q
 rw[m];exact λb h1 c=>h.apart b (n b h1 (h.posts.lt b c).2) c
def X7.putP{w:World}{k:Option Addr}(h:X7 w B k l wd d g ps)(a:List Int){c:Option Addr}{f:Nat}(q:w1.ownsRow B 3 1 (K c ((Q ps)+(Q a)) f) ((Q ps)+(Q a)) (ints .i64 ps++ints .i64 a))(o:w.grownBy w1 (K d (Q ps) g).ownBlock)(n:∀b,(K c ((Q ps)+(Q a)) f).ownBlock=some b->b<w.heap.size->(K d (Q ps) g).ownBlock=some b):X7 w1 B k l wd c f (ps++a):=by
 have m:(ps++a).length=(Q ps)+(Q a):=AU;refine⟨Yq h.word λb _ j p=>o.block b p λe=>h.apart b j e.symm,?_,?_⟩
 ·rw[m,Gj];exact q
 rw[m];exact λb h1 j=>h.apart b h1 (n b j (h.word.lt b h1).2)
def X7.drew{w:World}{b:Option Addr}{d:Nat}{c:Nat}(h:X7 w B b d wd a c ps):X7 w.drew B b d wd a c ps:=h.keep λ_ _ _=>rfl
def X7.keepRow{w:World}{c:Option Addr}{f:Nat}{d:Nat}(h:X7 w B c f wd a d ps)(j:w.grownBy w1 row)(l:∀b,B<=b->some b≠row):X7 w1 B c f wd a d ps:=h.keep λb g k=>j.block b k (l b g)
theorem ref_of_n(x:Nat)(w:World)(j:x<18446744073709551616):
 Calls prog 18 #[.int .u64 (x:Int)] w (Bq w (Zq3 x)):=by
 have h:Lim [x % 4294967296,x / 4294967296]:=Lim.mk AA (Lim.mk AA Lim.nil);have f:val [x % 4294967296,x / 4294967296]=x:=by simp[val];omega
 have a:=Vg _ h;rw[f] at a;have g:=LH a;clear a f;have d:=(Own.new w 41 .u32 [x % 4294967296,x / 4294967296]).nums (n:=2) (c:=2) rfl (AJ _) AA;have e:(nums .u32 [x % 4294967296,x / 4294967296]).toArray=#[.int .u32 ((x:Int) % 4294967296),.int .u32 ((x:Int) / 4294967296)]:=by simp[nums]
 rw[e] at d;clear e;go_enter func18,ntmps18;go_wp2_with (go_at_call 31;refine (G6 _ _ _ _ _ d).mono ?_;rintro e w'⟨rfl,b,rfl⟩);go_ret;rw[g.out] at b ⊢;exact⟨_,_,rfl,b,(AP _ _).alloc (AJ _) _⟩
end
end Go.Proofs.YtaagompdgiobeaaGreatDoor
