/- the program's counter: split, walked. -/
import Derived.Test.YtaagompdgiobeaaGreatDoorV15
import Derived.Test.YtaagompdgiobeaaGreatDoorV16
import Derived.Test.YtaagompdgiobeaaGreatDoorV17
set_option linter.all false
set_option maxHeartbeats 1500000
set_option maxRecDepth 100000
namespace Go.Proofs.YtaagompdgiobeaaGreatDoor
open Go.RowKit Go.Proofs.Tryz
variable{k:CH}{h:GH}{G:Gr}{w:World}{g n:Nat}{S:Nat->Prop}{ts:List ((List Int × Nat) × Nat)}{l:List Int}
theorem tr_rule{R:World}(hP:Xq G)(hg:Yf R h G)(h2:h.n2<=100)(h3:h.n3<=100){M n0 i:Nat}{s0:Int}{x:Rul}(Y:G.rules[i]? = some x)(cs:Zp s0=x.left.toNat)(hM:mu G n0 s0=M)(fj:n0<=100)(hT:∀(q:Int) (m:Nat),(q<0->Zp q<G.nons.length/\mu G m q<M)->m<=n0->Zw5 R k h G q m):
 ∀(c d m:Nat),x.right.length-d=c->d<=x.right.length->m<=n0->(m=n0->∀(p:Nat) s,p<d->x.right[p]? = some s->Xg (Zj G) s=true)->RuleC R k h G x i d m:=by
 have e2:G.nons.length=h.n2:=hg.nons.len;have e3:G.rules.length=h.n3:=hg.rules.len;have k3:=hg.rules.cap;have az:=AN Y;have hi:i<h.n3:=by rw[<-e3];exact (AO.1 Y).1
 obtain⟨rb,d8,o,Ar,cr,dp,cq,dg,q0,q1,q2,dx⟩:=hg.rules.get hi;have dy:o=x:=by have:=dg.out;rw[Y] at this;exact (BH this).symm
 subst dy;have fk:o.right.length<=100:=by have:=hP.fits.len o az;omega
 have cw:∀s∈o.right,-(h.n2:Int)<=s/\s<=1000:=λs hs=>by have:=hP.fits.sym o az s hs;have:=hP.fits.n1;omega
 have cc:(Zj G).length=h.n2:=by rw[Qe,Qq];exact e2
 have step:∀(d m:Nat),d<=o.right.length->m<=n0->(m=n0->∀(p:Nat) s,p<d->o.right[p]? = some s->Xg (Zj G) s=true)->
  (d<o.right.length->∀m',m'<=n0->(m'=n0->∀(p:Nat) s,p<d+1->o.right[p]? = some s->Xg (Zj G) s=true)->RuleC R k h G o i (d+1) m')->RuleC R k h G o i d m:=by
  intro d m hd X r cb S w C hS;obtain⟨At,cu,bb⟩:=D6 dx hd;have aw:o.right.length-d=(o.right.drop d).length:=by rw[BT]
  rw[aw] at cu bb;have fh:(o.right.drop d).length<=100:=by rw[<-aw];omega
  have fb:=LH aw;clear aw;obtain⟨a8,b2,T,b4⟩:=Cy w 155 261 154 #[.pointer (some ⟨k.c,0,none⟩)] #[.int .i64 (i:Int),.int .i64 (d:Int),.int .i64 (m:Int)] #[.slice none 0 0,.bool false];have au:=C.more a8 (DF w 2);have ce:Off k.maps w (((w.alloc (.cells #[.pointer (some ⟨k.c,0,none⟩)] 155)).alloc (.cells #[.int .i64 (i:Int),.int .i64 (d:Int),.int .i64 (m:Int)] 261)).alloc (.cells #[.slice none 0 0,.bool false] 154)):=Off.of_below a8;have cm:R.heap.size<=w.heap.size+2:=BC C.base.size (DF _ _);have HS:=LH hS;have bx:=LH r;have c9:=LH cb;have HT:=LH hT;have Hx:=LH Y;have HP:=LH hP;have di:=LH cw;have da:=LH cc;have bz:=LH az;have dh:=LH cs;have HM:=LH hM;have c7:=LH bb;unfold kF;go_enter func222,ntmps222;go_upto_region 1 with fail;generalize ((w.alloc (.cells #[.pointer (some ⟨k.c,0,none⟩)] 155)).alloc (.cells #[.int .i64 (i:Int),.int .i64 (d:Int),.int .i64 (m:Int)] 261)).alloc (.cells #[.slice none 0 0,.bool false] 154)=t at *;obtain⟨fs,hf⟩:=au.forts;have W:=hf.look (i:=i) (d:=d) (n:=m) Y AA AA AA;unfold kF at W;obtain⟨am,_,_,_,_,bh⟩:=au.cells;have a3:=LH au;have a5:=LH ce;have bj:=LH b2;have bk:=LH T;have a2:=LH b4;have L:=b2.lt;have N:=T.lt;have l4:=b4.lt;have p0:t.cell? ⟨w,0,none⟩=some (.pointer (some ⟨k.c,0,none⟩)):=b2.cell 0;have t0:t.cell? ⟨w+1,0,none⟩=some (.int .i64 (i:Int)):=T.cell 0;have t1:t.cell? ⟨w+1,1,none⟩=some (.int .i64 (d:Int)):=T.cell 1;have O:t.cell? ⟨w+1,2,none⟩=some (.int .i64 (m:Int)):=T.cell 2;clear hP Y cs hM hT cc az r cb hS bb C au ce b2 T b4 a8 hf cw;rcases W with ⟨bv,W,hv⟩ | W
  ·obtain⟨Av,nv,cv,dv,cj,cz⟩:=hv;have H:=Yt t;refine Zs AB AB ?_;repeat (go_big_quiet_step (fail))
   refine BL ?_;rintro _⟨y,rfl⟩;have a:=Zr t y;have D:=LH (a3.out.below a);have ae:=LH (a5.out.maps_trans (Off.of_below a));have g:=a2.out.ext a;have av:=cj.ext a;have dd:=LH (cz.below a);have aj:=LH (Uw (S':=S) D.out g dd.out ae.out (.inr rfl) cm (DF _ _) λq A => .inl A);have c0:(bl t y).cell? ⟨w+2,0,none⟩=some (.slice none 0 0):=g.cell 0;have c1:(bl t y).cell? ⟨w+2,1,none⟩=some (.bool false):=g.cell 1;have f0:=g.frozen 0;have f1:=g.frozen 1;have l5:=g.lt;have v0:(bl t y).cell? ⟨bv,0,none⟩=some (.slice Av nv cv):=av.cell 0;have v1:(bl t y).cell? ⟨bv,1,none⟩=some (.bool dv):=av.cell 1;have l6:=av.lt;clear W cj cz H a g av p0 t0 t1 O L N l4 D ae;generalize bl t y=v at *;go_wp2_with fail;refine AW (AX (p:=4) AB _ _ (w.heap.size+2) 154 #[.slice Av nv cv,.bool dv] (0,0) _ rfl aj.out.1 underlying154 rfl AB) rfl ?_;exact aj.out.2
  have H:=Yt t;refine Zs AB AB ?_;repeat (go_big_quiet_step (fail))
  refine BL ?_;rintro _⟨y,rfl⟩;have a:=Zr t y;have D:=LH (a3.out.below a);have ae:=LH (a5.out.maps_trans (Off.of_below a));have u:=bj.out.ext a;have l:=bk.out.ext a;have g:=a2.out.ext a;have bt:=LH u;have bu:=LH l;have ah:=LH g;clear W H a am bh p0 t0 t1 O L N l4 a3 a5 bj bk a2;generalize bl t y=v at *;have L:=u.lt;have N:=l.lt;have l4:=g.lt;have p0:v.cell? ⟨w,0,none⟩=some (.pointer (some ⟨k.c,0,none⟩)):=u.cell 0;have t0:v.cell? ⟨w+1,0,none⟩=some (.int .i64 (i:Int)):=l.cell 0;have t1:v.cell? ⟨w+1,1,none⟩=some (.int .i64 (d:Int)):=l.cell 1;have O:v.cell? ⟨w+1,2,none⟩=some (.int .i64 (m:Int)):=l.cell 2;obtain⟨am,_,c2,_,_,_⟩:=D.out.cells;rw[dp] at c2;have a9:=D.out.base;have dw:rb<v.heap.size:=AK cq a9.size;have d7:=(a9.cell (p:=⟨rb,d8+i*3+1,none⟩) cq).trans q1;clear u l g a9;go_upto_region 4 with fail;have H:=Yt v;refine Zs AB AB ?_;repeat (go_big_quiet_step (fail))
  refine BL ?_;rintro _⟨y,rfl⟩;have a:=Zr v y;have z:=LH (D.out.below a);have ap:=LH (ae.out.maps_trans (Off.of_below a));have u:=bt.out.ext a;have l:=bu.out.ext a;have g:=ah.out.ext a;have af:=LH u;have ag:=LH l;have ai:=LH g;clear cu H a am c2 p0 t0 t1 O L N l4 D ae bt bu ah d7 dw;generalize bl v y=W3 at *;have L:=u.lt;have N:=l.lt;have p0:W3.cell? ⟨w,0,none⟩=some (.pointer (some ⟨k.c,0,none⟩)):=u.cell 0;have O:W3.cell? ⟨w+1,2,none⟩=some (.int .i64 (m:Int)):=l.cell 2;have ch:∀b,(S b\/b=w.heap.size+2)->b<W3.heap.size:=λb r=>by
   rcases r with r | rfl
   ·exact AK (HS.out b r) ap.out.size
   exact g.lt
  have CS:=(Zwe HP.out 238 #[.pointer (some ⟨w,0,none⟩),.pointer (some ⟨w+1,0,none⟩)] enters_crule1 At (cr-d) (o.right.drop d) m W3 z.out ch c7.out da.out (λs hs=>di.out s (List.mem_of_mem_drop hs)) AA AA AA
   (λs l' hl j hj=>by
     obtain⟨A,rfl,ay⟩:=Zvk hl;exact HT.out s j (λct=>⟨InG.rule HP.out.fits bz.out s (AN A) ct,by have:=Zvg HP.out bz.out A ct X bx.out hj dh.out;rw[HM.out] at this;exact this⟩) AA)
   (λs l' hl j hj d0=>by
     obtain⟨A,rfl,ay⟩:=Zvk hl;intro S' w' C' dn cd;exact tr_rule1 o i d m (m-j) _ _ w' C' dn (cd.blk af.out (z.out.not_map af.out)) (cd.blk ag.out (z.out.not_map ag.out)) (c9.out ay (m-j) AA (rule_next HP.out A X AA bx.out d0)) AA))
  rw[BT] at CS;have CS:=LH CS;clear u l g ch;go_wp2_with fail;(with_reducible refine CS.out.mono ?_);rintro e B⟨b7,J,P,Z,U,V,rfl,cx⟩;have I:=Zy B (.cells #[.slice P Z U,.bool V] 154);have b9:=Blk.new B 154 #[.slice P Z U,.bool V];have ba:=b7.below I;have cf:=(ap.out.maps_trans J).maps_trans (Off.of_below I);have u:=(J.blk af.out (z.out.not_map af.out)).ext I;have l:=(J.blk ag.out (z.out.not_map ag.out)).ext I;have g:=(J.blk ai.out (z.out.not_map ai.out)).ext I;have cy:=cx.below I;have fi:w.heap.size+2<B.heap.size:=(J.blk ai.out (z.out.not_map ai.out)).lt;have ds:∀b,S b->b<B.heap.size:=λb r=>AK (HS.out b r) (BC ap.out.size J.size);go_upto_region 6 with fail;generalize B.alloc (.cells #[.slice P Z U,.bool V] 154)=E at *;have dt:¬(S B.heap.size\/B.heap.size=w.heap.size+2):=by
   rintro (r | r)
   ·exact Nat.lt_irrefl _ (ds _ r)
   omega
  generalize B.heap.size=g7 at *;obtain⟨am,_,_,_,_,bh⟩:=ba.cells;have L:=u.lt;have N:=l.lt;have p0:E.cell? ⟨w,0,none⟩=some (.pointer (some ⟨k.c,0,none⟩)):=u.cell 0;have t0:E.cell? ⟨w+1,0,none⟩=some (.int .i64 (i:Int)):=l.cell 0;have t1:E.cell? ⟨w+1,1,none⟩=some (.int .i64 (d:Int)):=l.cell 1;have O:E.cell? ⟨w+1,2,none⟩=some (.int .i64 (m:Int)):=l.cell 2;have bm:=LH ba;have bp:=LH cf;have ah:=LH g;have bo:=LH b9;have br:=LH cy;clear b7 J cx I b9 ba cf u l g cy CS z ap af ag ai;have H:=Yt E;refine Yx 5 AB AB ?_;simp only[List.take_succ_cons,List.take_zero,List.drop_succ_cons,Ed];repeat (go_big_quiet_step (fail))
  refine BL ?_;rintro _⟨y,rfl⟩;have a:=Zr E y;have ad:=LH (bm.out.below a);have db:=LH (bp.out.maps_trans (Off.of_below a));have bw:=LH (ah.out.ext a);have a4:=LH (bo.out.ext a);have bs:=LH (br.out.below a);clear a H bm bp ah bo br p0 t0 t1 O am bh L N;generalize bl E y=W6 at *;obtain⟨fe,bd⟩:=ad.out.forts;have be:U4 prog 261 (kF i d m):=Zsn AA AA AA;unfold kF at be;have cl:=bd.few;have bn:=LH bd;have df:=LH be;have de:=LH cl;clear bd be cl;go_wp2_with (
               at_mapUpdate;refine D7 _ rfl _ _ _ 209 rfl 258 k.f g7 Tryz.keyKF underlying209 bn.out.map de.out (.agg #[.int .i64 (i:Int),.int .i64 (d:Int),.int .i64 (m:Int)]) df.out rfl rfl rfl ?_;intro w7 cp cn
               obtain⟨b8,ak⟩:=ad.out.putF bn.out Hx.out AA AA AA ⟨P,Z,U,V,a4.out,bs.out⟩ dt cp cn;have F:=ak.blk bw.out (ad.out.not_map bw.out);have G7:=ak.blk a4.out (ad.out.not_map a4.out);have V7:=bs.out.kept (ad.out.keep ak);have aj:=LH (Uw (S':=S) b8 F V7 (db.out.maps_trans ak) (.inr rfl) cm (DF _ _) λq A => .inl A);have c0:w7.cell? ⟨w+2,0,none⟩=some (.slice none 0 0):=F.cell 0;have c1:w7.cell? ⟨w+2,1,none⟩=some (.bool false):=F.cell 1;have f0:=F.frozen 0;have f1:=F.frozen 1;have l5:=F.lt;have v0:w7.cell? ⟨g7,0,none⟩=some (.slice P Z U):=G7.cell 0;have v1:w7.cell? ⟨g7,1,none⟩=some (.bool V):=G7.cell 1;have l6:=G7.lt;clear b8 ak F G7 V7 cp cn)
  refine AW (AX (p:=4) AB _ _ (w.heap.size+2) 154 #[.slice P Z U,.bool V] (0,0) _ rfl aj.out.1 underlying154 rfl AB) rfl ?_;exact aj.out.2
 intro c
 induction c with
 | zero =>
   intro d m hc hd X r;exact step d m hd X r λay=>AA
 | succ c ih =>
   intro d m hc hd X r;exact step d m hd X r λay m' du dq=>ih (d+1) m' AA AA du dq
theorem tr_tree{W0:World}(hP:Xq G)(hg:Yf W0 h G)(h2:h.n2<=100)(h3:h.n3<=100):∀(M n:Nat) (s:Int),(s<0->Zp s<G.nons.length/\mu G n s=M)->n<=100->Zw5 W0 k h G s n:=by
 have e2:G.nons.length=h.n2:=hg.nons.len;have e3:G.rules.length=h.n3:=hg.rules.len;have k3:=hg.rules.cap;have f8:(Zj G).length=h.n2:=by rw[Qe,Qq];exact e2
 have hr:=hP.fits.n2;intro M
 induction M using Nat.strongRecOn with
 | ind M ih =>
 intro n s hs hn;by_cases h0:0<=s
 case pos=>exact Di h0 hn
 intro S w C hS;have fb:=Zy w (.cells #[.slice none 0 0,.bool false] 154);have b2:=Blk.new w 154 #[.slice none 0 0,.bool false];have f7:=C.more fb (AJ w);have f9:Off k.maps w (w.alloc (.cells #[.slice none 0 0,.bool false] 154)):=Off.of_below fb;have b3:=C.base.size;have HS:=LH hS;have HP:=LH hP;have Hg:=LH hg;have f3:=LH ih;have gl:=LH f8;clear hS hg ih f8;go_enter func205,ntmps205;go_upto_region 1 with fail;generalize w.alloc (.cells #[.slice none 0 0,.bool false] 154)=W1 at *;have bh:=LH f7;have bp:=LH b2;have ch:=LH f9;have l1:=b2.lt;have c0:W1.cell? ⟨w,0,none⟩=some (.slice none 0 0):=b2.cell 0;have c1:W1.cell? ⟨w,1,none⟩=some (.bool false):=b2.cell 1;have f0:=b2.frozen 0;have f1:=b2.frozen 1;clear f7 b2 f9 fb C;have be:s<0:=AA
 obtain⟨gf,ge⟩:=hs be;obtain⟨j,hj,dh,hw⟩:=Vy (s:=s) (n:=h.n2) be (by unfold Zp at gf;omega) AA;have gb:=Z8.at bh.nul (i:=j) (by rw[gl];exact hj);obtain⟨F,gj,_,gi,_,_⟩:=bh.cells;have d5:Hid ((Zj G).getD j false=false->Zv G s 0=0):=LH λhz=>by
  apply DV;intro fk;have:=Jw HP fk;unfold Xg at this;rw[dh,hz] at this;simp at this
 have f4:=LH ge;have bd:=LH gf;clear hs hP ge;generalize (Zj G).getD j false=z at *;by_cases hz:n=0/\z=false
 case pos =>
  obtain⟨rfl,rfl⟩:=hz;have cm:Hid (Zv G s 0=0):=d5 rfl;have gc:=LH (Uw (S':=S) bh bp (Z1.zero _ none 0 AA) ch (.inr rfl) b3 (AJ _) λq hq => .inl hq);go_wp2_with fail;refine AW (AX (p:=6) AB _ _ w 154 #[.slice none 0 0,.bool false] (0,0) _ rfl gc.1 underlying154 rfl AB) rfl ?_;rw[cm];exact gc.2
 have hm:Hid (∀q:Nat,q<=h.n3->True):=LH λ_ _=>trivial;rcases (by cases z <;> simp at hz <;> simp[hz] <;> omega:(n≠0)\/(n=0/\z=true)) with hn0 | ⟨rfl,rfl⟩
 ·have hu:((n:Int)==0)=false:=by rw[AQ];omega
  clear hz d5 hn0;go_upto_region 6 with fail;have a6:=Zy W1 (.cells #[.int .i64 s,.int .i64 (n:Int)] 257);have an:=Blk.new W1 257 #[.int .i64 s,.int .i64 (n:Int)];have gw:w.heap.size<W1.heap.size:=bp.lt;have af:=LH (bh.below a6);have bk:=LH (ch.maps_trans (Off.of_below a6));have br:=LH (bp.ext a6);clear c0 c1 f0 f1 l1 gb F gj gi a6 bp bh ch;generalize W1.alloc (.cells #[.int .i64 s,.int .i64 (n:Int)] 257)=x at *;generalize W1.heap.size=I at *;have cf:=LH an;obtain⟨ts,ht⟩:=af.trees;have J:=ht.look s n be (by have:=bd.out;omega) AA;unfold kT at J;try simp only[Int.ofNat_zero,Int.natCast_zero] at J
  obtain⟨F,_,_,_,a7,_⟩:=af.cells;have y0:x.cell? ⟨I,0,none⟩=some (.int .i64 s):=an.cell 0;have y1:x.cell? ⟨I,1,none⟩=some (.int .i64 (n:Int)):=an.cell 1;have yl:=an.lt;clear an ht;rcases J with ⟨bv,J,hv⟩ | J
  ·obtain⟨Av,nv,cv,dv,dc,dj⟩:=hv;have bc:=Yt x;refine Zs AB AB ?_;repeat (go_big_quiet_step (fail))
   refine BL ?_;rintro _⟨y,rfl⟩;have m:=Zr x y;have H:=br.ext m;have a4:=dc.ext m;have ag:=LH (Uw (S':=S) (af.below m) H (dj.below m) (bk.maps_trans (Off.of_below m)) (.inr rfl) b3 (AJ _) λq hq => .inl hq);have c0:(bl x y).cell? ⟨w,0,none⟩=some (.slice none 0 0):=H.cell 0;have c1:(bl x y).cell? ⟨w,1,none⟩=some (.bool false):=H.cell 1;have f0:=H.frozen 0;have f1:=H.frozen 1;have l5:=H.lt;have v0:(bl x y).cell? ⟨bv,0,none⟩=some (.slice Av nv cv):=a4.cell 0;have v1:(bl x y).cell? ⟨bv,1,none⟩=some (.bool dv):=a4.cell 1;have l6:=a4.lt;clear J dc dj bc m H a4 y0 y1 yl F a7;generalize bl x y=W3 at *;go_wp2_with fail;refine AW (AX (p:=6) AB _ _ w 154 #[.slice Av nv cv,.bool dv] (0,0) _ rfl ag.1 underlying154 rfl AB) rfl ?_;exact ag.2
  have bc:=Yt x;refine Zs AB AB ?_;repeat (go_big_quiet_step (fail))
  refine BL ?_;rintro _⟨y,rfl⟩;have m:=Zr x y;have bi:=LH (af.below m);have ci:=LH (bk.maps_trans (Off.of_below m));have cl:=LH (br.ext m);have cg:=LH (cf.ext m);clear J bc m F a7 y0 y1 yl af bk br cf;generalize bl x y=W3 at *;obtain⟨F,_,fs,_,_,_⟩:=bi.cells;have gs:=k3;go_wp2_with fail;go_loopw [49] (λi wr=>∃(q:Nat) (f:Option Addr) (ns cs:Nat) (g:Bool),q<=h.n3/\i = .int .i64 (q:Int)/\Hid (Yo W0 k h G (λb=>S b\/b=w.heap.size) wr)/\Hid (Off k.maps w wr)/\Hid (Blk wr w 154 #[.slice f ns cs,.bool g])/\Hid (Blk wr I 257 #[.int .i64 s,.int .i64 (n:Int)])/\Hid (Z1 wr f ns cs g (Yc (Zv G) (G.rules.take q) j n))) (λi _=>h.n3-(intOf i).toNat)
  case atStart=>exact⟨0,none,0,0,false,AS _,rfl,bi,ci,cl,cg,LH (Z1.zero _ _ _ AA)⟩
  clear bi ci cl cg F fs;obtain⟨q,f,ns,cs,g,hq,rfl,L,HO,P,O,HV⟩:=hrel;by_cases fm:q<h.n3
  case pos =>
   obtain⟨Y,au,r,Ar,cr,ff,ap,Hr,q0,q1,q2,fo⟩:=Hg.rules.get fm;have fj:=AN Hr;have am:=L.base;have fn:Y<wr.heap.size:=AK ap am.size;have p0:=(am.cell (p:=⟨Y,au+q*3,none⟩) ap).trans q0;have p1:=(am.cell (p:=⟨Y,au+q*3+1,none⟩) ap).trans q1;have p2:=(am.cell (p:=⟨Y,au+q*3+2,none⟩) ap).trans q2;have U:=Zy wr (.cells #[.int .i64 r.left,.slice Ar r.right.length cr,.int .i64 r.prec] 60);have b1:=Blk.new wr 60 #[.int .i64 r.left,.slice Ar r.right.length cr,.int .i64 r.prec];have N:=LH (L.below U);have bm:=LH (HO.maps_trans (Off.of_below U));have R:=LH (P.ext U);have bj:=LH (O.ext U);have ck:=LH (HV.below U);have V:=Cq (T:=Zv G) Hr j n;have gx:=HP.fits.left r fj;rw[ff];go_upto_region 12 with fail;generalize wr.alloc (.cells #[.int .i64 r.left,.slice Ar r.right.length cr,.int .i64 r.prec] 60)=W4 at *;have r0:W4.cell? ⟨wr,0,none⟩=some (.int .i64 r.left):=b1.cell 0;have rl:=b1.lt;have gu:w.heap.size<wr.heap.size:=P.lt;clear U b1 am p0 p1 p2 q0 q1 q2 ap fn fo L HO P O HV;generalize wr.heap.size=gR at *;by_cases ao:r.left=(j:Int)
   case neg =>
    have fk:(r.left==(j:Int))=false:=by rw[AQ];exact ao
    rw[if_neg AA,DO] at V;have bw:=LH V;clear V ao;go_wp2_with fail;go_roundw
    case rel=>exact⟨q+1,f,ns,cs,g,AA,AF,N,bm,R,bj,by rw[bw];exact ck⟩
    simp[intOf] <;> omega
   have fg:(r.left==(j:Int))=true:=by rw[BW];exact ao
   rw[if_pos AA] at V;have HR:=LH (tr_rule (k:=k) HP Hg h2 h3 (i:=q) (s0:=s) (n0:=n) Hr (by rw[dh,ao];rfl) f4 AA (λq' m' fl gy=>by
    by_cases fa:0<=q'
    ·exact Di fa AA
    obtain⟨a1,a2⟩:=fl AA;exact f3 _ a2 m' q' (λ_=>⟨a1,rfl⟩) AA) _ 0 n rfl (AS _) (AJ _) (λ_ p sx d=>absurd d (Nat.not_lt_zero p)))
   have bw:=LH V;clear V;go_upto_region 13 with fail;clear ao fg;refine Xh (λX=>MidC W0 k h G (λb=>S b\/b=w.heap.size) W4 X) (λX X'=>Zf X X') (λu=>(⟨(Value.pointer (some ⟨k.c,0,none⟩)::Value.int IntKind.i64 s::Value.int IntKind.i64 (n:Int)::undef::undef::undef::Value.pointer (some ⟨w,0,none⟩)::Value.pointer (some ⟨I,0,none⟩)::Value.pointer none::Value.int IntKind.i64 (q:Int)::Value.pointer (some ⟨gR,0,none⟩)::Value.int IntKind.i64 s::Value.bool false::undef::undef::Value.int IntKind.i64 (n:Int)::Value.bool false::Value.bool false::undef::undef::undef::undef::undef::undef::undef::undef::undef::Value.bool false::undef::Value.int IntKind.i64 s::Value.int IntKind.i64 (n:Int)::Value.agg #[Value.int IntKind.i64 s,Value.int IntKind.i64 (n:Int)]::Value.pointer (some ⟨k.c,0,none⟩)::Value.pointer (some ⟨k.c,0,none⟩)::Value.pointer (some ⟨k.c,5,none⟩)::Value.map (some k.t)::Value.agg #[Value.int IntKind.i64 s,Value.int IntKind.i64 (n:Int)]::Value.pointer none::Value.pointer none::Value.bool false::undef::undef::undef::Value.pointer (some ⟨k.c,0,none⟩)::Value.pointer (some ⟨k.c,0,none⟩)::Value.pointer (some ⟨k.c,0,none⟩)::Value.pointer (some ⟨k.c,2,none⟩)::Value.slice (some ⟨Y,au,none⟩) h.n3 h.c3::Value.int IntKind.i64 (h.n3:Int)::Value.int IntKind.i64 (q:Int)::Value.bool true::Value.int IntKind.i64 (q:Int)::Value.pointer (some ⟨Y,au+q*3,none⟩)::Value.agg #[Value.int IntKind.i64 r.left,Value.slice Ar r.right.length cr,Value.int IntKind.i64 r.prec]::Value.pointer (some ⟨gR,0,none⟩)::Value.int IntKind.i64 (j:Int)::Value.int IntKind.i64 s::Value.int IntKind.i64 (j:Int)::Value.bool true::u 0::u 1::u 2::u 3::u 4::u 5::u 6::u66::undef::undef::undef::undef::undef::undef::[]).toArray,[]⟩:Act)) [u59,u60,u61,u62,u63,u64,u65] [λv X=>v=Value.agg #[Value.slice f ns cs,Value.bool g],λv X=>v=Value.pointer (some ⟨k.c,0,none⟩),λv X=>v=Value.int .i64 (q:Int),λv X=>v=Value.int .i64 (n:Int),λv X=>v=Value.agg #[Value.int .i64 (q:Int),Value.int .i64 0,Value.int .i64 (n:Int)],λv X=>∃Aq nq cq bq,v=Value.agg #[Value.slice Aq nq cq,Value.bool bq]/\Z1 X Aq nq cq bq (Zx (Zv G) r.right n),λv X=>∃Aq nq cq bq,v=Value.agg #[Value.slice Aq nq cq,Value.bool bq]/\Z1 X Aq nq cq bq (Yc (Zv G) (G.rules.take q) j n+Zx (Zv G) r.right n)] (λu X=>∃A9 n9 c9 d9,Yo W0 k h G (λb=>S b\/b=w.heap.size) X/\Off k.maps w X/\Blk X w 154 #[Value.slice A9 n9 c9,Value.bool d9]/\Blk X I 257 #[Value.int .i64 s,Value.int .i64 (n:Int)]/\Z1 X A9 n9 c9 d9 (Yc (Zv G) (G.rules.take q) j n+Zx (Zv G) r.right n)) (l:=[_,_,_,_,_,_,_]) AB AB AB rfl rfl ⟨N.below (AL _ _).drew,Off.of_below (AL _ _).drew⟩ ⟨AI,AI,AI,AI,AI,(λ_ _ _ ⟨A,n,c,b,e,h⟩ D=>⟨A,n,c,b,e,h.kept D⟩),(λ_ _ _ ⟨A,n,c,b,e,h⟩ D=>⟨A,n,c,b,e,h.kept D⟩),trivial⟩ ?_ ?_ ?_
   ·refine Zk.con (λQ u X a d KK o=>?_) ?_
    ·have B:=a.2.blk R (N.not_map R);have d7:X.cell? ⟨w,0,none⟩=some (.slice f ns cs):=B.cell 0;have d8:X.cell? ⟨w,1,none⟩=some (.bool g):=B.cell 1;have fr:=B.lt;go_simp;exact o _ _ a ⟨AJ _,λ_ _ _=>rfl⟩ rfl
    iterate 3
     refine Zk.con (λQ u X a d KK o=>?_) ?_
     ·go_simp;exact o _ _ a ⟨AJ _,λ_ _ _=>rfl⟩ rfl
    refine Zk.con (λQ u X a d KK o=>?_) ?_
    ·have p2:u 2=_:=d 2 rfl;have p3:u 3=_:=d 3 rfl;clear d;rw[p2,p3] at o⊢;go_simp;exact o _ _ a ⟨AJ _,λ_ _ _=>rfl⟩ rfl
    refine Zk.con (λQ u X a d KK o=>?_) ?_
    ·have p1:u 1=_:=d 1 rfl;have p4:u 4=_:=d 4 rfl;clear d;generalize u 1=x1 at *;subst p1;generalize u 4=x4 at *;subst p4;have fe:∀b,(S b\/b=w.heap.size)->b<X.heap.size:=λb D=>by
      rcases D with D | rfl
      ·exact AK (HS b D) (BC bm.size a.2.size)
      exact AK R.lt a.2.size
     have CO:=HR (λb=>S b\/b=w.heap.size) X a.1 fe;unfold kF at CO;simp only[Int.ofNat_zero,Int.natCast_zero,Ed] at CO;go_simp;refine CO.mono ?_;rintro e w5⟨fc,db,A2,m2,c2,d2,rfl,b6⟩;go_simp;exact o _ _ (⟨fc,a.2.maps_trans db⟩) (a.1.keep db) ⟨A2,m2,c2,d2,rfl,b6⟩
    refine Zk.con (λQ u X a d KK o=>?_) ?_
    ·have p0:u 0=_:=d 0 rfl;obtain⟨A2,m2,c2,d2,p5,b6⟩:=d 5 rfl;clear d;rw[p0] at o⊢;generalize u 5=x5 at *;subst p5;have fq:=ck.kept (N.keep a.2);go_simp;refine (Zu2 f ns cs g _ A2 m2 c2 d2 _ X fq b6).mono ?_;rintro e w5⟨b0,A4,m4,c4,d4,rfl,b7⟩;go_simp;exact o _ _ (⟨a.1.below b0,a.2.maps_trans (Off.of_below b0)⟩) (Zf.of_below b0) ⟨A4,m4,c4,d4,rfl,b7⟩
    exact Zk.nil
   ·intro Q u X a d KK o;obtain⟨A4,m4,c4,d4,p6,b7⟩:=d 6 AC;clear d;generalize u 6=x6 at *;subst p6;have B:=a.2.blk R (N.not_map R);have d7:X.cell? ⟨w,0,none⟩=some (.slice f ns cs):=B.cell 0;have d8:X.cell? ⟨w,1,none⟩=some (.bool g):=B.cell 1;have fr:=B.lt;have gq:=B.frozen 0;have gr:=B.frozen 1;have da:=a.2.blk bj (N.not_map bj);have W:=a.1.store B (.inr rfl) b3 A4 m4 c4 d4;have d1:=LH (And.intro W.1 (And.intro ((bm.maps_trans a.2).maps_new W.2.1 (AJ _)) (And.intro W.2.2.2 (And.intro (W.2.1.blk da (λe=>AA)) (b7.kept W.2.2.1)))));clear W B da;go_simp;exact o (λi=>([u 0,u 1,u 2,u 3,u 4,u 5,Value.agg #[Value.slice A4 m4 c4,Value.bool d4]]:List Value).getD i undef) _ (⟨A4,m4,c4,d4,d1⟩)
   intro u W9 fh;obtain⟨A9,n9,c9,d9,g1,g2,g3,g5,g4⟩:=fh;have ds:=LH g1;have dw:=LH g2;have dz:=LH g3;have dt:=LH g5;rw[<-bw] at g4;have dy:=LH g4;clear g1 g2 g3 g4 g5;go_wp2_with fail;go_roundw
   case rel=>exact⟨q+1,A9,n9,c9,d9,AA,AF,ds,dw,dz,dt,dy⟩
   simp[intOf] <;> omega
  obtain rfl:q=h.n3:=AA
  have cm:Hid (Yc (Zv G) (G.rules.take h.n3) j n=Zv G s n):=LH (by rw[AR AA,Uu HP be bd,dh]);obtain⟨F,_,_,_,a7,_⟩:=L.cells;have xl:=P.lt;have y0:wr.cell? ⟨I,0,none⟩=some (.int .i64 s):=O.cell 0;have y1:wr.cell? ⟨I,1,none⟩=some (.int .i64 (n:Int)):=O.cell 1;have yl:=O.lt;have gt:W0.heap.size<=w.heap.size:=b3;go_upto_region 15 with fail;have bc:=Yt wr;refine Yx 5 AB AB ?_;simp only[List.take_succ_cons,List.take_zero,List.drop_succ_cons,Ed];repeat (go_big_quiet_step (fail))
  refine BL ?_;rintro _⟨y,rfl⟩;have m:=Zr wr y;have aw:=LH ((L.below m).less (S':=S) λb D => .inl D);have du:=LH (HO.maps_trans (Off.of_below m));have bt:=LH (P.ext m);have bo:=LH (HV.below m);have fi:¬S w.heap.size:=λD=>Nat.lt_irrefl _ (HS _ D);clear m bc L HO P HV O y0 y1 yl F a7 xl;generalize bl wr y=W6 at *;obtain⟨g9,b5⟩:=aw.trees;have a5:U4 prog 257 (kT s n):=Zww (by have:=bd.out;unfold Zp at this;omega) AA AA;unfold kT at a5;try simp only[Int.ofNat_zero,Int.natCast_zero] at a5
  have dd:=b5.few;have cj:=LH b5;have d3:=LH a5;have d0:=LH dd;clear b5 a5 dd;rw[cm] at bo;go_wp2_with (
   at_mapUpdate
   refine D7 _ rfl _ _ _ 208 rfl 258 k.t w Tryz.keyKT underlying208 cj.map d0 (.agg #[.int .i64 s,.int .i64 (n:Int)]) d3 rfl rfl rfl ?_;intro Z dg df;obtain⟨c8,a3⟩:=aw.putT cj be (by have:=bd.out;omega) AA ⟨f,ns,cs,g,bt,bo⟩ fi dg df;have E:=a3.blk bt (aw.not_map bt);have V7:=bo.kept (aw.keep a3);have e1:=Kt (i:=0) (v := .slice f ns cs) E rfl;have cx:(Z.setCell ⟨w,0,none⟩ (.slice f ns cs)).setCell ⟨w,1,none⟩ (.bool g)=Z:=by rw[e1];exact Kt (i:=1) (v := .bool g) E rfl
   have ag:Hid (Blk ((Z.setCell ⟨w,0,none⟩ (.slice f ns cs)).setCell ⟨w,1,none⟩ (.bool g)) w 154 #[.slice f ns cs,.bool g]/\CRet W0 k h G S w (Zv G s n) (.returned (.agg #[.slice f ns cs,.bool g])) ((Z.setCell ⟨w,0,none⟩ (.slice f ns cs)).setCell ⟨w,1,none⟩ (.bool g))):=LH (by rw[cx];exact⟨E,c8,du.maps_trans a3,f,ns,cs,g,rfl,V7⟩);have c0:Z.cell? ⟨w,0,none⟩=some (.slice f ns cs):=E.cell 0;have c1:Z.cell? ⟨w,1,none⟩=some (.bool g):=E.cell 1;have f0:=E.frozen 0;have f1:=E.frozen 1;have l5:=E.lt;clear c8 a3 E V7 dg df e1 cx)
  refine AW (AX (p:=6) AB _ _ w 154 #[.slice f ns cs,.bool g] (0,0) _ rfl ag.1 underlying154 rfl AB) rfl ?_;exact ag.2
 clear hz d5;go_upto_region 6 with fail;have a6:=Zy W1 (.cells #[.int .i64 s,.int .i64 0] 257);have an:=Blk.new W1 257 #[.int .i64 s,.int .i64 0];have gw:w.heap.size<W1.heap.size:=bp.lt;have af:=LH (bh.below a6);have bk:=LH (ch.maps_trans (Off.of_below a6));have br:=LH (bp.ext a6);clear c0 c1 f0 f1 l1 gb F gj gi a6 bp bh ch;generalize W1.alloc (.cells #[.int .i64 s,.int .i64 0] 257)=x at *;generalize W1.heap.size=I at *;have cf:=LH an;obtain⟨ts,ht⟩:=af.trees;have J:=ht.look s 0 be (by have:=bd.out;omega) AA;unfold kT at J;try simp only[Int.ofNat_zero,Int.natCast_zero] at J
 obtain⟨F,_,_,_,a7,_⟩:=af.cells;have y0:x.cell? ⟨I,0,none⟩=some (.int .i64 s):=an.cell 0;have y1:x.cell? ⟨I,1,none⟩=some (.int .i64 0):=an.cell 1;have yl:=an.lt;clear an ht;rcases J with ⟨bv,J,hv⟩ | J
 ·obtain⟨Av,nv,cv,dv,dc,dj⟩:=hv;have bc:=Yt x;refine Zs AB AB ?_;repeat (go_big_quiet_step (fail))
  refine BL ?_;rintro _⟨y,rfl⟩;have m:=Zr x y;have H:=br.ext m;have a4:=dc.ext m;have ag:=LH (Uw (S':=S) (af.below m) H (dj.below m) (bk.maps_trans (Off.of_below m)) (.inr rfl) b3 (AJ _) λq hq => .inl hq);have c0:(bl x y).cell? ⟨w,0,none⟩=some (.slice none 0 0):=H.cell 0;have c1:(bl x y).cell? ⟨w,1,none⟩=some (.bool false):=H.cell 1;have f0:=H.frozen 0;have f1:=H.frozen 1;have l5:=H.lt;have v0:(bl x y).cell? ⟨bv,0,none⟩=some (.slice Av nv cv):=a4.cell 0;have v1:(bl x y).cell? ⟨bv,1,none⟩=some (.bool dv):=a4.cell 1;have l6:=a4.lt;clear J dc dj bc m H a4 y0 y1 yl F a7;generalize bl x y=W3 at *;go_wp2_with fail;refine AW (AX (p:=6) AB _ _ w 154 #[.slice Av nv cv,.bool dv] (0,0) _ rfl ag.1 underlying154 rfl AB) rfl ?_;exact ag.2
 have bc:=Yt x;refine Zs AB AB ?_;repeat (go_big_quiet_step (fail))
 refine BL ?_;rintro _⟨y,rfl⟩;have m:=Zr x y;have bi:=LH (af.below m);have ci:=LH (bk.maps_trans (Off.of_below m));have cl:=LH (br.ext m);have cg:=LH (cf.ext m);clear J bc m F a7 y0 y1 yl af bk br cf;generalize bl x y=W3 at *;obtain⟨F,_,fs,_,_,_⟩:=bi.cells;have gs:=k3;go_wp2_with fail;go_loopw [49] (λi wr=>∃(q:Nat) (f:Option Addr) (ns cs:Nat) (g:Bool),q<=h.n3/\i = .int .i64 (q:Int)/\Hid (Yo W0 k h G (λb=>S b\/b=w.heap.size) wr)/\Hid (Off k.maps w wr)/\Hid (Blk wr w 154 #[.slice f ns cs,.bool g])/\Hid (Blk wr I 257 #[.int .i64 s,.int .i64 0])/\Hid (Z1 wr f ns cs g (Yc (Zv G) (G.rules.take q) j 0))) (λi _=>h.n3-(intOf i).toNat)
 case atStart=>exact⟨0,none,0,0,false,AS _,rfl,bi,ci,cl,cg,LH (Z1.zero _ _ _ AA)⟩
 clear bi ci cl cg F fs;obtain⟨q,f,ns,cs,g,hq,rfl,L,HO,P,O,HV⟩:=hrel;by_cases fm:q<h.n3
 case pos =>
  obtain⟨Y,au,r,Ar,cr,ff,ap,Hr,q0,q1,q2,fo⟩:=Hg.rules.get fm;have fj:=AN Hr;have am:=L.base;have fn:Y<wr.heap.size:=AK ap am.size;have p0:=(am.cell (p:=⟨Y,au+q*3,none⟩) ap).trans q0;have p1:=(am.cell (p:=⟨Y,au+q*3+1,none⟩) ap).trans q1;have p2:=(am.cell (p:=⟨Y,au+q*3+2,none⟩) ap).trans q2;have U:=Zy wr (.cells #[.int .i64 r.left,.slice Ar r.right.length cr,.int .i64 r.prec] 60);have b1:=Blk.new wr 60 #[.int .i64 r.left,.slice Ar r.right.length cr,.int .i64 r.prec];have N:=LH (L.below U);have bm:=LH (HO.maps_trans (Off.of_below U));have R:=LH (P.ext U);have bj:=LH (O.ext U);have ck:=LH (HV.below U);have V:=Cq (T:=Zv G) Hr j 0;have gx:=HP.fits.left r fj;rw[ff];go_upto_region 12 with fail;generalize wr.alloc (.cells #[.int .i64 r.left,.slice Ar r.right.length cr,.int .i64 r.prec] 60)=W4 at *;have r0:W4.cell? ⟨wr,0,none⟩=some (.int .i64 r.left):=b1.cell 0;have rl:=b1.lt;have gu:w.heap.size<wr.heap.size:=P.lt;clear U b1 am p0 p1 p2 q0 q1 q2 ap fn fo L HO P O HV;generalize wr.heap.size=gR at *;by_cases ao:r.left=(j:Int)
  case neg =>
   have fk:(r.left==(j:Int))=false:=by rw[AQ];exact ao
   rw[if_neg AA,DO] at V;have bw:=LH V;clear V ao;go_wp2_with fail;go_roundw
   case rel=>exact⟨q+1,f,ns,cs,g,AA,AF,N,bm,R,bj,by rw[bw];exact ck⟩
   simp[intOf] <;> omega
  have fg:(r.left==(j:Int))=true:=by rw[BW];exact ao
  rw[if_pos AA] at V;have HR:=LH (tr_rule (k:=k) HP Hg h2 h3 (i:=q) (s0:=s) (n0:=0) Hr (by rw[dh,ao];rfl) f4 AA (λq' m' fl gy=>by
   by_cases fa:0<=q'
   ·exact Di fa AA
   obtain⟨a1,a2⟩:=fl AA;exact f3 _ a2 m' q' (λ_=>⟨a1,rfl⟩) AA) _ 0 0 rfl (AS _) (AJ _) (λ_ p sx d=>absurd d (Nat.not_lt_zero p)))
  have bw:=LH V;clear V;go_upto_region 13 with fail;clear ao fg;refine Xh (λX=>MidC W0 k h G (λb=>S b\/b=w.heap.size) W4 X) (λX X'=>Zf X X') (λu=>(⟨(Value.pointer (some ⟨k.c,0,none⟩)::Value.int IntKind.i64 s::Value.int IntKind.i64 0::undef::undef::undef::Value.pointer (some ⟨w,0,none⟩)::Value.pointer (some ⟨I,0,none⟩)::Value.pointer none::Value.int IntKind.i64 (q:Int)::Value.pointer (some ⟨gR,0,none⟩)::Value.int IntKind.i64 s::Value.bool false::undef::undef::Value.int IntKind.i64 0::Value.bool true::Value.bool true::Value.pointer (some ⟨k.c,0,none⟩)::Value.pointer (some ⟨k.c,0,none⟩)::Value.pointer (some ⟨k.c,4,none⟩)::Value.slice (some ⟨k.n,0,none⟩) h.n2 h.n2::Value.int IntKind.i64 s::Value.int IntKind.i64 (j:Int)::Value.pointer (some ⟨k.n,j,none⟩)::Value.bool true::Value.bool false::Value.bool false::undef::Value.int IntKind.i64 s::Value.int IntKind.i64 0::Value.agg #[Value.int IntKind.i64 s,Value.int IntKind.i64 0]::Value.pointer (some ⟨k.c,0,none⟩)::Value.pointer (some ⟨k.c,0,none⟩)::Value.pointer (some ⟨k.c,5,none⟩)::Value.map (some k.t)::Value.agg #[Value.int IntKind.i64 s,Value.int IntKind.i64 0]::Value.pointer none::Value.pointer none::Value.bool false::undef::undef::undef::Value.pointer (some ⟨k.c,0,none⟩)::Value.pointer (some ⟨k.c,0,none⟩)::Value.pointer (some ⟨k.c,0,none⟩)::Value.pointer (some ⟨k.c,2,none⟩)::Value.slice (some ⟨Y,au,none⟩) h.n3 h.c3::Value.int IntKind.i64 (h.n3:Int)::Value.int IntKind.i64 (q:Int)::Value.bool true::Value.int IntKind.i64 (q:Int)::Value.pointer (some ⟨Y,au+q*3,none⟩)::Value.agg #[Value.int IntKind.i64 r.left,Value.slice Ar r.right.length cr,Value.int IntKind.i64 r.prec]::Value.pointer (some ⟨gR,0,none⟩)::Value.int IntKind.i64 (j:Int)::Value.int IntKind.i64 s::Value.int IntKind.i64 (j:Int)::Value.bool true::u 0::u 1::u 2::u 3::u 4::u 5::u 6::u66::undef::undef::undef::undef::undef::undef::[]).toArray,[]⟩:Act)) [u59,u60,u61,u62,u63,u64,u65] [λv X=>v=Value.agg #[Value.slice f ns cs,Value.bool g],λv X=>v=Value.pointer (some ⟨k.c,0,none⟩),λv X=>v=Value.int .i64 (q:Int),λv X=>v=Value.int .i64 0,λv X=>v=Value.agg #[Value.int .i64 (q:Int),Value.int .i64 0,Value.int .i64 0],λv X=>∃Aq nq cq bq,v=Value.agg #[Value.slice Aq nq cq,Value.bool bq]/\Z1 X Aq nq cq bq (Zx (Zv G) r.right 0),λv X=>∃Aq nq cq bq,v=Value.agg #[Value.slice Aq nq cq,Value.bool bq]/\Z1 X Aq nq cq bq (Yc (Zv G) (G.rules.take q) j 0+Zx (Zv G) r.right 0)] (λu X=>∃A9 n9 c9 d9,Yo W0 k h G (λb=>S b\/b=w.heap.size) X/\Off k.maps w X/\Blk X w 154 #[Value.slice A9 n9 c9,Value.bool d9]/\Blk X I 257 #[Value.int .i64 s,Value.int .i64 0]/\Z1 X A9 n9 c9 d9 (Yc (Zv G) (G.rules.take q) j 0+Zx (Zv G) r.right 0)) (l:=[_,_,_,_,_,_,_]) AB AB AB rfl rfl ⟨N.below (AL _ _).drew,Off.of_below (AL _ _).drew⟩ ⟨AI,AI,AI,AI,AI,(λ_ _ _ ⟨A,n,c,b,e,h⟩ D=>⟨A,n,c,b,e,h.kept D⟩),(λ_ _ _ ⟨A,n,c,b,e,h⟩ D=>⟨A,n,c,b,e,h.kept D⟩),trivial⟩ ?_ ?_ ?_
  ·refine Zk.con (λQ u X a d KK o=>?_) ?_
   ·have B:=a.2.blk R (N.not_map R);have d7:X.cell? ⟨w,0,none⟩=some (.slice f ns cs):=B.cell 0;have d8:X.cell? ⟨w,1,none⟩=some (.bool g):=B.cell 1;have fr:=B.lt;go_simp;exact o _ _ a ⟨AJ _,λ_ _ _=>rfl⟩ rfl
   iterate 3
    refine Zk.con (λQ u X a d KK o=>?_) ?_
    ·go_simp;exact o _ _ a ⟨AJ _,λ_ _ _=>rfl⟩ rfl
   refine Zk.con (λQ u X a d KK o=>?_) ?_
   ·have p2:u 2=_:=d 2 rfl;have p3:u 3=_:=d 3 rfl;clear d;rw[p2,p3] at o⊢;go_simp;exact o _ _ a ⟨AJ _,λ_ _ _=>rfl⟩ rfl
   refine Zk.con (λQ u X a d KK o=>?_) ?_
   ·have p1:u 1=_:=d 1 rfl;have p4:u 4=_:=d 4 rfl;clear d;generalize u 1=x1 at *;subst p1;generalize u 4=x4 at *;subst p4;have fe:∀b,(S b\/b=w.heap.size)->b<X.heap.size:=λb D=>by
     rcases D with D | rfl
     ·exact AK (HS b D) (BC bm.size a.2.size)
     exact AK R.lt a.2.size
    have CO:=HR (λb=>S b\/b=w.heap.size) X a.1 fe;unfold kF at CO;simp only[Int.ofNat_zero,Int.natCast_zero,Ed] at CO;go_simp;refine CO.mono ?_;rintro e w5⟨fc,db,A2,m2,c2,d2,rfl,b6⟩;go_simp;exact o _ _ (⟨fc,a.2.maps_trans db⟩) (a.1.keep db) ⟨A2,m2,c2,d2,rfl,b6⟩
   refine Zk.con (λQ u X a d KK o=>?_) ?_
   ·have p0:u 0=_:=d 0 rfl;obtain⟨A2,m2,c2,d2,p5,b6⟩:=d 5 rfl;clear d;rw[p0] at o⊢;generalize u 5=x5 at *;subst p5;have fq:=ck.kept (N.keep a.2);go_simp;refine (Zu2 f ns cs g _ A2 m2 c2 d2 _ X fq b6).mono ?_;rintro e w5⟨b0,A4,m4,c4,d4,rfl,b7⟩;go_simp;exact o _ _ (⟨a.1.below b0,a.2.maps_trans (Off.of_below b0)⟩) (Zf.of_below b0) ⟨A4,m4,c4,d4,rfl,b7⟩
   exact Zk.nil
  ·intro Q u X a d KK o;obtain⟨A4,m4,c4,d4,p6,b7⟩:=d 6 AC;clear d;generalize u 6=x6 at *;subst p6;have B:=a.2.blk R (N.not_map R);have d7:X.cell? ⟨w,0,none⟩=some (.slice f ns cs):=B.cell 0;have d8:X.cell? ⟨w,1,none⟩=some (.bool g):=B.cell 1;have fr:=B.lt;have gq:=B.frozen 0;have gr:=B.frozen 1;have da:=a.2.blk bj (N.not_map bj);have W:=a.1.store B (.inr rfl) b3 A4 m4 c4 d4;have d1:=LH (And.intro W.1 (And.intro ((bm.maps_trans a.2).maps_new W.2.1 (AJ _)) (And.intro W.2.2.2 (And.intro (W.2.1.blk da (λe=>AA)) (b7.kept W.2.2.1)))));clear W B da;go_simp;exact o (λi=>([u 0,u 1,u 2,u 3,u 4,u 5,Value.agg #[Value.slice A4 m4 c4,Value.bool d4]]:List Value).getD i undef) _ (⟨A4,m4,c4,d4,d1⟩)
  intro u W9 fh;obtain⟨A9,n9,c9,d9,g1,g2,g3,g5,g4⟩:=fh;have ds:=LH g1;have dw:=LH g2;have dz:=LH g3;have dt:=LH g5;rw[<-bw] at g4;have dy:=LH g4;clear g1 g2 g3 g4 g5;go_wp2_with fail;go_roundw
  case rel=>exact⟨q+1,A9,n9,c9,d9,AA,AF,ds,dw,dz,dt,dy⟩
  simp[intOf] <;> omega
 obtain rfl:q=h.n3:=AA
 have cm:Hid (Yc (Zv G) (G.rules.take h.n3) j 0=Zv G s 0):=LH (by rw[AR AA,Uu HP be bd,dh]);obtain⟨F,_,_,_,a7,_⟩:=L.cells;have xl:=P.lt;have y0:wr.cell? ⟨I,0,none⟩=some (.int .i64 s):=O.cell 0;have y1:wr.cell? ⟨I,1,none⟩=some (.int .i64 0):=O.cell 1;have yl:=O.lt;have gt:W0.heap.size<=w.heap.size:=b3;go_upto_region 15 with fail;have bc:=Yt wr;refine Yx 5 AB AB ?_;simp only[List.take_succ_cons,List.take_zero,List.drop_succ_cons,Ed];repeat (go_big_quiet_step (fail))
 refine BL ?_;rintro _⟨y,rfl⟩;have m:=Zr wr y;have aw:=LH ((L.below m).less (S':=S) λb D => .inl D);have du:=LH (HO.maps_trans (Off.of_below m));have bt:=LH (P.ext m);have bo:=LH (HV.below m);have fi:¬S w.heap.size:=λD=>Nat.lt_irrefl _ (HS _ D);clear m bc L HO P HV O y0 y1 yl F a7 xl;generalize bl wr y=W6 at *;obtain⟨g9,b5⟩:=aw.trees;have a5:U4 prog 257 (kT s 0):=Zww (by have:=bd.out;unfold Zp at this;omega) AA AA;unfold kT at a5;try simp only[Int.ofNat_zero,Int.natCast_zero] at a5
 have dd:=b5.few;have cj:=LH b5;have d3:=LH a5;have d0:=LH dd;clear b5 a5 dd;rw[cm] at bo;go_wp2_with (
  at_mapUpdate
  refine D7 _ rfl _ _ _ 208 rfl 258 k.t w Tryz.keyKT underlying208 cj.map d0 (.agg #[.int .i64 s,.int .i64 0]) d3 rfl rfl rfl ?_;intro Z dg df;obtain⟨c8,a3⟩:=aw.putT cj be (by have:=bd.out;omega) AA ⟨f,ns,cs,g,bt,bo⟩ fi dg df;have E:=a3.blk bt (aw.not_map bt);have V7:=bo.kept (aw.keep a3);have e1:=Kt (i:=0) (v := .slice f ns cs) E rfl;have cx:(Z.setCell ⟨w,0,none⟩ (.slice f ns cs)).setCell ⟨w,1,none⟩ (.bool g)=Z:=by rw[e1];exact Kt (i:=1) (v := .bool g) E rfl
  have ag:Hid (Blk ((Z.setCell ⟨w,0,none⟩ (.slice f ns cs)).setCell ⟨w,1,none⟩ (.bool g)) w 154 #[.slice f ns cs,.bool g]/\CRet W0 k h G S w (Zv G s 0) (.returned (.agg #[.slice f ns cs,.bool g])) ((Z.setCell ⟨w,0,none⟩ (.slice f ns cs)).setCell ⟨w,1,none⟩ (.bool g))):=LH (by rw[cx];exact⟨E,c8,du.maps_trans a3,f,ns,cs,g,rfl,V7⟩);have c0:Z.cell? ⟨w,0,none⟩=some (.slice f ns cs):=E.cell 0;have c1:Z.cell? ⟨w,1,none⟩=some (.bool g):=E.cell 1;have f0:=E.frozen 0;have f1:=E.frozen 1;have l5:=E.lt;clear c8 a3 E V7 dg df e1 cx)
 refine AW (AX (p:=6) AB _ _ w 154 #[.slice f ns cs,.bool g] (0,0) _ rfl ag.1 underlying154 rfl AB) rfl ?_;exact ag.2
theorem tr_forest{B:World}(J:Xq G)(hg:Yf B h G)(h2:h.n2<=100)(h3:h.n3<=100):∀(l:List Int) (Al:Option Addr) (a n:Nat),Za .i64 B Al l.length a l->(∀s∈l,-(h.n2:Int)<=s/\s<=1000)->l.length<=100->n<=100->ForC B k h G Al l.length a l n:=by
 have e2:G.nons.length=h.n2:=hg.nons.len;have U:(Zj G).length=h.n2:=by rw[Qe,Qq];exact e2
 have V:∀(s:Int) (i:Nat),(s<0->Zp s<G.nons.length)->i<=100->Zw5 B k h G s i:=λs i z hi=>tr_tree J hg h2 h3 _ i s (λh0=>⟨z h0,rfl⟩) hi;intro l
 induction l with
 | nil =>
   intro Al a n N z a1 hn S w C L;obtain⟨r,j,m,o⟩:=Cy w 155 30 154 #[.pointer (some ⟨k.c,0,none⟩)] #[.slice Al 0 a] #[.slice none 0 0,.bool false];have t:=C.more r (DF w 2);have u:Off k.maps w (((w.alloc (.cells #[.pointer (some ⟨k.c,0,none⟩)] 155)).alloc (.cells #[.slice Al 0 a] 30)).alloc (.cells #[.slice none 0 0,.bool false] 154)):=Off.of_below r;have ah:B.heap.size<=w.heap.size+2:=BC C.base.size (DF _ _);have HS:=LH L;have T:=LH N;have A:=LH z;have HT:=LH V;have HP:=LH J;have Z:=LH U;rw[DE] at *;go_enter func100,ntmps100;go_upto_region 1 with fail;generalize ((w.alloc (.cells #[.pointer (some ⟨k.c,0,none⟩)] 155)).alloc (.cells #[.slice Al 0 a] 30)).alloc (.cells #[.slice none 0 0,.bool false] 154)=g at *;have F:=LH t;have aa:=LH u;have X:=LH j;have Y:=LH m;have E:=LH o;have l2:=j.lt;have l3:=m.lt;have p0:g.cell? ⟨w,0,none⟩=some (.pointer (some ⟨k.c,0,none⟩)):=j.cell 0;have t0:g.cell? ⟨w+1,0,none⟩=some (.slice Al 0 a):=m.cell 0;have M:∀b,(S b\/b=w.heap.size+2)->b<g.heap.size:=λb x=>by
    rcases x with x | rfl
    ·exact AK (HS.out b x) u.size
    exact o.lt
   have f:=Zwe HP.out 160 #[.pointer (some ⟨w,0,none⟩),.pointer (some ⟨w+1,0,none⟩)] L8 Al a [] n g t M T.out Z.out A.out AA (by simp;try omega) hn
    (λs aj y i hi=>HT.out s i (λh0=>by have:=(A.out s (by rw[y];exact By ..)).1;unfold Zp;omega) AA)
    (λs aj y=>by cases y)
   rw[DE] at f;have f:=LH f;clear J N z L C t u j m o r M V U;go_wp2_with fail;(with_reducible refine f.out.mono ?_);rintro e R⟨I,v,W,n4,c4,d4,rfl,P⟩;have d:=v.blk E.out (F.out.not_map E.out);have H:=LH (Uw (S':=S) I d P (aa.out.maps_trans v) (.inr rfl) ah (DF _ _) λq O => .inl O);have c0:R.cell? ⟨w+2,0,none⟩=some (.slice none 0 0):=d.cell 0;have c1:R.cell? ⟨w+2,1,none⟩=some (.bool false):=d.cell 1;have f0:=d.frozen 0;have f1:=d.frozen 1;have l5:=d.lt;clear I v d P p0 t0 l2 l3;go_wp2_with fail;refine AW (AX (p:=6) AB _ _ (w.heap.size+2) 154 #[.slice W n4 c4,.bool d4] (0,0) _ rfl H.out.1 underlying154 rfl AB) rfl ?_;exact H.out.2
 | cons s0 D ih =>
   intro Al a n N z a1 hn S w C L;obtain⟨r,j,m,o⟩:=Cy w 155 30 154 #[.pointer (some ⟨k.c,0,none⟩)] #[.slice Al (D.length+1) a] #[.slice none 0 0,.bool false];have t:=C.more r (DF w 2);have u:Off k.maps w (((w.alloc (.cells #[.pointer (some ⟨k.c,0,none⟩)] 155)).alloc (.cells #[.slice Al (D.length+1) a] 30)).alloc (.cells #[.slice none 0 0,.bool false] 154)):=Off.of_below r;have ah:B.heap.size<=w.heap.size+2:=BC C.base.size (DF _ _);have HS:=LH L;have T:=LH N;have A:=LH z;have HT:=LH V;have HP:=LH J;have Z:=LH U;have au:=LH ih;rw[AY] at *;go_enter func100,ntmps100;go_upto_region 1 with fail;generalize ((w.alloc (.cells #[.pointer (some ⟨k.c,0,none⟩)] 155)).alloc (.cells #[.slice Al (D.length+1) a] 30)).alloc (.cells #[.slice none 0 0,.bool false] 154)=g at *;have F:=LH t;have aa:=LH u;have X:=LH j;have Y:=LH m;have E:=LH o;have l2:=j.lt;have l3:=m.lt;have p0:g.cell? ⟨w,0,none⟩=some (.pointer (some ⟨k.c,0,none⟩)):=j.cell 0;have t0:g.cell? ⟨w+1,0,none⟩=some (.slice Al (D.length+1) a):=m.cell 0;have M:∀b,(S b\/b=w.heap.size+2)->b<g.heap.size:=λb x=>by
    rcases x with x | rfl
    ·exact AK (HS.out b x) u.size
    exact o.lt
   have f:=Zwe HP.out 160 #[.pointer (some ⟨w,0,none⟩),.pointer (some ⟨w+1,0,none⟩)] L8 Al a (s0::D) n g t M T.out Z.out A.out AA (by simp;try omega) hn
    (λs aj y i hi=>HT.out s i (λh0=>by have:=(A.out s (by rw[y];exact By ..)).1;unfold Zp;omega) AA)
    (λs aj y i hi hx=>by
      injection y with he1 he2;subst he1;subst he2;intro S' w' C' a0 ao;obtain⟨At,aq,an⟩:=D6 T.out (i:=1) AA;rw[Nat.add_sub_cancel] at aq an;exact tr_forest1 s0 D Al a (n-i) _ _ w' C' a0 (ao.blk X.out (F.out.not_map X.out)) (ao.blk Y.out (F.out.not_map Y.out)) aq (au.out At (a-1) (n-i) an (λq O=>A.out q (BO _ O)) AA AA))
   rw[AY] at f;have f:=LH f;clear J N z L C t u j m o r M V U;go_wp2_with fail;(with_reducible refine f.out.mono ?_);rintro e R⟨I,v,W,n4,c4,d4,rfl,P⟩;have d:=v.blk E.out (F.out.not_map E.out);have H:=LH (Uw (S':=S) I d P (aa.out.maps_trans v) (.inr rfl) ah (DF _ _) λq O => .inl O);have c0:R.cell? ⟨w+2,0,none⟩=some (.slice none 0 0):=d.cell 0;have c1:R.cell? ⟨w+2,1,none⟩=some (.bool false):=d.cell 1;have f0:=d.frozen 0;have f1:=d.frozen 1;have l5:=d.lt;clear I v d P p0 t0 l2 l3;go_wp2_with fail;refine AW (AX (p:=6) AB _ _ (w.heap.size+2) 154 #[.slice W n4 c4,.bool d4] (0,0) _ rfl H.out.1 underlying154 rfl AB) rfl ?_;exact H.out.2
theorem tr_Steps(h:GH)(G:Gr)(w:World)(hg:Yf w h G)(hs:∀t∈G.terms,t.name.size<=maxLen)(h1:h.n1<=100)(h2:h.n2<=100)(h3:h.n3<=100):
 Calls prog 155 #[GV h G.start] w λe w'=>Below w w w' /\
  ((G.right=false/\e = .returned (.slice none 0 0))\/(G.right=true/\∃g,w.heap.size<=g/\e = .returned (.slice (some ⟨g,0,none⟩) h.n2 h.n2)/\V0 w' g (Yz G))):=by
 obtain⟨a1,n1,c1,a2,n2,c2,a3,n3,c3⟩:=h;have e2:G.nons.length=n2:=hg.nons.len;have e3:G.rules.length=n3:=hg.rules.len;have k3:=hg.rules.cap;have k2:=hg.nons.cap;simp only[] at h1 h2 h3 k3 k2;have Hg:=LH hg;have Hs:=LH hs;have cm:=Zy w (.cells #[.slice a1 n1 c1,.slice a2 n2 c2,.slice a3 n3 c3,.int .i64 G.start] 26);have ct:=Y1.new w 26 ⟨a1,n1,c1,a2,n2,c2,a3,n3,c3⟩ G.start;have gf:=Zvx n2 AA;clear hg hs;go_enter func155,ntmps155;have⟨z5,z0,z1,z2,z3⟩:=ct;simp only[] at z0 z1 z2 z3;go_wp2_with fail;generalize w.alloc (.cells #[.slice a1 n1 c1,.slice a2 n2 c2,.slice a3 n3 c3,.int .i64 G.start] 26)=W0 at *;(with_reducible refine (J4 ⟨a1,n1,c1,a2,n2,c2,a3,n3,c3⟩ G W0 (Hg.out.below cm) Hs.out (by simp only[];omega) (by simp only[];omega)).mono ?_);rintro e W⟨rfl,cq⟩;have a4:=Zz cm cq;have cu:=ct.below cq;clear z0 z1 z2 z3 z5 ct;have⟨y5,y0,y1,y2,y3⟩:=cu;simp only[] at y0 y1 y2 y3;rcases bs:G.right with _ | _
 ·go_wp2_with fail;go_ret;exact⟨a4,.inl ⟨bs,rfl⟩⟩
 have du:=Gr.fits bs;have cg:=LH bs;have ca:=LH du;have CN:=LH λX (L:Below W W X)=>(Zzh ⟨a1,n1,c1,a2,n2,c2,a3,n3,c3⟩ G X ((Hg.out.below a4).below L) Hs.out (by simp only[];omega) (by simp only[];omega) (by simp only[];omega)).mono λe w' c=>And.intro (Zz L c.1) (And.intro (LH c.1) (c.2.resolve_left λhc=>by rw[cg.out] at hc;cases hc.1).2);have CP:=LH λX (L:Below W W X)=>(N4 ⟨a1,n1,c1,a2,n2,c2,a3,n3,c3⟩ G X ((Hg.out.below a4).below L) Hs.out (by simp only[];omega) (by simp only[];omega) (by simp only[];omega)).mono λe w' c=>And.intro (Zz L c.1) (And.intro (LH c.1) (c.2.resolve_left λhc=>by rw[cg.out] at hc;cases hc.1).2);have HS:Hid (∀W',Below W W W'->W'.cell? ⟨w,0,none⟩=some (.slice a1 n1 c1)/\W'.cell? ⟨w,1,none⟩=some (.slice a2 n2 c2)/\W'.cell? ⟨w,2,none⟩=some (.slice a3 n3 c3)/\W'.cell? ⟨w,3,none⟩=some (.int .i64 G.start)/\Below W W W'):=LH λW' L=>⟨by rw[L.cell (by exact y5)];exact y0,by rw[L.cell (by exact y5)];exact y1,by rw[L.cell (by exact y5)];exact y2,by rw[L.cell (by exact y5)];exact y3,L⟩;have fa:=LH a4;have fk:=LH cu;clear bs du a4 cu cm cq;go_upto_region 3 with fail;refine Dq (λlisted a X=>∃b0 u F y A B H:Bool,∃u3 u4 u14 u15 u16 u17:Value,listed=#[b0,u,F,y,A,B,H]/\a=(⟨(GV ⟨a1,n1,c1,a2,n2,c2,a3,n3,c3⟩ G.start::Value.pointer (some ⟨w,0,none⟩)::Value.slice none 0 0::u3::u4::undef::undef::undef::undef::undef::undef::Value.agg #[Value.slice a1 n1 c1,Value.slice a2 n2 c2,Value.slice a3 n3 c3,Value.int .i64 G.start]::Value.bool true::Value.bool false::u14::u15::u16::u17::undef::undef::undef::undef::undef::undef::undef::undef::undef::undef::undef::undef::undef::undef::undef::undef::undef::undef::undef::undef::undef::undef::undef::undef::undef::undef::undef::undef::undef::undef::undef::undef::undef::undef::undef::undef::undef::undef::undef::undef::undef::undef::undef::undef::undef::undef::undef::undef::undef::undef::undef::undef::undef::undef::undef::undef::undef::undef::undef::undef::undef::undef::[]).toArray,[]⟩:Act)/\Below W W X /\
  (b0=true->u14=Value.agg #[Value.slice a1 n1 c1,Value.slice a2 n2 c2,Value.slice a3 n3 c3,Value.int .i64 G.start])/\(F=true->u16=Value.agg #[Value.slice a1 n1 c1,Value.slice a2 n2 c2,Value.slice a3 n3 c3,Value.int .i64 G.start]) /\
  (u=true->∃C,W.heap.size<=C/\u15=Value.slice (some ⟨C,0,none⟩) n2 n2/\Z8 X C (Zj G)) /\
  (y=true->∃I,W.heap.size<=I/\u17=Value.slice (some ⟨I,0,none⟩) n2 n2/\Z8 X I (Zt G)) /\
  (A=true->∃q v,W.heap.size<=q/\u3=Value.pointer (some ⟨q,0,none⟩)/\Blk X q 103 #[v]/\(B=true->v=u15))/\(B=true->u=true/\A=true)/\(H=true->u4=u17/\y=true)) AB AB ?_ ?_ ?_
 ·exact⟨false,false,false,false,false,false,false,undef,undef,undef,undef,undef,undef,rfl,rfl,(AL _ _).drew,nofun,nofun,nofun,nofun,nofun,nofun,nofun⟩
 ·refine Xw.cons (λlisted a X Y M E K Z=>?_) ?_
  ·obtain⟨b0,u,F,y,A,B,H,u3,u4,u14,u15,u16,u17,rfl,rfl,D,N,P,O,R,S,U,T⟩:=Y;obtain⟨q0,q1,q2,q3,_⟩:=HS.out X D;clear M E;go_simp;exact Z _ _ ⟨true,u,F,y,A,B,H,u3,u4,_,u15,u16,u17,rfl,rfl,D,λ_=>rfl,P,O,R,S,U,T⟩
  refine Xw.cons (λlisted a X Y M E K Z=>?_) ?_
  ·obtain⟨b0,u,F,y,A,B,H,u3,u4,u14,u15,u16,u17,rfl,rfl,D,N,P,O,R,S,U,T⟩:=Y;have p0:b0=true:=E ⟨0,.data⟩ AE rfl;obtain rfl:=N p0;have n1:u=false:=M;have n5:B=true->False:=λh=>by have:=(U h).1;rw[n1] at this;cases this
   clear M E;go_simp;(with_reducible refine (CN.out _ D).mono ?_);rintro e w2⟨cn,a0,C,ar,rfl,an⟩;go_simp;exact Z _ _ ⟨b0,true,F,y,A,B,H,u3,u4,_,_,u16,u17,rfl,rfl,cn,λ_=>rfl,P,λ_=>⟨C,BC D.size ar,rfl,an⟩,λh=>(R h).imp λI c=>⟨c.1,c.2.1,Blk.ext c.2.2 a0.out⟩,λh=>(S h).imp λq c=>c.imp λv hv=>⟨hv.1,hv.2.1,Blk.ext hv.2.2.1 a0.out,λh5=>absurd h5 n5⟩,λh=>absurd h n5,T⟩
  refine Xw.cons (λlisted a X Y M E K Z=>?_) ?_
  ·obtain⟨b0,u,F,y,A,B,H,u3,u4,u14,u15,u16,u17,rfl,rfl,D,N,P,O,R,S,U,T⟩:=Y;obtain⟨q0,q1,q2,q3,_⟩:=HS.out X D;clear M E;go_simp;exact Z _ _ ⟨b0,u,true,y,A,B,H,u3,u4,u14,u15,_,u17,rfl,rfl,D,N,λ_=>rfl,O,R,S,U,T⟩
  refine Xw.cons (λlisted a X Y M E K Z=>?_) ?_
  ·obtain⟨b0,u,F,y,A,B,H,u3,u4,u14,u15,u16,u17,rfl,rfl,D,N,P,O,R,S,U,T⟩:=Y;have p2:F=true:=E ⟨2,.data⟩ AE rfl;obtain rfl:=P p2;have gq:y=false:=M;have n6:H=true->False:=λh=>by have:=(T h).2;rw[gq] at this;cases this
   clear M E;go_simp;(with_reducible refine (CP.out _ D).mono ?_);rintro e w2⟨cn,a0,I,a6,rfl,ax⟩;go_simp;exact Z _ _ ⟨b0,u,F,true,A,B,H,u3,u4,u14,u15,_,_,rfl,rfl,cn,N,λ_=>rfl,λh=>(O h).imp λC c=>⟨c.1,c.2.1,Blk.ext c.2.2 a0.out⟩,λ_=>⟨I,BC D.size a6,rfl,ax⟩,λh=>(S h).imp λq c=>c.imp λv hv=>⟨hv.1,hv.2.1,Blk.ext hv.2.2.1 a0.out,hv.2.2.2⟩,U,λh=>absurd h n6⟩
  refine Xw.cons (λlisted a X Y M E K Z=>?_) ?_
  ·obtain⟨b0,u,F,y,A,B,H,u3,u4,u14,u15,u16,u17,rfl,rfl,D,N,P,O,R,S,U,T⟩:=Y;have n4:A=false:=M;have n5:B=true->False:=λh=>by have:=(U h).2;rw[n4] at this;cases this
   clear M E;go_simp;exact Z _ _ ⟨b0,u,F,y,true,B,H,_,u4,u14,u15,u16,u17,rfl,rfl,Zo D _,N,P,λh=>(O h).imp λC c=>⟨c.1,c.2.1,Blk.ext c.2.2 (Zy _ _)⟩,λh=>(R h).imp λI c=>⟨c.1,c.2.1,Blk.ext c.2.2 (Zy _ _)⟩,λ_=>⟨_,_,D.size,rfl,Blk.new _ _ _,λh5=>absurd h5 n5⟩,λh=>absurd h n5,T⟩
  refine Xw.cons (λlisted a X Y M E K Z=>?_) ?_
  ·obtain⟨b0,u,F,y,A,B,H,u3,u4,u14,u15,u16,u17,rfl,rfl,D,N,P,O,R,S,U,T⟩:=Y;have p1:u=true:=E ⟨1,.data⟩ AE rfl;have p4:A=true:=E ⟨4,.data⟩ AE rfl;obtain⟨C,ar,rfl,an⟩:=O p1;obtain⟨q,v,br,rfl,HK,_⟩:=S p4;have cy:C≠q:=by
    rintro rfl;have h4:=an.symm.trans HK;simp at h4
   have gg:∀I,Z8 X I (Zt G)->I≠q:=by
    rintro I ax rfl;have h4:=ax.symm.trans HK;simp at h4
   have he:X.cell? ⟨q,0,none⟩=some v:=HK.cell 0;have bo:=HK.frozen 0;have hq:=HK.lt;clear M E;go_simp;exact Z _ _ ⟨b0,u,F,y,A,true,H,_,u4,u14,_,u16,u17,rfl,rfl,Zg D q 0 _ br,N,P,λ_=>⟨C,ar,rfl,Blk.other an q 0 _ cy⟩,λh=>(R h).imp λI c=>⟨c.1,c.2.1,Blk.other c.2.2 q 0 _ (gg I c.2.2)⟩,λ_=>⟨q,_,br,rfl,Blk.set HK 0 _,λ_=>rfl⟩,λ_=>⟨p1,p4⟩,T⟩
  refine Xw.cons (λlisted a X Y M E K Z=>?_) ?_
  ·obtain⟨b0,u,F,y,A,B,H,u3,u4,u14,u15,u16,u17,rfl,rfl,D,N,P,O,R,S,U,T⟩:=Y;have p3:y=true:=E ⟨3,.data⟩ AE rfl;clear M E;go_simp;exact Z _ _ ⟨b0,u,F,y,A,B,true,u3,_,u14,u15,u16,u17,rfl,rfl,D,N,P,O,R,S,U,λ_=>⟨rfl,p3⟩⟩
  exact Xw.nil
 rintro listed a w3⟨b0,u,F,y,A,B,H,u3,u4,u14,u15,u16,u17,rfl,rfl,co,N,P,O,R,S,U,T⟩ aj;obtain⟨C,ar,rfl,an⟩:=O (aj 1 AC);obtain⟨I,a6,rfl,ax⟩:=R (aj 3 AC);obtain⟨q,v,br,rfl,de,hv⟩:=S (aj 4 AC);obtain rfl:=hv (aj 5 AC);obtain⟨rfl,_⟩:=T (aj 6 AC);obtain rfl:=N (aj 0 AC);obtain rfl:=P (aj 2 AC);have db:Hid (Z8 w3 C (Zj G)):=an;have dc:Hid (Z8 w3 I (Zt G)):=ax;have da:Hid (Blk w3 q 103 #[Value.slice (some ⟨C,0,none⟩) n2 n2]):=de;have am:=LH (Zz fa.out co);have b9:=LH (fk.out.below co);clear N P O R S U T aj ar a6 br an ax de hv co CN CP HS y0 y1 y2 y3 y5;have⟨y5,y0,y1,y2,y3⟩:=b9.out;simp only[] at y0 y1 y2 y3;go_upto_region 5 with fail;have dl:=V0.new w3 (List.replicate n2 0);have cp:=Zy w3 (.cells (nums .u32 (List.replicate n2 0)).toArray 41);generalize w3.alloc (.cells (nums .u32 (List.replicate n2 0)).toArray 41)=W4 at *;generalize dv:w3.heap.size=f at *;have ah:=LH dv;have fi:=LH dl;have fb:=LH cp;have dr:=b9.out.below (by rw[ah.out];exact cp);clear dv dl cp y0 y1 y2 y3 y5 gf;have⟨y5,y0,y1,y2,y3⟩:=dr;simp only[] at y0 y1 y2 y3;clear dr;go_wp2_with fail;clear y0 y1 y2 y3 y5;go_loopw [25] (λi wr=>∃j:Nat,j<=n3/\i = .int .i64 (j:Int)/\Hid (Below f w3 wr)/\Hid (V0 wr f (Wo (Zj G) (Zt G) (G.rules.take j) (List.replicate n2 0)))) (λi _=>n3-(intOf i).toNat)
 case atStart=>exact⟨0,AS _,rfl,fb,LH (by simpa [Wo] using fi.out)⟩
 obtain⟨j,hj,rfl,HB,V⟩:=hrel;have cv:w3.heap.size=f:=ah.out;have be:=LH (am.out.trans (HB.out.mono (by rw[<-cv];exact am.out.size)));have fw:=b9.out.below (by rw[cv];exact HB.out);clear cv fw;by_cases f8:j<n3
 case neg =>
  obtain rfl:j=n3:=AA
  have Hf:Hid (V0 wr f (Yz G)):=LH (by have:=V.out;rw[AR AA] at this;unfold Yz;rw[e2];exact this);go_wp2_with fail;go_ret;exact⟨be.out,.inr ⟨cg.out,f,by rw[<-ah.out];exact am.out.size,rfl,Hf.out⟩⟩
 obtain⟨bb,hy,r,Ar,cr,rfl,dn,Hr,q0,q1,q2,d0⟩:=Hg.out.rules.get f8;rw[<-be.out.cell (by exact dn)] at q0 q1 q2;have L:bb<wr.heap.size:=AK dn be.out.size;have cf:=LH d0;have bp:=AN Hr.out;have fo:Hid (Wo (Zj G) (Zt G) (G.rules.take (j+1)) (List.replicate n2 0)=Y2 (Zj G) (Zt G) r r.right.length (Wo (Zj G) (Zt G) (G.rules.take j) (List.replicate n2 0))):=LH (by rw[Ya Hr.out,Zz0]);have ds:(Wo (Zj G) (Zt G) (G.rules.take j) (List.replicate n2 0)).length=n2:=by rw[De];simp
 have dt:=Lm (Zj G) (Zt G) (G.rules.take j) (We.zero n2);generalize Wo (Zj G) (Zt G) (G.rules.take j) (List.replicate n2 0)=l at *;obtain⟨l1,l2⟩:=ca.out.left r bp;obtain⟨d,dx⟩:∃d:Nat,r.left=(d:Int):=⟨r.left.toNat,AA⟩;have f9:d<n2:=AA
 have fn:Hid (r.left.toNat=d):=LH AA;have hp:=ca.out.len r bp;have c5:=ca.out.symB bp;rw[e2] at c5;rw[dx] at q0;have dh:=LH c5;have fl:=LH ds;have fm:=LH dt;have cs:=Zy wr (.cells #[.int .i64 (d:Int),.slice Ar r.right.length cr,.int .i64 r.prec] 60);have dk:=Blk.new wr 60 #[.int .i64 (d:Int),.slice Ar r.right.length cr,.int .i64 r.prec];have au:f<wr.heap.size:=V.out.lt;clear d0 c5 ds dt l1 l2 dx bp;go_upto_region 8 with fail;have dd:Hid (V0 (wr.alloc (.cells #[.int .i64 (d:Int),.slice Ar r.right.length cr,.int .i64 r.prec] 60)) f l):=Blk.ext V.out cs;have bd:=LH (HB.out.trans (cs.mono (DT au)));have bg:=LH dk;have hl:f<wr.heap.size:=au;generalize wr.alloc (.cells #[.int .i64 (d:Int),.slice Ar r.right.length cr,.int .i64 r.prec] 60)=WA at *;generalize wr.heap.size=gR at *;clear cs dk q0 q1 q2 V HB be L;have gd:f<WA.heap.size:=dd.out.lt;have fu:=bg.out.lt;have r0:WA.cell? ⟨gR,0,none⟩=some (.int .i64 (d:Int)):=bg.out.cell 0;have r1:WA.cell? ⟨gR,1,none⟩=some (.slice Ar r.right.length cr):=bg.out.cell 1;have fc:=LH (am.out.trans (bd.out.mono (by rw[<-ah.out];exact am.out.size)));have ar:C<f:=by have:=db.out.lt;rw[ah.out] at this;exact this
 have a6:I<f:=by have:=dc.out.lt;rw[ah.out] at this;exact this
 have f7:q<f:=by have:=da.out.lt;rw[ah.out] at this;exact this
 have CC:=LH (Zxu Ar r.right.length cr r.right WA (cf.out.below fc.out) AA);have ff:Hid ((Zj G).length=n2):=LH (by rw[Qe,Qq];exact e2);have CD:=LH λX v' (hB:Below WA WA X) (bq:X.ownsRow WA 3 1 v' r.right.length (ints .i64 r.right))=>(tr_Del WA q C n2 r.right.length (Zj G) r.right v' X bq
  ⟨by rw[(hB.cell (p:=⟨q,0,none⟩) (by show q<_;omega)).trans ((bd.out.cell (p:=⟨q,0,none⟩) f7))];exact da.out.cell 0,λi hi=>by rw[(hB.cell (p:=⟨C,i,none⟩) (by show C<_;omega)).trans ((bd.out.cell (p:=⟨C,i,none⟩) ar))];exact db.out.at (by rw[ff.out];exact hi)⟩ AA AA hB.size AA dh.out).mono λe w' c=>And.intro c.1 (hB.trans c.2)
 go_wp2_with (first
  | (go_at_call 92;(with_reducible refine CC.out.mono ?_);rintro e wc⟨v',rfl,bq,di⟩)
  | (go_at_call 198;(with_reducible refine (CD.out _ _ di bq).mono ?_);rintro e wd⟨⟨Ab,cb,rfl,dp⟩,a5⟩;have gy:=(a5.cell (p:=⟨gR,1,none⟩) fu).trans r1))
 have fd:=LH (bd.out.trans (a5.mono (DT gd)));have fh:=LH (Blk.ext bg.out a5);have b7:Hid (V0 wd f l):=Blk.ext dd.out a5;have b8:=LH dp;have ge:f<wd.heap.size:=b7.out.lt;have hd:=cf.out.cap;clear bq di a5 dp gy r0 r1 CC CD;go_loopw [37] (λi wz=>∃kk:Nat,kk<=r.right.length/\i = .int .i64 (kk:Int)/\Hid (V0 wz f (Y2 (Zj G) (Zt G) r kk l))/\Hid (wd.grownBy wz (some f))) (λi _=>r.right.length-(intOf i).toNat)
 case atStart=>exact⟨0,AS _,rfl,b7,LH (Jl _ _)⟩
 obtain⟨kk,ho,rfl,V,ad⟩:=hrel;have fv:gR≠f:=AA
 have bn:=fh.out.grown ad.out (by intro e;injection e with e;exact fv e);have r0:wr.cell? ⟨gR,0,none⟩=some (.int .i64 (d:Int)):=bn.cell 0;have g9:gR<wr.heap.size:=bn.lt;have bx:=LH (fd.out.trans (Zn ad.out (DT ge) (AJ _)));have fe:=LH (am.out.trans (bx.out.mono (by rw[<-ah.out];exact am.out.size)));have al:(Y2 (Zj G) (Zt G) r kk l).length=n2:=by rw[Kb];exact fl.out
 have af:=N1 (Zj G) (Zt G) r fm.out kk;have fp:=LH (cf.out.below fe.out);have au:f<wr.heap.size:=V.out.lt;by_cases gc:kk<r.right.length
 case neg =>
  obtain rfl:kk=r.right.length:=AA
  clear al af bn;go_wp2_with fail;go_roundw
  case rel=>exact⟨j+1,AA,AF,bx,LH (by rw[fo.out];exact V.out)⟩
  simp[intOf];omega
 obtain⟨sb,so,s,rfl,hr,Hs,qs⟩:=fp.out.get gc;have gj:=dh.out s (AN Hs.out);have dz:=Uk (Zj G) (Zt G) r kk l;have dw:Um (Zj G) (Zt G) r kk (Y2 (Zj G) (Zt G) r kk l)=if Xk (Zj G) (Zt G) r.right kk s then addAt d (Y6 (-1-s)) (Y2 (Zj G) (Zt G) r kk l) else Y2 (Zj G) (Zt G) r kk l:=by unfold Um;rw[Hs.out];simp only[fn.out]
 have cd:=LH (dz.trans dw);have dm:=V.out.at (i:=d) (by rw[al];exact f9);have dj:Z8 wr I (Zt G):=Blk.below dc.out bx.out a6;have fg:Hid ((Zt G).length=n2):=LH (by rw[Vx];exact e2);have c4:=(stands_eq (null_prod G) Hs.out).symm;unfold Zyn at c4;have dq:∀k,k<(Vo (Zj G) r.right).length->∃b o x,Ab=some ⟨b,o,none⟩/\b<wr.heap.size/\Hid ((Vo (Zj G) r.right)[k]? = some x)/\wr.cell? ⟨b,o+k,none⟩=some (.int .i64 x):=λk hk=>by
  obtain⟨b,o,x,e,L,Hx,hc⟩:=b8.out.get hk;have cy:b≠f:=by
   rintro rfl;have h2:=b7.out.cell (o+k);rw[hc] at h2;have h3:((nums .u32 l).toArray)[o+k]? = some (Value.int .i64 x):=h2.symm;simp[nums] at h3
  exact⟨b,o,x,e,AK L ad.out.size,Hx,(Zrj ad.out L cy).trans hc⟩
 have ha:=b8.out.cap;have aa:=LH c4;have fj:=LH dq;clear dz dw c4 bn dq b8;generalize Vo (Zj G) r.right=lb at *;have bi:Hid (Xk (Zj G) (Zt G) r.right kk s=false->Hid (V0 wr f (Y2 (Zj G) (Zt G) r (kk+1) l))):=LH λhf=>LH (by rw[cd.out,hf];exact V.out);by_cases h0:0<=s
 ·have Hf:=bi.out (by rw[aa.out,show decide (s<0)=false by rw[AZ];omega];rfl);clear al af;go_wp2_with fail;go_roundw
  case rel=>exact⟨kk+1,AA,AF,Hf,ad⟩
  simp[intOf];omega
 have gh:decide (s<0)=true:=by rw[BA];omega
 obtain⟨J,ga,dy,hw⟩:=Vy (s:=s) (n:=n2) AA gj.1 AA;have c0:=Z8.at dj (i:=J) (by rw[fg.out];exact ga);have cc:=LH dy;have dg:Hid (Xk (Zj G) (Zt G) r.right kk s=((true&&(Zt G).getD J false)&&(decide (lb.length=0) || (decide (lb.length=1)&&decide (lb[0]? = some s))))):=LH (by rw[aa.out,gh,cc.out]);clear dy dj aa;have aa:=dg;clear dg;generalize (Zt G).getD J false=pv at *;rcases pv with _ | _
 ·have Hf:=bi.out (by rw[aa.out];rfl);clear al af;go_wp2_with fail;go_roundw
  case rel=>exact⟨kk+1,AA,AF,Hf,ad⟩
  simp[intOf];omega
 rcases (AA:lb.length=0\/lb.length=1\/2<=lb.length) with hm | hm | hm
 ·have Hm:=LH hm;rw[hm] at aa;generalize lb.length=m at *;subst hm;have a7:Xk (Zj G) (Zt G) r.right kk s=true:=by rw[aa.out];rfl
  have ao:Hid (Y2 (Zj G) (Zt G) r (kk+1) l=addAt d (Y6 (-1-s)) (Y2 (Zj G) (Zt G) r kk l)):=LH (by rw[cd.out,a7];rfl);have cz:-1-s=(J:Int):=by have:=cc.out;unfold Zp at this;omega
  rw[cz] at ao;have cx:=af.get d;have cw:=Ua (J:Int);have gi:=or32 ((Y2 (Zj G) (Zt G) r kk l).getD d 0) (Y6 (J:Int)) cx cw;have ce:=LH λx:Ext wr=>V0.put (Blk.ext V.out (Zr wr x):V0 (bl wr x) f (Y2 (Zj G) (Zt G) r kk l)) d ((Y2 (Zj G) (Zt G) r kk l).getD d 0 ||| Y6 (J:Int));have bo:=Blk.frozen V.out d;have CB:=LH λx:Ext wr=>tr_one (J:Int) (bl wr x);unfold addAt at ao;generalize (Y2 (Zj G) (Zt G) r kk l).getD d 0 ||| Y6 (J:Int)=z at *
  generalize (Y2 (Zj G) (Zt G) r kk l).getD d 0=gt at *;generalize Y6 (J:Int)=bv at *;have bc:=Yt wr;have bf:=Kh wr;clear a7 al af;go_upto_region 13 with fail;refine Yx 10 AB AB ?_;simp only[List.take_succ_cons,List.take_zero,List.drop_succ_cons,Ed];repeat (go_big_quiet_step ((go_at_call 157;with_reducible exact Ve (CB.out _))))
  refine BL ?_;rintro _⟨x,rfl⟩;have fx:=(bc x f d au).trans dm;have fz:=(bf x f d au).trans bo;have gk:=Lb wr x;go_wp2_with fail;go_roundw
  case rel=>exact⟨kk+1,AA,AF,LH (by rw[ao.out];exact ce.out x),LH (Zc (Zc ad.out (Xz _ (Zr wr x))) (Zd _ _ _ _))⟩
  simp[intOf];omega
 ·obtain⟨xb,xo,x,rfl,hx,Hx,qx⟩:=fj.out 0 AA;have fq:Hid (decide (lb[0]? = some s)=decide (x=s)):=LH (by rw[Hx.out];simp);rw[hm,fq.out] at aa;have hu:wr.cell? ⟨xb,xo,none⟩=some (.int .i64 x):=qx;generalize lb.length=m at *;subst hm;clear qx;by_cases d2:x=s
  ·subst d2;have a7:Xk (Zj G) (Zt G) r.right kk x=true:=by rw[aa.out];simp
   have ao:Hid (Y2 (Zj G) (Zt G) r (kk+1) l=addAt d (Y6 (-1-x)) (Y2 (Zj G) (Zt G) r kk l)):=LH (by rw[cd.out,a7];rfl);have cz:-1-x=(J:Int):=by have:=cc.out;unfold Zp at this;omega
   rw[cz] at ao;have cx:=af.get d;have cw:=Ua (J:Int);have gi:=or32 ((Y2 (Zj G) (Zt G) r kk l).getD d 0) (Y6 (J:Int)) cx cw;have ce:=LH λx:Ext wr=>V0.put (Blk.ext V.out (Zr wr x):V0 (bl wr x) f (Y2 (Zj G) (Zt G) r kk l)) d ((Y2 (Zj G) (Zt G) r kk l).getD d 0 ||| Y6 (J:Int));have bo:=Blk.frozen V.out d;have CB:=LH λx:Ext wr=>tr_one (J:Int) (bl wr x);unfold addAt at ao;generalize (Y2 (Zj G) (Zt G) r kk l).getD d 0 ||| Y6 (J:Int)=z at *
   generalize (Y2 (Zj G) (Zt G) r kk l).getD d 0=gt at *;generalize Y6 (J:Int)=bv at *;have bc:=Yt wr;have bf:=Kh wr;clear a7 al af;go_upto_region 13 with fail;refine Yx 10 AB AB ?_;simp only[List.take_succ_cons,List.take_zero,List.drop_succ_cons,Ed];repeat (go_big_quiet_step ((go_at_call 157;with_reducible exact Ve (CB.out _))))
   refine BL ?_;rintro _⟨x,rfl⟩;have fx:=(bc x f d au).trans dm;have fz:=(bf x f d au).trans bo;have gk:=Lb wr x;go_wp2_with fail;go_roundw
   case rel=>exact⟨kk+1,AA,AF,LH (by rw[ao.out];exact ce.out x),LH (Zc (Zc ad.out (Xz _ (Zr wr x))) (Zd _ _ _ _))⟩
   simp[intOf];omega
  have Hf:=bi.out (by rw[aa.out,show decide (x=s)=false by rw[AZ];exact d2];rfl);clear al af;go_wp2_with fail;go_roundw
  case rel=>exact⟨kk+1,AA,AF,Hf,ad⟩
  simp[intOf];omega
 have Hf:=bi.out (by rw[aa.out,show decide (lb.length=0)=false by rw[AZ];omega,show decide (lb.length=1)=false by rw[AZ];omega];rfl);have g0:¬((lb.length:Int)=0):=AA
 have g1:¬((lb.length:Int)=1):=AA
 generalize lb.length=m at *;clear al af;go_wp2_with fail;go_roundw
 case rel=>exact⟨kk+1,AA,AF,Hf,ad⟩
 simp[intOf];omega
section
open Go.Maps (Keyed IsMap Tidy)
theorem NumM.look{b:List Nat}{i:Nat}(h:NumM w g b)(f:b.Nodup)(hi:i∈b)(d:i<=1000):(Instr.lookup 147 (.map (some g)) (.int .i64 (i:Int)) false).run prog w = .ok (.int .i64 (toI b i)) w:=by
 obtain⟨c,j,a,_⟩:=World.ownsMap.lookup_int h keyInt underlying147 underlying3 (zeroInt w) (key_num i d);rw[at_numD _ i b f hi] at a;injection a with a;injection a with _ a;rw[j,a]
end
section
open Ieee
open Go.Maps (Keyed IsMap Tidy)
theorem Gk.look(h:Gk w g G S ts)(a:J1 l n):
 (∃b,(∀x:Ext w,(Instr.lookup 162 (.map (some g)) (kB l n) false).run prog (bl w x) = .ok (.pointer (some ⟨b,0,none⟩)) (bl w x))/\Fx w b (Zx (Zv G) l n)/\¬S b) \/
 (∀x:Ext w,(Instr.lookup 162 (.map (some g)) (kB l n) false).run prog (bl w x) = .ok (.pointer none) (bl w x)):=by
 have m:∀w,(zeroValue 221).run prog w = .ok (.pointer none) w:=λw=>AB
 have s:U4 prog 220 (kB l n):=Zs6 (by have:=a.len;omega) (by have:=a.n;omega);by_cases j:kB l n∈(ts.map λp=>(kB p.1.1 p.1.2,p.2)).map (·.1)
 ·left;obtain⟨b,f,r⟩:=h.map.look Tryz.keyKB j;obtain⟨p,k,c⟩:=CW.1 f;injection c with c hpb;obtain⟨o,q⟩:=kB_inj (h.key p k).sym a.sym c;have d:=h.val p k;rw[o,q,hpb] at d;exact⟨b,λx=>(h.map.below (Zr w x)).look_at Tryz.keyKB underlying162 (m _) f r,d.1,d.2⟩
 exact .inr λx=>(h.map.below (Zr w x)).look_none Tryz.keyKB underlying162 (m _) s j
theorem Gk.there{b0:Nat}(h:Gk w g G S ts)(f:((l,n),b0)∈ts):
 ∃b,(∀x:Ext w,(Instr.lookup 162 (.map (some g)) (kB l n) false).run prog (bl w x) = .ok (.pointer (some ⟨b,0,none⟩)) (bl w x))/\Fx w b (Zx (Zv G) l n)/\¬S b:=by
 have s:∀w,(zeroValue 221).run prog w = .ok (.pointer none) w:=λw=>AB
 have r:=h.key _ f;have q:kB l n∈(ts.map λp=>(kB p.1.1 p.1.2,p.2)).map (·.1):=CW.2 ⟨_,CW.2 ⟨_,f,rfl⟩,rfl⟩;obtain⟨b,d,o⟩:=h.map.look Tryz.keyKB q;obtain⟨p,j,a⟩:=CW.1 d;injection a with a hpb;obtain⟨k,m⟩:=kB_inj (h.key p j).sym r.sym a;have c:=h.val p j;rw[k,m,hpb] at c;exact⟨b,λx=>(h.map.below (Zr w x)).look_at Tryz.keyKB underlying162 (s _) d o,c.1,c.2⟩
end
section
variable {W X:World} {L:List Qr} {b:Nat->Bool} {u:Nat->Value}
theorem VMs.there(M:VMs W L b u X){p:Qr}(f:p∈L)(h:b p.ia=true)(j:b p.is=false):∃g,u p.ia = .pointer (some ⟨g,0,none⟩)/\W.heap.size<=g/\Blk X g p.ty p.z:=by
 obtain⟨g,k,e,d,c,⟨_,rfl⟩ | ⟨a,_⟩⟩:=M.at_ p f h
 ·exact⟨g,e,d,c⟩
 rw[j] at a;cases a
end
