/- the program's counter: tree, walked. -/
import Derived.Test.YtggbjdmpjidhgaaGreatDoorY16
import Derived.Test.YtggbjdmpjidhgaaGreatDoorY17
set_option linter.all false
set_option maxHeartbeats 1500000
set_option maxRecDepth 100000
namespace Go.Proofs.YtggbjdmpjidhgaaGreatDoor
open Go.RowKit Go.Proofs.Tryz
variable{W0:World}{k:BkH}{h:GH}{G:Gr}{l:List Int}
theorem tr_tree{k:CH}(hP:Xq G)(hg:Yf W0 h G)(h2:h.n2<=100)(h3:h.n3<=100):∀(M n:Nat) (s:Int),(s<0->Zp s<G.nons.length/\mu G n s=M)->n<=100->Zw5 W0 k h G s n:=by
 have e2:G.nons.length=h.n2:=hg.nons.len;have e3:G.rules.length=h.n3:=hg.rules.len;have k3:=hg.rules.cap;have f8:(Zj G).length=h.n2:=by rw[Qe,Qq];exact e2
 have hr:=hP.fits.n2;intro M
 induction M using Nat.strongRecOn with
 | ind M ih =>
 intro n s hs hn;by_cases h0:0<=s
 case pos=>exact Di h0 hn
 intro S w C hS;have fb:=Zy w (.cells #[.slice none 0 0,.bool false] 77);have b2:=Blk.new w 77 #[.slice none 0 0,.bool false];have f7:=C.more fb (AJ w);have f9:Off k.maps w (w.alloc (.cells #[.slice none 0 0,.bool false] 77)):=Off.of_below fb;have b3:=C.base.size;have HS:=LH hS;have HP:=LH hP;have Hg:=LH hg;have f3:=LH ih;have gl:=LH f8;clear hS hg ih f8;go_enter func155,ntmps155;go_upto_region 1 with fail;generalize w.alloc (.cells #[.slice none 0 0,.bool false] 77)=W1 at *;have bh:=LH f7;have bp:=LH b2;have ch:=LH f9;have l1:=b2.lt;have c0:W1.cell? ⟨w,0,none⟩=some (.slice none 0 0):=b2.cell 0;have c1:W1.cell? ⟨w,1,none⟩=some (.bool false):=b2.cell 1;have f0:=b2.frozen 0;have f1:=b2.frozen 1;clear f7 b2 f9 fb C;have be:s<0:=AA
 obtain⟨gf,ge⟩:=hs be;obtain⟨j,hj,dh,hw⟩:=Vy (s:=s) (n:=h.n2) be (by unfold Zp at gf;omega) AA;have gb:=Z8.at bh.nul (i:=j) (by rw[gl];exact hj);obtain⟨F,gj,_,gi,_,_⟩:=bh.cells;have d5:Hid ((Zj G).getD j false=false->Zv G s 0=0):=LH λhz=>by
  apply DW;intro fk;have:=Jw HP fk;unfold Xg at this;rw[dh,hz] at this;simp at this
 have f4:=LH ge;have bd:=LH gf;clear hs hP ge;generalize (Zj G).getD j false=z at *;by_cases hz:n=0/\z=false
 case pos =>
  obtain⟨rfl,rfl⟩:=hz;have cm:Hid (Zv G s 0=0):=d5 rfl;have gc:=LH (Uw (S':=S) bh bp (Z1.zero _ none 0 AA) ch (.inr rfl) b3 (AJ _) λq hq => .inl hq);go_wp2_with fail;refine AW (AY (p:=6) AB _ _ w 77 #[.slice none 0 0,.bool false] (0,0) _ rfl gc.1 underlying77 rfl AB) rfl ?_;rw[cm];exact gc.2
 have hm:Hid (∀q:Nat,q<=h.n3->True):=LH λ_ _=>trivial;rcases (by cases z <;> simp at hz <;> simp[hz] <;> omega:(n≠0)\/(n=0/\z=true)) with hn0 | ⟨rfl,rfl⟩
 ·have hu:((n:Int)==0)=false:=by rw[AQ];omega
  clear hz d5 hn0;go_upto_region 6 with fail;have a6:=Zy W1 (.cells #[.int .i64 s,.int .i64 (n:Int)] 247);have an:=Blk.new W1 247 #[.int .i64 s,.int .i64 (n:Int)];have gw:w.heap.size<W1.heap.size:=bp.lt;have af:=LH (bh.below a6);have bk:=LH (ch.maps_trans (Off.of_below a6));have br:=LH (bp.ext a6);clear c0 c1 f0 f1 l1 gb F gj gi a6 bp bh ch;generalize W1.alloc (.cells #[.int .i64 s,.int .i64 (n:Int)] 247)=x at *;generalize W1.heap.size=I at *;have cf:=LH an;obtain⟨ts,ht⟩:=af.trees;have J:=ht.look s n be (by have:=bd.out;omega) AA;unfold kT at J;try simp only[Int.ofNat_zero,Int.natCast_zero] at J
  obtain⟨F,_,_,_,a7,_⟩:=af.cells;have y0:x.cell? ⟨I,0,none⟩=some (.int .i64 s):=an.cell 0;have y1:x.cell? ⟨I,1,none⟩=some (.int .i64 (n:Int)):=an.cell 1;have yl:=an.lt;clear an ht;rcases J with ⟨bv,J,hv⟩ | J
  ·obtain⟨Av,nv,cv,dv,dc,dj⟩:=hv;have bc:=Yt x;refine Zs AB AB ?_;repeat (go_big_quiet_step (fail))
   refine BK ?_;rintro _⟨y,rfl⟩;have m:=Zr x y;have H:=br.ext m;have a4:=dc.ext m;have ag:=LH (Uw (S':=S) (af.below m) H (dj.below m) (bk.maps_trans (Off.of_below m)) (.inr rfl) b3 (AJ _) λq hq => .inl hq);have c0:(bl x y).cell? ⟨w,0,none⟩=some (.slice none 0 0):=H.cell 0;have c1:(bl x y).cell? ⟨w,1,none⟩=some (.bool false):=H.cell 1;have f0:=H.frozen 0;have f1:=H.frozen 1;have l5:=H.lt;have v0:(bl x y).cell? ⟨bv,0,none⟩=some (.slice Av nv cv):=a4.cell 0;have v1:(bl x y).cell? ⟨bv,1,none⟩=some (.bool dv):=a4.cell 1;have l6:=a4.lt;clear J dc dj bc m H a4 y0 y1 yl F a7;generalize bl x y=W3 at *;go_wp2_with fail;refine AW (AY (p:=6) AB _ _ w 77 #[.slice Av nv cv,.bool dv] (0,0) _ rfl ag.1 underlying77 rfl AB) rfl ?_;exact ag.2
  have bc:=Yt x;refine Zs AB AB ?_;repeat (go_big_quiet_step (fail))
  refine BK ?_;rintro _⟨y,rfl⟩;have m:=Zr x y;have bi:=LH (af.below m);have ci:=LH (bk.maps_trans (Off.of_below m));have cl:=LH (br.ext m);have cg:=LH (cf.ext m);clear J bc m F a7 y0 y1 yl af bk br cf;generalize bl x y=W3 at *;obtain⟨F,_,fs,_,_,_⟩:=bi.cells;have gs:=k3;go_wp2_with fail;go_loopw [49] (λi wr=>∃(q:Nat) (f:Option Addr) (ns cs:Nat) (g:Bool),q<=h.n3/\i = .int .i64 (q:Int)/\Hid (Yo W0 k h G (λb=>S b\/b=w.heap.size) wr)/\Hid (Off k.maps w wr)/\Hid (Blk wr w 77 #[.slice f ns cs,.bool g])/\Hid (Blk wr I 247 #[.int .i64 s,.int .i64 (n:Int)])/\Hid (Z1 wr f ns cs g (Yc (Zv G) (G.rules.take q) j n))) (λi _=>h.n3-(intOf i).toNat)
  case atStart=>exact⟨0,none,0,0,false,AV _,rfl,bi,ci,cl,cg,LH (Z1.zero _ _ _ AA)⟩
  clear bi ci cl cg F fs;obtain⟨q,f,ns,cs,g,hq,rfl,L,HO,P,O,HV⟩:=hrel;by_cases fm:q<h.n3
  case pos =>
   obtain⟨Y,au,r,Ar,cr,ff,ap,Hr,q0,q1,q2,fo⟩:=Hg.rules.get fm;have fj:=AM Hr;have am:=L.base;have fn:Y<wr.heap.size:=AK ap am.size;have p0:=(am.cell (p:=⟨Y,au+q*3,none⟩) ap).trans q0;have p1:=(am.cell (p:=⟨Y,au+q*3+1,none⟩) ap).trans q1;have p2:=(am.cell (p:=⟨Y,au+q*3+2,none⟩) ap).trans q2;have U:=Zy wr (.cells #[.int .i64 r.left,.slice Ar r.right.length cr,.int .i64 r.prec] 52);have b1:=Blk.new wr 52 #[.int .i64 r.left,.slice Ar r.right.length cr,.int .i64 r.prec];have N:=LH (L.below U);have bm:=LH (HO.maps_trans (Off.of_below U));have R:=LH (P.ext U);have bj:=LH (O.ext U);have ck:=LH (HV.below U);have V:=Cq (T:=Zv G) Hr j n;have gx:=HP.fits.left r fj;rw[ff];go_upto_region 12 with fail;generalize wr.alloc (.cells #[.int .i64 r.left,.slice Ar r.right.length cr,.int .i64 r.prec] 52)=W4 at *;have r0:W4.cell? ⟨wr,0,none⟩=some (.int .i64 r.left):=b1.cell 0;have rl:=b1.lt;have gu:w.heap.size<wr.heap.size:=P.lt;clear U b1 am p0 p1 p2 q0 q1 q2 ap fn fo L HO P O HV;generalize wr.heap.size=gR at *;by_cases ao:r.left=(j:Int)
   case neg =>
    have fk:(r.left==(j:Int))=false:=by rw[AQ];exact ao
    rw[if_neg AA,DG] at V;have bw:=LH V;clear V ao;go_wp2_with fail;go_roundw
    case rel=>exact⟨q+1,f,ns,cs,g,AA,AF,N,bm,R,bj,by rw[bw];exact ck⟩
    simp[intOf] <;> omega
   have fg:(r.left==(j:Int))=true:=by rw[BO];exact ao
   rw[if_pos AA] at V;have HR:=LH (tr_rule (k:=k) HP Hg h2 h3 (i:=q) (s0:=s) (n0:=n) Hr (by rw[dh,ao];rfl) f4 AA (λq' m' fl gy=>by
    by_cases fa:0<=q'
    ·exact Di fa AA
    obtain⟨a1,a2⟩:=fl AA;exact f3 _ a2 m' q' (λ_=>⟨a1,rfl⟩) AA) _ 0 n rfl (AV _) (AJ _) (λ_ p sx d=>absurd d (Nat.not_lt_zero p)))
   have bw:=LH V;clear V;go_upto_region 13 with fail;clear ao fg;refine Xh (λX=>MidC W0 k h G (λb=>S b\/b=w.heap.size) W4 X) (λX X'=>Zf X X') (λu=>(⟨(Value.pointer (some ⟨k.c,0,none⟩)::Value.int IntKind.i64 s::Value.int IntKind.i64 (n:Int)::undef::undef::undef::Value.pointer (some ⟨w,0,none⟩)::Value.pointer (some ⟨I,0,none⟩)::Value.pointer none::Value.int IntKind.i64 (q:Int)::Value.pointer (some ⟨gR,0,none⟩)::Value.int IntKind.i64 s::Value.bool false::undef::undef::Value.int IntKind.i64 (n:Int)::Value.bool false::Value.bool false::undef::undef::undef::undef::undef::undef::undef::undef::undef::Value.bool false::undef::Value.int IntKind.i64 s::Value.int IntKind.i64 (n:Int)::Value.agg #[Value.int IntKind.i64 s,Value.int IntKind.i64 (n:Int)]::Value.pointer (some ⟨k.c,0,none⟩)::Value.pointer (some ⟨k.c,0,none⟩)::Value.pointer (some ⟨k.c,5,none⟩)::Value.map (some k.t)::Value.agg #[Value.int IntKind.i64 s,Value.int IntKind.i64 (n:Int)]::Value.pointer none::Value.pointer none::Value.bool false::undef::undef::undef::Value.pointer (some ⟨k.c,0,none⟩)::Value.pointer (some ⟨k.c,0,none⟩)::Value.pointer (some ⟨k.c,0,none⟩)::Value.pointer (some ⟨k.c,2,none⟩)::Value.slice (some ⟨Y,au,none⟩) h.n3 h.c3::Value.int IntKind.i64 (h.n3:Int)::Value.int IntKind.i64 (q:Int)::Value.bool true::Value.int IntKind.i64 (q:Int)::Value.pointer (some ⟨Y,au+q*3,none⟩)::Value.agg #[Value.int IntKind.i64 r.left,Value.slice Ar r.right.length cr,Value.int IntKind.i64 r.prec]::Value.pointer (some ⟨gR,0,none⟩)::Value.int IntKind.i64 (j:Int)::Value.int IntKind.i64 s::Value.int IntKind.i64 (j:Int)::Value.bool true::u 0::u 1::u 2::u 3::u 4::u 5::u 6::u66::undef::undef::undef::undef::undef::undef::[]).toArray,[]⟩:Act)) [u59,u60,u61,u62,u63,u64,u65] [λv X=>v=Value.agg #[Value.slice f ns cs,Value.bool g],λv X=>v=Value.pointer (some ⟨k.c,0,none⟩),λv X=>v=Value.int .i64 (q:Int),λv X=>v=Value.int .i64 (n:Int),λv X=>v=Value.agg #[Value.int .i64 (q:Int),Value.int .i64 0,Value.int .i64 (n:Int)],λv X=>∃Aq nq cq bq,v=Value.agg #[Value.slice Aq nq cq,Value.bool bq]/\Z1 X Aq nq cq bq (Zx (Zv G) r.right n),λv X=>∃Aq nq cq bq,v=Value.agg #[Value.slice Aq nq cq,Value.bool bq]/\Z1 X Aq nq cq bq (Yc (Zv G) (G.rules.take q) j n+Zx (Zv G) r.right n)] (λu X=>∃A9 n9 c9 d9,Yo W0 k h G (λb=>S b\/b=w.heap.size) X/\Off k.maps w X/\Blk X w 77 #[Value.slice A9 n9 c9,Value.bool d9]/\Blk X I 247 #[Value.int .i64 s,Value.int .i64 (n:Int)]/\Z1 X A9 n9 c9 d9 (Yc (Zv G) (G.rules.take q) j n+Zx (Zv G) r.right n)) (l:=[_,_,_,_,_,_,_]) AB AB AB rfl rfl ⟨N.below (AL _ _).drew,Off.of_below (AL _ _).drew⟩ ⟨AI,AI,AI,AI,AI,(λ_ _ _ ⟨A,n,c,b,e,h⟩ D=>⟨A,n,c,b,e,h.kept D⟩),(λ_ _ _ ⟨A,n,c,b,e,h⟩ D=>⟨A,n,c,b,e,h.kept D⟩),trivial⟩ ?_ ?_ ?_
   ·refine Zk.con (λQ u X a d KK o=>?_) ?_
    ·have B:=a.2.blk R (N.not_map R);have d7:X.cell? ⟨w,0,none⟩=some (.slice f ns cs):=B.cell 0;have d8:X.cell? ⟨w,1,none⟩=some (.bool g):=B.cell 1;have fr:=B.lt;go_simp;exact o _ _ a ⟨AJ _,λ_ _ _=>rfl⟩ rfl
    iterate 3
     refine Zk.con (λQ u X a d KK o=>?_) ?_
     ·go_simp;exact o _ _ a ⟨AJ _,λ_ _ _=>rfl⟩ rfl
    refine Zk.con (λQ u X a d KK o=>?_) ?_
    ·have p2:u 2=_:=d 2 rfl;have p3:u 3=_:=d 3 rfl;clear d;rw[p2,p3] at o⊢;go_simp;exact o _ _ a ⟨AJ _,λ_ _ _=>rfl⟩ rfl
    refine Zk.con (λQ u X a d KK o=>?_) ?_
    ·have p1:u 1=_:=d 1 rfl;have p4:u 4=_:=d 4 rfl;clear d;generalize u 1=x1 at *;subst p1;generalize u 4=x4 at *;subst p4;have fe:∀b,(S b\/b=w.heap.size)->b<X.heap.size:=λb D=>by
      rcases D with D | rfl
      ·exact AK (HS b D) (BD bm.size a.2.size)
      exact AK R.lt a.2.size
     have CO:=HR (λb=>S b\/b=w.heap.size) X a.1 fe;unfold kF at CO;simp only[Int.ofNat_zero,Int.natCast_zero,Ee] at CO;go_simp;refine CO.mono ?_;rintro e w5⟨fc,db,A2,m2,c2,d2,rfl,b6⟩;go_simp;exact o _ _ (⟨fc,a.2.maps_trans db⟩) (a.1.keep db) ⟨A2,m2,c2,d2,rfl,b6⟩
    refine Zk.con (λQ u X a d KK o=>?_) ?_
    ·have p0:u 0=_:=d 0 rfl;obtain⟨A2,m2,c2,d2,p5,b6⟩:=d 5 rfl;clear d;rw[p0] at o⊢;generalize u 5=x5 at *;subst p5;have fq:=ck.kept (N.keep a.2);go_simp;refine (Zu2 f ns cs g _ A2 m2 c2 d2 _ X fq b6).mono ?_;rintro e w5⟨b0,A4,m4,c4,d4,rfl,b7⟩;go_simp;exact o _ _ (⟨a.1.below b0,a.2.maps_trans (Off.of_below b0)⟩) (Zf.of_below b0) ⟨A4,m4,c4,d4,rfl,b7⟩
    exact Zk.nil
   ·intro Q u X a d KK o;obtain⟨A4,m4,c4,d4,p6,b7⟩:=d 6 AC;clear d;generalize u 6=x6 at *;subst p6;have B:=a.2.blk R (N.not_map R);have d7:X.cell? ⟨w,0,none⟩=some (.slice f ns cs):=B.cell 0;have d8:X.cell? ⟨w,1,none⟩=some (.bool g):=B.cell 1;have fr:=B.lt;have gq:=B.frozen 0;have gr:=B.frozen 1;have da:=a.2.blk bj (N.not_map bj);have W:=a.1.store B (.inr rfl) b3 A4 m4 c4 d4;have d1:=LH (And.intro W.1 (And.intro ((bm.maps_trans a.2).maps_new W.2.1 (AJ _)) (And.intro W.2.2.2 (And.intro (W.2.1.blk da (λe=>AA)) (b7.kept W.2.2.1)))));clear W B da;go_simp;exact o (λi=>([u 0,u 1,u 2,u 3,u 4,u 5,Value.agg #[Value.slice A4 m4 c4,Value.bool d4]]:List Value).getD i undef) _ (⟨A4,m4,c4,d4,d1⟩)
   intro u W9 fh;obtain⟨A9,n9,c9,d9,g1,g2,g3,g5,g4⟩:=fh;have ds:=LH g1;have dw:=LH g2;have dz:=LH g3;have dt:=LH g5;rw[<-bw] at g4;have dy:=LH g4;clear g1 g2 g3 g4 g5;go_wp2_with fail;go_roundw
   case rel=>exact⟨q+1,A9,n9,c9,d9,AA,AF,ds,dw,dz,dt,dy⟩
   simp[intOf] <;> omega
  obtain rfl:q=h.n3:=AA
  have cm:Hid (Yc (Zv G) (G.rules.take h.n3) j n=Zv G s n):=LH (by rw[AR AA,Uu HP be bd,dh]);obtain⟨F,_,_,_,a7,_⟩:=L.cells;have xl:=P.lt;have y0:wr.cell? ⟨I,0,none⟩=some (.int .i64 s):=O.cell 0;have y1:wr.cell? ⟨I,1,none⟩=some (.int .i64 (n:Int)):=O.cell 1;have yl:=O.lt;have gt:W0.heap.size<=w.heap.size:=b3;go_upto_region 15 with fail;have bc:=Yt wr;refine Yx 5 AB AB ?_;simp only[List.take_succ_cons,List.take_zero,List.drop_succ_cons,Ee];repeat (go_big_quiet_step (fail))
  refine BK ?_;rintro _⟨y,rfl⟩;have m:=Zr wr y;have aw:=LH ((L.below m).less (S':=S) λb D => .inl D);have du:=LH (HO.maps_trans (Off.of_below m));have bt:=LH (P.ext m);have bo:=LH (HV.below m);have fi:¬S w.heap.size:=λD=>Nat.lt_irrefl _ (HS _ D);clear m bc L HO P HV O y0 y1 yl F a7 xl;generalize bl wr y=W6 at *;obtain⟨g9,b5⟩:=aw.trees;have a5:U4 prog 247 (kT s n):=Zww (by have:=bd.out;unfold Zp at this;omega) AA AA;unfold kT at a5;try simp only[Int.ofNat_zero,Int.natCast_zero] at a5
  have dd:=b5.few;have cj:=LH b5;have d3:=LH a5;have d0:=LH dd;clear b5 a5 dd;rw[cm] at bo;go_wp2_with (
   at_mapUpdate
   refine D7 _ rfl _ _ _ 138 rfl 248 k.t w Tryz.keyKT underlying138 cj.map d0 (.agg #[.int .i64 s,.int .i64 (n:Int)]) d3 rfl rfl rfl ?_;intro Z dg df;obtain⟨c8,a3⟩:=aw.putT cj be (by have:=bd.out;omega) AA ⟨f,ns,cs,g,bt,bo⟩ fi dg df;have E:=a3.blk bt (aw.not_map bt);have V7:=bo.kept (aw.keep a3);have e1:=Kt (i:=0) (v := .slice f ns cs) E rfl;have cx:(Z.setCell ⟨w,0,none⟩ (.slice f ns cs)).setCell ⟨w,1,none⟩ (.bool g)=Z:=by rw[e1];exact Kt (i:=1) (v := .bool g) E rfl
   have ag:Hid (Blk ((Z.setCell ⟨w,0,none⟩ (.slice f ns cs)).setCell ⟨w,1,none⟩ (.bool g)) w 77 #[.slice f ns cs,.bool g]/\CRet W0 k h G S w (Zv G s n) (.returned (.agg #[.slice f ns cs,.bool g])) ((Z.setCell ⟨w,0,none⟩ (.slice f ns cs)).setCell ⟨w,1,none⟩ (.bool g))):=LH (by rw[cx];exact⟨E,c8,du.maps_trans a3,f,ns,cs,g,rfl,V7⟩);have c0:Z.cell? ⟨w,0,none⟩=some (.slice f ns cs):=E.cell 0;have c1:Z.cell? ⟨w,1,none⟩=some (.bool g):=E.cell 1;have f0:=E.frozen 0;have f1:=E.frozen 1;have l5:=E.lt;clear c8 a3 E V7 dg df e1 cx)
  refine AW (AY (p:=6) AB _ _ w 77 #[.slice f ns cs,.bool g] (0,0) _ rfl ag.1 underlying77 rfl AB) rfl ?_;exact ag.2
 clear hz d5;go_upto_region 6 with fail;have a6:=Zy W1 (.cells #[.int .i64 s,.int .i64 0] 247);have an:=Blk.new W1 247 #[.int .i64 s,.int .i64 0];have gw:w.heap.size<W1.heap.size:=bp.lt;have af:=LH (bh.below a6);have bk:=LH (ch.maps_trans (Off.of_below a6));have br:=LH (bp.ext a6);clear c0 c1 f0 f1 l1 gb F gj gi a6 bp bh ch;generalize W1.alloc (.cells #[.int .i64 s,.int .i64 0] 247)=x at *;generalize W1.heap.size=I at *;have cf:=LH an;obtain⟨ts,ht⟩:=af.trees;have J:=ht.look s 0 be (by have:=bd.out;omega) AA;unfold kT at J;try simp only[Int.ofNat_zero,Int.natCast_zero] at J
 obtain⟨F,_,_,_,a7,_⟩:=af.cells;have y0:x.cell? ⟨I,0,none⟩=some (.int .i64 s):=an.cell 0;have y1:x.cell? ⟨I,1,none⟩=some (.int .i64 0):=an.cell 1;have yl:=an.lt;clear an ht;rcases J with ⟨bv,J,hv⟩ | J
 ·obtain⟨Av,nv,cv,dv,dc,dj⟩:=hv;have bc:=Yt x;refine Zs AB AB ?_;repeat (go_big_quiet_step (fail))
  refine BK ?_;rintro _⟨y,rfl⟩;have m:=Zr x y;have H:=br.ext m;have a4:=dc.ext m;have ag:=LH (Uw (S':=S) (af.below m) H (dj.below m) (bk.maps_trans (Off.of_below m)) (.inr rfl) b3 (AJ _) λq hq => .inl hq);have c0:(bl x y).cell? ⟨w,0,none⟩=some (.slice none 0 0):=H.cell 0;have c1:(bl x y).cell? ⟨w,1,none⟩=some (.bool false):=H.cell 1;have f0:=H.frozen 0;have f1:=H.frozen 1;have l5:=H.lt;have v0:(bl x y).cell? ⟨bv,0,none⟩=some (.slice Av nv cv):=a4.cell 0;have v1:(bl x y).cell? ⟨bv,1,none⟩=some (.bool dv):=a4.cell 1;have l6:=a4.lt;clear J dc dj bc m H a4 y0 y1 yl F a7;generalize bl x y=W3 at *;go_wp2_with fail;refine AW (AY (p:=6) AB _ _ w 77 #[.slice Av nv cv,.bool dv] (0,0) _ rfl ag.1 underlying77 rfl AB) rfl ?_;exact ag.2
 have bc:=Yt x;refine Zs AB AB ?_;repeat (go_big_quiet_step (fail))
 refine BK ?_;rintro _⟨y,rfl⟩;have m:=Zr x y;have bi:=LH (af.below m);have ci:=LH (bk.maps_trans (Off.of_below m));have cl:=LH (br.ext m);have cg:=LH (cf.ext m);clear J bc m F a7 y0 y1 yl af bk br cf;generalize bl x y=W3 at *;obtain⟨F,_,fs,_,_,_⟩:=bi.cells;have gs:=k3;go_wp2_with fail;go_loopw [49] (λi wr=>∃(q:Nat) (f:Option Addr) (ns cs:Nat) (g:Bool),q<=h.n3/\i = .int .i64 (q:Int)/\Hid (Yo W0 k h G (λb=>S b\/b=w.heap.size) wr)/\Hid (Off k.maps w wr)/\Hid (Blk wr w 77 #[.slice f ns cs,.bool g])/\Hid (Blk wr I 247 #[.int .i64 s,.int .i64 0])/\Hid (Z1 wr f ns cs g (Yc (Zv G) (G.rules.take q) j 0))) (λi _=>h.n3-(intOf i).toNat)
 case atStart=>exact⟨0,none,0,0,false,AV _,rfl,bi,ci,cl,cg,LH (Z1.zero _ _ _ AA)⟩
 clear bi ci cl cg F fs;obtain⟨q,f,ns,cs,g,hq,rfl,L,HO,P,O,HV⟩:=hrel;by_cases fm:q<h.n3
 case pos =>
  obtain⟨Y,au,r,Ar,cr,ff,ap,Hr,q0,q1,q2,fo⟩:=Hg.rules.get fm;have fj:=AM Hr;have am:=L.base;have fn:Y<wr.heap.size:=AK ap am.size;have p0:=(am.cell (p:=⟨Y,au+q*3,none⟩) ap).trans q0;have p1:=(am.cell (p:=⟨Y,au+q*3+1,none⟩) ap).trans q1;have p2:=(am.cell (p:=⟨Y,au+q*3+2,none⟩) ap).trans q2;have U:=Zy wr (.cells #[.int .i64 r.left,.slice Ar r.right.length cr,.int .i64 r.prec] 52);have b1:=Blk.new wr 52 #[.int .i64 r.left,.slice Ar r.right.length cr,.int .i64 r.prec];have N:=LH (L.below U);have bm:=LH (HO.maps_trans (Off.of_below U));have R:=LH (P.ext U);have bj:=LH (O.ext U);have ck:=LH (HV.below U);have V:=Cq (T:=Zv G) Hr j 0;have gx:=HP.fits.left r fj;rw[ff];go_upto_region 12 with fail;generalize wr.alloc (.cells #[.int .i64 r.left,.slice Ar r.right.length cr,.int .i64 r.prec] 52)=W4 at *;have r0:W4.cell? ⟨wr,0,none⟩=some (.int .i64 r.left):=b1.cell 0;have rl:=b1.lt;have gu:w.heap.size<wr.heap.size:=P.lt;clear U b1 am p0 p1 p2 q0 q1 q2 ap fn fo L HO P O HV;generalize wr.heap.size=gR at *;by_cases ao:r.left=(j:Int)
  case neg =>
   have fk:(r.left==(j:Int))=false:=by rw[AQ];exact ao
   rw[if_neg AA,DG] at V;have bw:=LH V;clear V ao;go_wp2_with fail;go_roundw
   case rel=>exact⟨q+1,f,ns,cs,g,AA,AF,N,bm,R,bj,by rw[bw];exact ck⟩
   simp[intOf] <;> omega
  have fg:(r.left==(j:Int))=true:=by rw[BO];exact ao
  rw[if_pos AA] at V;have HR:=LH (tr_rule (k:=k) HP Hg h2 h3 (i:=q) (s0:=s) (n0:=0) Hr (by rw[dh,ao];rfl) f4 AA (λq' m' fl gy=>by
   by_cases fa:0<=q'
   ·exact Di fa AA
   obtain⟨a1,a2⟩:=fl AA;exact f3 _ a2 m' q' (λ_=>⟨a1,rfl⟩) AA) _ 0 0 rfl (AV _) (AJ _) (λ_ p sx d=>absurd d (Nat.not_lt_zero p)))
  have bw:=LH V;clear V;go_upto_region 13 with fail;clear ao fg;refine Xh (λX=>MidC W0 k h G (λb=>S b\/b=w.heap.size) W4 X) (λX X'=>Zf X X') (λu=>(⟨(Value.pointer (some ⟨k.c,0,none⟩)::Value.int IntKind.i64 s::Value.int IntKind.i64 0::undef::undef::undef::Value.pointer (some ⟨w,0,none⟩)::Value.pointer (some ⟨I,0,none⟩)::Value.pointer none::Value.int IntKind.i64 (q:Int)::Value.pointer (some ⟨gR,0,none⟩)::Value.int IntKind.i64 s::Value.bool false::undef::undef::Value.int IntKind.i64 0::Value.bool true::Value.bool true::Value.pointer (some ⟨k.c,0,none⟩)::Value.pointer (some ⟨k.c,0,none⟩)::Value.pointer (some ⟨k.c,4,none⟩)::Value.slice (some ⟨k.n,0,none⟩) h.n2 h.n2::Value.int IntKind.i64 s::Value.int IntKind.i64 (j:Int)::Value.pointer (some ⟨k.n,j,none⟩)::Value.bool true::Value.bool false::Value.bool false::undef::Value.int IntKind.i64 s::Value.int IntKind.i64 0::Value.agg #[Value.int IntKind.i64 s,Value.int IntKind.i64 0]::Value.pointer (some ⟨k.c,0,none⟩)::Value.pointer (some ⟨k.c,0,none⟩)::Value.pointer (some ⟨k.c,5,none⟩)::Value.map (some k.t)::Value.agg #[Value.int IntKind.i64 s,Value.int IntKind.i64 0]::Value.pointer none::Value.pointer none::Value.bool false::undef::undef::undef::Value.pointer (some ⟨k.c,0,none⟩)::Value.pointer (some ⟨k.c,0,none⟩)::Value.pointer (some ⟨k.c,0,none⟩)::Value.pointer (some ⟨k.c,2,none⟩)::Value.slice (some ⟨Y,au,none⟩) h.n3 h.c3::Value.int IntKind.i64 (h.n3:Int)::Value.int IntKind.i64 (q:Int)::Value.bool true::Value.int IntKind.i64 (q:Int)::Value.pointer (some ⟨Y,au+q*3,none⟩)::Value.agg #[Value.int IntKind.i64 r.left,Value.slice Ar r.right.length cr,Value.int IntKind.i64 r.prec]::Value.pointer (some ⟨gR,0,none⟩)::Value.int IntKind.i64 (j:Int)::Value.int IntKind.i64 s::Value.int IntKind.i64 (j:Int)::Value.bool true::u 0::u 1::u 2::u 3::u 4::u 5::u 6::u66::undef::undef::undef::undef::undef::undef::[]).toArray,[]⟩:Act)) [u59,u60,u61,u62,u63,u64,u65] [λv X=>v=Value.agg #[Value.slice f ns cs,Value.bool g],λv X=>v=Value.pointer (some ⟨k.c,0,none⟩),λv X=>v=Value.int .i64 (q:Int),λv X=>v=Value.int .i64 0,λv X=>v=Value.agg #[Value.int .i64 (q:Int),Value.int .i64 0,Value.int .i64 0],λv X=>∃Aq nq cq bq,v=Value.agg #[Value.slice Aq nq cq,Value.bool bq]/\Z1 X Aq nq cq bq (Zx (Zv G) r.right 0),λv X=>∃Aq nq cq bq,v=Value.agg #[Value.slice Aq nq cq,Value.bool bq]/\Z1 X Aq nq cq bq (Yc (Zv G) (G.rules.take q) j 0+Zx (Zv G) r.right 0)] (λu X=>∃A9 n9 c9 d9,Yo W0 k h G (λb=>S b\/b=w.heap.size) X/\Off k.maps w X/\Blk X w 77 #[Value.slice A9 n9 c9,Value.bool d9]/\Blk X I 247 #[Value.int .i64 s,Value.int .i64 0]/\Z1 X A9 n9 c9 d9 (Yc (Zv G) (G.rules.take q) j 0+Zx (Zv G) r.right 0)) (l:=[_,_,_,_,_,_,_]) AB AB AB rfl rfl ⟨N.below (AL _ _).drew,Off.of_below (AL _ _).drew⟩ ⟨AI,AI,AI,AI,AI,(λ_ _ _ ⟨A,n,c,b,e,h⟩ D=>⟨A,n,c,b,e,h.kept D⟩),(λ_ _ _ ⟨A,n,c,b,e,h⟩ D=>⟨A,n,c,b,e,h.kept D⟩),trivial⟩ ?_ ?_ ?_
  ·refine Zk.con (λQ u X a d KK o=>?_) ?_
   ·have B:=a.2.blk R (N.not_map R);have d7:X.cell? ⟨w,0,none⟩=some (.slice f ns cs):=B.cell 0;have d8:X.cell? ⟨w,1,none⟩=some (.bool g):=B.cell 1;have fr:=B.lt;go_simp;exact o _ _ a ⟨AJ _,λ_ _ _=>rfl⟩ rfl
   iterate 3
    refine Zk.con (λQ u X a d KK o=>?_) ?_
    ·go_simp;exact o _ _ a ⟨AJ _,λ_ _ _=>rfl⟩ rfl
   refine Zk.con (λQ u X a d KK o=>?_) ?_
   ·have p2:u 2=_:=d 2 rfl;have p3:u 3=_:=d 3 rfl;clear d;rw[p2,p3] at o⊢;go_simp;exact o _ _ a ⟨AJ _,λ_ _ _=>rfl⟩ rfl
   refine Zk.con (λQ u X a d KK o=>?_) ?_
   ·have p1:u 1=_:=d 1 rfl;have p4:u 4=_:=d 4 rfl;clear d;generalize u 1=x1 at *;subst p1;generalize u 4=x4 at *;subst p4;have fe:∀b,(S b\/b=w.heap.size)->b<X.heap.size:=λb D=>by
     rcases D with D | rfl
     ·exact AK (HS b D) (BD bm.size a.2.size)
     exact AK R.lt a.2.size
    have CO:=HR (λb=>S b\/b=w.heap.size) X a.1 fe;unfold kF at CO;simp only[Int.ofNat_zero,Int.natCast_zero,Ee] at CO;go_simp;refine CO.mono ?_;rintro e w5⟨fc,db,A2,m2,c2,d2,rfl,b6⟩;go_simp;exact o _ _ (⟨fc,a.2.maps_trans db⟩) (a.1.keep db) ⟨A2,m2,c2,d2,rfl,b6⟩
   refine Zk.con (λQ u X a d KK o=>?_) ?_
   ·have p0:u 0=_:=d 0 rfl;obtain⟨A2,m2,c2,d2,p5,b6⟩:=d 5 rfl;clear d;rw[p0] at o⊢;generalize u 5=x5 at *;subst p5;have fq:=ck.kept (N.keep a.2);go_simp;refine (Zu2 f ns cs g _ A2 m2 c2 d2 _ X fq b6).mono ?_;rintro e w5⟨b0,A4,m4,c4,d4,rfl,b7⟩;go_simp;exact o _ _ (⟨a.1.below b0,a.2.maps_trans (Off.of_below b0)⟩) (Zf.of_below b0) ⟨A4,m4,c4,d4,rfl,b7⟩
   exact Zk.nil
  ·intro Q u X a d KK o;obtain⟨A4,m4,c4,d4,p6,b7⟩:=d 6 AC;clear d;generalize u 6=x6 at *;subst p6;have B:=a.2.blk R (N.not_map R);have d7:X.cell? ⟨w,0,none⟩=some (.slice f ns cs):=B.cell 0;have d8:X.cell? ⟨w,1,none⟩=some (.bool g):=B.cell 1;have fr:=B.lt;have gq:=B.frozen 0;have gr:=B.frozen 1;have da:=a.2.blk bj (N.not_map bj);have W:=a.1.store B (.inr rfl) b3 A4 m4 c4 d4;have d1:=LH (And.intro W.1 (And.intro ((bm.maps_trans a.2).maps_new W.2.1 (AJ _)) (And.intro W.2.2.2 (And.intro (W.2.1.blk da (λe=>AA)) (b7.kept W.2.2.1)))));clear W B da;go_simp;exact o (λi=>([u 0,u 1,u 2,u 3,u 4,u 5,Value.agg #[Value.slice A4 m4 c4,Value.bool d4]]:List Value).getD i undef) _ (⟨A4,m4,c4,d4,d1⟩)
  intro u W9 fh;obtain⟨A9,n9,c9,d9,g1,g2,g3,g5,g4⟩:=fh;have ds:=LH g1;have dw:=LH g2;have dz:=LH g3;have dt:=LH g5;rw[<-bw] at g4;have dy:=LH g4;clear g1 g2 g3 g4 g5;go_wp2_with fail;go_roundw
  case rel=>exact⟨q+1,A9,n9,c9,d9,AA,AF,ds,dw,dz,dt,dy⟩
  simp[intOf] <;> omega
 obtain rfl:q=h.n3:=AA
 have cm:Hid (Yc (Zv G) (G.rules.take h.n3) j 0=Zv G s 0):=LH (by rw[AR AA,Uu HP be bd,dh]);obtain⟨F,_,_,_,a7,_⟩:=L.cells;have xl:=P.lt;have y0:wr.cell? ⟨I,0,none⟩=some (.int .i64 s):=O.cell 0;have y1:wr.cell? ⟨I,1,none⟩=some (.int .i64 0):=O.cell 1;have yl:=O.lt;have gt:W0.heap.size<=w.heap.size:=b3;go_upto_region 15 with fail;have bc:=Yt wr;refine Yx 5 AB AB ?_;simp only[List.take_succ_cons,List.take_zero,List.drop_succ_cons,Ee];repeat (go_big_quiet_step (fail))
 refine BK ?_;rintro _⟨y,rfl⟩;have m:=Zr wr y;have aw:=LH ((L.below m).less (S':=S) λb D => .inl D);have du:=LH (HO.maps_trans (Off.of_below m));have bt:=LH (P.ext m);have bo:=LH (HV.below m);have fi:¬S w.heap.size:=λD=>Nat.lt_irrefl _ (HS _ D);clear m bc L HO P HV O y0 y1 yl F a7 xl;generalize bl wr y=W6 at *;obtain⟨g9,b5⟩:=aw.trees;have a5:U4 prog 247 (kT s 0):=Zww (by have:=bd.out;unfold Zp at this;omega) AA AA;unfold kT at a5;try simp only[Int.ofNat_zero,Int.natCast_zero] at a5
 have dd:=b5.few;have cj:=LH b5;have d3:=LH a5;have d0:=LH dd;clear b5 a5 dd;rw[cm] at bo;go_wp2_with (
  at_mapUpdate
  refine D7 _ rfl _ _ _ 138 rfl 248 k.t w Tryz.keyKT underlying138 cj.map d0 (.agg #[.int .i64 s,.int .i64 0]) d3 rfl rfl rfl ?_;intro Z dg df;obtain⟨c8,a3⟩:=aw.putT cj be (by have:=bd.out;omega) AA ⟨f,ns,cs,g,bt,bo⟩ fi dg df;have E:=a3.blk bt (aw.not_map bt);have V7:=bo.kept (aw.keep a3);have e1:=Kt (i:=0) (v := .slice f ns cs) E rfl;have cx:(Z.setCell ⟨w,0,none⟩ (.slice f ns cs)).setCell ⟨w,1,none⟩ (.bool g)=Z:=by rw[e1];exact Kt (i:=1) (v := .bool g) E rfl
  have ag:Hid (Blk ((Z.setCell ⟨w,0,none⟩ (.slice f ns cs)).setCell ⟨w,1,none⟩ (.bool g)) w 77 #[.slice f ns cs,.bool g]/\CRet W0 k h G S w (Zv G s 0) (.returned (.agg #[.slice f ns cs,.bool g])) ((Z.setCell ⟨w,0,none⟩ (.slice f ns cs)).setCell ⟨w,1,none⟩ (.bool g))):=LH (by rw[cx];exact⟨E,c8,du.maps_trans a3,f,ns,cs,g,rfl,V7⟩);have c0:Z.cell? ⟨w,0,none⟩=some (.slice f ns cs):=E.cell 0;have c1:Z.cell? ⟨w,1,none⟩=some (.bool g):=E.cell 1;have f0:=E.frozen 0;have f1:=E.frozen 1;have l5:=E.lt;clear c8 a3 E V7 dg df e1 cx)
 refine AW (AY (p:=6) AB _ _ w 77 #[.slice f ns cs,.bool g] (0,0) _ rfl ag.1 underlying77 rfl AB) rfl ?_;exact ag.2
theorem tr_forest{B:World}{k:CH}(J:Xq G)(hg:Yf B h G)(h2:h.n2<=100)(h3:h.n3<=100):∀(l:List Int) (Al:Option Addr) (a n:Nat),Za .i64 B Al l.length a l->(∀s∈l,-(h.n2:Int)<=s/\s<=1000)->l.length<=100->n<=100->ForC B k h G Al l.length a l n:=by
 have e2:G.nons.length=h.n2:=hg.nons.len;have U:(Zj G).length=h.n2:=by rw[Qe,Qq];exact e2
 have V:∀(s:Int) (i:Nat),(s<0->Zp s<G.nons.length)->i<=100->Zw5 B k h G s i:=λs i z hi=>tr_tree J hg h2 h3 _ i s (λh0=>⟨z h0,rfl⟩) hi;intro l
 induction l with
 | nil =>
   intro Al a n N z a1 hn S w C L;obtain⟨r,j,m,o⟩:=Cy w 78 27 77 #[.pointer (some ⟨k.c,0,none⟩)] #[.slice Al 0 a] #[.slice none 0 0,.bool false];have t:=C.more r (CZ w 2);have u:Off k.maps w (((w.alloc (.cells #[.pointer (some ⟨k.c,0,none⟩)] 78)).alloc (.cells #[.slice Al 0 a] 27)).alloc (.cells #[.slice none 0 0,.bool false] 77)):=Off.of_below r;have ah:B.heap.size<=w.heap.size+2:=BD C.base.size (CZ _ _);have HS:=LH L;have T:=LH N;have A:=LH z;have HT:=LH V;have HP:=LH J;have Z:=LH U;rw[DR] at *;go_enter func50,ntmps50;go_upto_region 1 with fail;generalize ((w.alloc (.cells #[.pointer (some ⟨k.c,0,none⟩)] 78)).alloc (.cells #[.slice Al 0 a] 27)).alloc (.cells #[.slice none 0 0,.bool false] 77)=g at *;have F:=LH t;have aa:=LH u;have X:=LH j;have Y:=LH m;have E:=LH o;have l2:=j.lt;have l3:=m.lt;have p0:g.cell? ⟨w,0,none⟩=some (.pointer (some ⟨k.c,0,none⟩)):=j.cell 0;have t0:g.cell? ⟨w+1,0,none⟩=some (.slice Al 0 a):=m.cell 0;have M:∀b,(S b\/b=w.heap.size+2)->b<g.heap.size:=λb x=>by
    rcases x with x | rfl
    ·exact AK (HS.out b x) u.size
    exact o.lt
   have f:=Zwe HP.out 93 #[.pointer (some ⟨w,0,none⟩),.pointer (some ⟨w+1,0,none⟩)] L8 Al a [] n g t M T.out Z.out A.out AA (by simp;try omega) hn
    (λs aj y i hi=>HT.out s i (λh0=>by have:=(A.out s (by rw[y];exact AX ..)).1;unfold Zp;omega) AA)
    (λs aj y=>by cases y)
   rw[DR] at f;have f:=LH f;clear J N z L C t u j m o r M V U;go_wp2_with fail;(with_reducible refine f.out.mono ?_);rintro e R⟨I,v,W,n4,c4,d4,rfl,P⟩;have d:=v.blk E.out (F.out.not_map E.out);have H:=LH (Uw (S':=S) I d P (aa.out.maps_trans v) (.inr rfl) ah (CZ _ _) λq O => .inl O);have c0:R.cell? ⟨w+2,0,none⟩=some (.slice none 0 0):=d.cell 0;have c1:R.cell? ⟨w+2,1,none⟩=some (.bool false):=d.cell 1;have f0:=d.frozen 0;have f1:=d.frozen 1;have l5:=d.lt;clear I v d P p0 t0 l2 l3;go_wp2_with fail;refine AW (AY (p:=6) AB _ _ (w.heap.size+2) 77 #[.slice W n4 c4,.bool d4] (0,0) _ rfl H.out.1 underlying77 rfl AB) rfl ?_;exact H.out.2
 | cons s0 D ih =>
   intro Al a n N z a1 hn S w C L;obtain⟨r,j,m,o⟩:=Cy w 78 27 77 #[.pointer (some ⟨k.c,0,none⟩)] #[.slice Al (D.length+1) a] #[.slice none 0 0,.bool false];have t:=C.more r (CZ w 2);have u:Off k.maps w (((w.alloc (.cells #[.pointer (some ⟨k.c,0,none⟩)] 78)).alloc (.cells #[.slice Al (D.length+1) a] 27)).alloc (.cells #[.slice none 0 0,.bool false] 77)):=Off.of_below r;have ah:B.heap.size<=w.heap.size+2:=BD C.base.size (CZ _ _);have HS:=LH L;have T:=LH N;have A:=LH z;have HT:=LH V;have HP:=LH J;have Z:=LH U;have au:=LH ih;rw[AZ] at *;go_enter func50,ntmps50;go_upto_region 1 with fail;generalize ((w.alloc (.cells #[.pointer (some ⟨k.c,0,none⟩)] 78)).alloc (.cells #[.slice Al (D.length+1) a] 27)).alloc (.cells #[.slice none 0 0,.bool false] 77)=g at *;have F:=LH t;have aa:=LH u;have X:=LH j;have Y:=LH m;have E:=LH o;have l2:=j.lt;have l3:=m.lt;have p0:g.cell? ⟨w,0,none⟩=some (.pointer (some ⟨k.c,0,none⟩)):=j.cell 0;have t0:g.cell? ⟨w+1,0,none⟩=some (.slice Al (D.length+1) a):=m.cell 0;have M:∀b,(S b\/b=w.heap.size+2)->b<g.heap.size:=λb x=>by
    rcases x with x | rfl
    ·exact AK (HS.out b x) u.size
    exact o.lt
   have f:=Zwe HP.out 93 #[.pointer (some ⟨w,0,none⟩),.pointer (some ⟨w+1,0,none⟩)] L8 Al a (s0::D) n g t M T.out Z.out A.out AA (by simp;try omega) hn
    (λs aj y i hi=>HT.out s i (λh0=>by have:=(A.out s (by rw[y];exact AX ..)).1;unfold Zp;omega) AA)
    (λs aj y i hi hx=>by
      injection y with he1 he2;subst he1;subst he2;intro S' w' C' a0 ao;obtain⟨At,aq,an⟩:=D6 T.out (i:=1) AA;rw[Nat.add_sub_cancel] at aq an;exact tr_forest1 s0 D Al a (n-i) _ _ w' C' a0 (ao.blk X.out (F.out.not_map X.out)) (ao.blk Y.out (F.out.not_map Y.out)) aq (au.out At (a-1) (n-i) an (λq O=>A.out q (BN _ O)) AA AA))
   rw[AZ] at f;have f:=LH f;clear J N z L C t u j m o r M V U;go_wp2_with fail;(with_reducible refine f.out.mono ?_);rintro e R⟨I,v,W,n4,c4,d4,rfl,P⟩;have d:=v.blk E.out (F.out.not_map E.out);have H:=LH (Uw (S':=S) I d P (aa.out.maps_trans v) (.inr rfl) ah (CZ _ _) λq O => .inl O);have c0:R.cell? ⟨w+2,0,none⟩=some (.slice none 0 0):=d.cell 0;have c1:R.cell? ⟨w+2,1,none⟩=some (.bool false):=d.cell 1;have f0:=d.frozen 0;have f1:=d.frozen 1;have l5:=d.lt;clear I v d P p0 t0 l2 l3;go_wp2_with fail;refine AW (AY (p:=6) AB _ _ (w.heap.size+2) 77 #[.slice W n4 c4,.bool d4] (0,0) _ rfl H.out.1 underlying77 rfl AB) rfl ?_;exact H.out.2
section
open Go.Maps (Keyed IsMap Tidy)
theorem Zuf(h:GH)(G:Gr)(w:World)(c:Yf w h G)(f:∀t∈G.terms,t.name.size<=maxLen)(h1:h.n1<=100)(a:h.n2<=100)(b:h.n3<=100):
 Calls prog 57 #[GV h G.start] w (Dh G w):=(Cz h G w c f h1 a b).mono λe w' d=>d.plain
end
theorem tr_Is(h:GH)(G:Gr)(w:World)(E:Yf w h G)(M:∀t∈G.terms,t.name.size<=maxLen)(h1:h.n1<=100)(z:h.n2<=100)(A:h.n3<=100):
 Calls prog 42 #[GV h G.start] w λe w'=>e = .returned (.bool (Q9 G))/\Below w w w':=by
 obtain⟨a1,n1,c1,a2,n2,c2,a3,n3,c3⟩:=h;simp only[] at h1 z A;have x:=LH E;have R:=LH M;have u:=Zy w (.cells #[.slice a1 n1 c1,.slice a2 n2 c2,.slice a3 n3 c3,.int .i64 G.start] 26);have o:=Y1.new w 26 ⟨a1,n1,c1,a2,n2,c2,a3,n3,c3⟩ G.start;clear E M;go_enter func42,ntmps42;have⟨z5,z0,z1,z2,z3⟩:=o;simp only[] at z0 z1 z2 z3;go_wp2_with fail;generalize w.alloc (.cells #[.slice a1 n1 c1,.slice a2 n2 c2,.slice a3 n3 c3,.int .i64 G.start] 26)=S at *;have g:=Zuf ⟨a1,n1,c1,a2,n2,c2,a3,n3,c3⟩ G S (x.out.below u) R.out h1 z A;unfold Dh at g;(with_reducible refine g.mono ?_);rintro e a⟨n,⟨J,U,X,rfl⟩ | ⟨L,V,Ak,nk,ck,rfl,F,Y,Z,m3⟩⟩
 ·have b:=Zz u n;have p:Q9 G=false:=by unfold Q9;rw[J];rfl
  have af:(U==0)=false:=by rw[AQ];exact X
  clear g J z0 z1 z2 z3 z5 o;go_wp2_with fail;go_ret;exact⟨by rw[p];rfl,b.trans ((Zy a _).mono b.size)⟩
 have b:=Zz u n;have B:=o.below n;obtain⟨c,q,j,d,r,k,f,s,l⟩:=V;have p:Q9 G=eqG G (Zi G):=by unfold Q9;rw[L];rfl
 generalize Zi G=H at *;clear g z0 z1 z2 z3 z5 o L;have m:=Zy a (.cells #[.slice c q j,.slice d r k,.slice f s l,.int .i64 H.start] 26);have D:=Y1.new a 26 ⟨c,q,j,d,r,k,f,s,l⟩ H.start;have C:=B.below m;have v:=Zz b m;have I:=F.below m;go_upto_region 2 with fail;generalize a.alloc (.cells #[.slice c q j,.slice d r k,.slice f s l,.int .i64 H.start] 26)=T at *;generalize a.heap.size=gH at *;have y:=tr_Same ⟨a1,n1,c1,a2,n2,c2,a3,n3,c3⟩ ⟨c,q,j,d,r,k,f,s,l⟩ G H T (x.out.below v) I;have N:=LH y;have P:=LH p;have O:=LH v;have⟨y5,y0,y1,y2,y3⟩:=C;simp only[] at y0 y1 y2 y3;have⟨x5,x0,x1,x2,x3⟩:=D;simp only[] at x0 x1 x2 x3;clear y p v C D I m n b B F Y Z m3;go_wp2_with (go_at_call 85;(with_reducible refine N.out.mono ?_);rintro e w6⟨rfl,W⟩);go_ret;exact⟨by rw[P.out];rfl,Zz O.out W⟩
theorem tr_cOf(h:GH)(G:Gr)(Al:Option Addr)(v:Nat)(l:List Int)(n:Int)(w:World)(R:Yf w h G)(o:∀t∈G.terms,t.name.size<=maxLen)(a4:Q2 w)(h1:h.n1<=100)(h2:h.n2<=100)(h3:h.n3<=100)(y:Za .i64 w Al l.length v l)(hi:∀s∈l,U3 s):
 Calls prog 15 #[GV h G.start,.slice Al l.length v,.int .i64 n] w (Xr w (Wi G l n)):=by
 obtain⟨a1,n1,c1,a2,n2,c2,a3,n3,c3⟩:=h;have e1:G.terms.length=n1:=R.terms.len;have e2:G.nons.length=n2:=R.nons.len;simp only[] at h1 h2 h3;have ca:=y.cap;have O:=LH R;have Hl:=LH y;have Hi:=LH hi;have Z:=LH o;have bh:=LH a4;have aa:=Zy w (.cells #[.slice a1 n1 c1,.slice a2 n2 c2,.slice a3 n3 c3,.int .i64 G.start] 26);have ah:=Y1.new w 26 ⟨a1,n1,c1,a2,n2,c2,a3,n3,c3⟩ G.start;clear R y hi o a4;go_enter func15,ntmps15;have⟨z5,z0,z1,z2,z3⟩:=ah;simp only[] at z0 z1 z2 z3;go_upto_region 1 with fail;generalize w.alloc (.cells #[.slice a1 n1 c1,.slice a2 n2 c2,.slice a3 n3 c3,.int .i64 G.start] 26)=W0 at *;have f:=LH (tr_Is ⟨a1,n1,c1,a2,n2,c2,a3,n3,c3⟩ G W0 (O.out.below aa) Z.out h1 h2 h3);have r:=LH aa;have N:=LH ah;have d:(Q9 G=false\/6<l.length\/n<0\/10<n\/(∃s∈l,G.has s=false))->Wi G l n=([],1):=λhh=>by unfold Wi;rw[if_pos hh]
 have P:Hid (∀w',Below w w w'->Wi G l n=([],1)->Xr w (Wi G l n) (.returned (.tuple #[.slice none 0 0,.int .i64 1])) w'):=LH λw' hb he=>by rw[he];exact⟨none,0,rfl,Zq.nil _ _ _ _ AA,hb⟩
 clear aa ah;cases H:Q9 G
 case false =>
  have u:=LH (d (.inl H));rw[H] at f;clear d;go_wp2_with (go_at_call 42;(with_reducible refine f.out.mono ?_);rintro e U⟨rfl,a⟩);go_ret2;exact P.out _ (Zz r.out a) u.out
 rw[H] at f;by_cases bz:6<l.length
 case pos =>
  have u:=LH (d (.inr (.inl bz)));have i1:(6:Int)<(l.length:Int):=AA
  clear d;go_wp2_with (go_at_call 42;(with_reducible refine f.out.mono ?_);rintro e U⟨rfl,a⟩);go_ret2;exact P.out _ (Zz r.out a) u.out
 have i1:¬((6:Int)<(l.length:Int)):=AA
 by_cases hn:0<=n/\n<=10
 case neg =>
  have u:=LH (d (by rcases (AA:n<0\/10<n) with h | h;exact .inr (.inr (.inl h));exact .inr (.inr (.inr (.inl h)))));have E:(decide (0<=n)&&decide (n<=10))=false:=by rw[Bool.and_eq_false_iff,BA,BA];omega
  have p:=λX=>Ld n X;rw[E] at p;have A:=LH p;clear d E p hn;go_wp2_with (first
   | (go_at_call 42;(with_reducible refine f.out.mono ?_);rintro e U⟨rfl,a⟩)
   | (go_at_call 43;(with_reducible refine (A.out _).mono ?_);rintro e w7⟨rfl,rfl⟩))
  go_ret2;exact P.out _ (Zz r.out a) u.out
 obtain⟨m,rfl⟩:∃m:Nat,n=(m:Int):=⟨n.toNat,AA⟩;have hm:m<=10:=AA
 have E:(decide (0<=(m:Int))&&decide ((m:Int)<=10))=true:=by rw[AS,BB,BB];exact hn
 have p:=λX=>Ld (m:Int) X;rw[E] at p;have A:=LH p;have Hr:=LH H;clear E p hn H;have F:(l.any λs=>!G.has s)=!l.all G.has:=by rw[List.all_eq_not_any_not];simp
 have z:Hid (∀W,Below w w W->Y1 W w ⟨a1,n1,c1,a2,n2,c2,a3,n3,c3⟩ G.start->Calls prog 44 #[.slice Al l.length v,.func (.func 45) #[] #[.pointer (some ⟨w,0,none⟩)]] W λe w'=>e = .returned (.bool (!l.all G.has))/\Below W W w'):=LH λW D hX=>by
  have hT:Zyw 45 #[.pointer (some ⟨w,0,none⟩)] (Value.int .i64) W l (λs=>!G.has s):=λs b0 w' a5 =>
   tr_cof1 ⟨a1,n1,c1,a2,n2,c2,a3,n3,c3⟩ G w s w' ((O.out.below D).below a5) (Hi.out s b0) (by simp only[];omega) (by simp only[];omega) (hX.below a5)
  have g:=U1 Al l.length v l 45 _ (λs=>!G.has s) W enters_cof1 (Hl.out.below D) hT;rwa [F] at g
 cases c:l.all G.has
 case false =>
  have u:=LH (d (.inr (.inr (.inr (.inr (by
   rw[List.all_eq_false] at c;obtain⟨s,o,hh⟩:=c;exact⟨s,o,by simpa using hh⟩))))))
  rw[c] at z;clear d c F;go_wp2_with (first
   | (go_at_call 42;(with_reducible refine f.out.mono ?_);rintro e U⟨rfl,a⟩)
   | (go_at_call 43;(with_reducible refine (A.out _).mono ?_);rintro e w7⟨rfl,rfl⟩)
   | (go_at_call 44;(with_reducible refine (z.out _ (Zz r.out a) (N.out.below a)).mono ?_);rintro e w8⟨rfl,x⟩))
  go_ret2;exact P.out _ (Zz (Zz r.out a) x) u.out
 have j:Wi G l (m:Int)=if Vh G≠0 then ([],10) else Xm (Zx (Zv G) l m):=by
  unfold Wi;rw[if_neg]
  ·rfl
  rintro (h | h | h | h | ⟨s,o,h⟩)
  ·rw[Hr.out] at h;cases h
  ·omega
  ·omega
  ·omega
  rw[BG] at c;rw[c s o] at h;cases h
 have bi:=LH (BG.1 c);have av:=LH j;rw[c] at z;clear d c F j;have CY:Hid (∀W,Below w w W->Calls prog 47 #[GV ⟨a1,n1,c1,a2,n2,c2,a3,n3,c3⟩ G.start] W λe w'=>Below W W w'/\e = .returned (.int .u32 ((Vh G:Nat):Int))):=LH λW D =>
  tr_Cycles stepsSaid ⟨a1,n1,c1,a2,n2,c2,a3,n3,c3⟩ G W (O.out.below D) Z.out (bh.out.below D) (by simp only[];omega) (by simp only[];omega) (by simp only[];omega)
 go_wp2_with (first
  | (go_at_call 42;(with_reducible refine f.out.mono ?_);rintro e U⟨rfl,a⟩)
  | (go_at_call 43;(with_reducible refine (A.out _).mono ?_);rintro e w7⟨rfl,rfl⟩)
  | (go_at_call 44
     (with_reducible refine (z.out _ (Zz r.out a) (N.out.below a)).mono ?_);rintro e w8⟨rfl,x⟩;obtain⟨y5,I,J,L,M⟩:=N.out.below (Zz a x);simp only[] at I J L M))
 have V:=LH (Zz (Zz r.out a) x);have ar:=LH (N.out.below (Zz a x));clear a x f z A z0 z1 z2 z3 z5;(with_reducible refine (CY.out _ V.out).mono ?_);rintro e w9⟨ag,rfl⟩;have C:=LH (Zz V.out ag);have bj:=LH (ar.out.below ag);have cb:=Ztq G;have j:=av.out;clear I J L M y5 ag av CY V ar;by_cases g:Vh G=0
 case neg =>
  have Y:=LH j;have i4:(((Vh G:Nat):Int) != 0)=true:=by rw[BM];omega
  have Hc:=LH g;clear j g;go_wp2_with fail;go_ret2;rw[Y.out,if_pos Hc.out];exact⟨none,0,rfl,Zq.nil _ _ _ _ AA,C.out⟩
 have i4:(((Vh G:Nat):Int) != 0)=false:=by rw[g];rfl
 rw[if_neg (by rw[g];simp)] at j;obtain⟨S,a7⟩:=Zzn.1 Hr.out;have T:G.right=true/\(Zt G).getD G.start.toNat false=true:=by unfold Xp at S;rw[AS] at S;exact S
 obtain⟨hP,bx,hO⟩:=U7 T.1 T.2 a7 g;have Y:=LH j;have HP:=LH hP;have ai:=O.out.below C.out;have CS:=LH (tr_start ⟨a1,n1,c1,a2,n2,c2,a3,n3,c3⟩ G w9 ai Z.out (by simp only[];omega) (by simp only[];omega) (by simp only[];omega) T.1);have a6:∀s∈l,-(n2:Int)<=s/\s<=1000:=λs o=>by
  have:=H7 (bi.out s o);rw[e1,e2] at this;omega
 have CF:Hid (∀k:CH,ForC w9 k ⟨a1,n1,c1,a2,n2,c2,a3,n3,c3⟩ G Al l.length v l m):=LH λk=>tr_forest (k:=k) hP ai (by simp only[];omega) (by simp only[];omega) l Al v m (Hl.out.below C.out) a6 AA AA;have⟨y5,I,J,L,M⟩:=bj.out;simp only[] at I J L M;clear j S a7 T hP bx hO g ai a6;generalize Vh G=cy at *;go_wp2_with fail;(with_reducible refine CS.out.mono ?_);rintro e ce⟨af,k,rfl,ab⟩;have an:=LH (CF.out k _ _ ab (λb hb=>hb.elim));have aq:=LH (Zz C.out af);have a8:=ab.low;clear I J L M y5 CS CF ab;have bm:=LH a8;have b8:=LH af;clear a8 af;go_wp2_with fail;(with_reducible refine an.out.mono ?_);rintro e b4⟨bs,a0,A5,k5,c5,b5,rfl,hv⟩;have be:=LH (aq.out.trans ((a0.is_below (B:=w.heap.size) aq.out.size λq F=>by
  have h9:=C.out.size;have y:=bm.out;rcases F with rfl | rfl
  ·exact BD h9 y.1
  exact BD h9 y.2)))
 clear bs a0 an;go_wp2_with fail;(with_reducible refine (tr_told A5 k5 c5 b5 _ b4 hv).mono ?_);rintro e cf⟨A6,c6,rfl,a9,a⟩;have bg:=LH a9;have bf:=LH (Zz be.out a);clear hv a9 a;generalize Xm (Zx (Zv G) l m)=cd at *;go_wp2_with fail;go_ret2;rw[Y.out];exact⟨A6,c6,rfl,bg.out,bf.out⟩
section
open Go.Maps (Keyed IsMap Tidy)
open Go.Maps (Keyed IsMap Tidy)
theorem Zzz(hB:BkG W0 h G){n:Nat}(hk:J1 l n)(hh:∀s∈l,G.has s=true)(S:Nat->Prop)(w:World)(Al:Option Addr)(cl:Nat)(C:Wd W0 k h G S w)(hS:∀b,S b->b<w.heap.size)(hl:Za .i64 w Al l.length cl l):
 Calls prog 125 #[.pointer (some ⟨k.c,0,none⟩),.slice Al l.length cl,.int .i64 (n:Int)] w (Zuw W0 k h G S w (Zx (Zv G) l n)):=by
 have fg:=hl.cap;have fk:=hk.len;have dm:=hk.n;have a7:=Zy w (.cells #[.slice none 0 0,.bool false] 174);have cb:=Blk.new w 174 #[.slice none 0 0,.bool false];have b8:=C.more a7 (AJ w.heap.size);have T:=LH hB;have HK:=LH hk;have Hh:=LH hh;have HS:=LH hS;have bb:=LH (hl.below a7);have bf:=LH cb;have bp:=LH b8;have bw:Hid (Off k.map w (w.alloc (.cells #[.slice none 0 0,.bool false] 174))):=LH (Off.of_below a7);have cf:W0.heap.size<=w.heap.size:=C.base.size;clear hB hk hh C hS hl cb b8;go_enter func125,ntmps125;go_upto_region 1 with fail;generalize w.alloc (.cells #[.slice none 0 0,.bool false] 174)=J at *;have c8:Hid ((prog.info? 5).map (λi=>(i.zero,i.size,i.bytes))=some (some (.int .u8 0),1,1)):=LH AB;have b3:Hid (J.ownsRow J.heap.size 5 1 (.slice none 0 0) 0 (nums .u8 (Vr (l.take 0)))):=LH (BJ _ _ _ _);clear a7;go_wp2_with fail;go_loopw [7,16] (λv i wr=>∃(q:Nat) (A:Option Addr) (c:Nat),q<=l.length/\i = .int .i64 (q:Int)/\v = .slice A q c/\Hid (wr.ownsRow J.heap.size 5 1 (.slice A q c) q (nums .u8 (Vr (l.take q))))/\Hid (Below J.heap.size J wr)) (λ_ i _=>l.length-(intOf i).toNat)
 case atStart=>exact⟨0,none,0,AV _,rfl,rfl,b3,LH (AL _ _)⟩
 clear b3;obtain⟨q,A,c,hq,rfl,rfl,Ho,E⟩:=hrel;have av:J.heap.size<=wr.heap.size:=E.out.size;by_cases dn:q<l.length
 case pos =>
  obtain⟨lb,lo,s,rfl,fj,b4,cs⟩:=(bb.out.below E.out).get dn;obtain⟨s1,s2⟩:=HK.out.sym s (AM b4.out);obtain⟨m,hm⟩:∃m:Nat,s+16=(m:Int):=⟨(s+16).toNat,AA⟩;have fl:IntKind.i64.wrap (s+16)=(m:Int):=by rw[hm];exact BS _ AA
  have fm:IntKind.u8.wrap (m:Int)=(m:Int):=IntWalk.u8_in _ AA;have da:Hid (Vr (l.take (q+1))=Vr (l.take q)++[m]):=LH (by rw[symT_snoc b4.out,show (s+16).toNat=m by omega]);clear hm;go_wp2_with (first
   | (at_builtin;refine Ye rfl _ _ 72 rfl J.heap.size 5 _ 1 1 underlying72 c8.out AC AC A q c (nums .u8 (Vr (l.take q))) rfl Ho.out [.int .u8 (m:Int)] rfl rfl (by simp[Value.oneCell']) AA AA av ?_;intro A5 c5 w5 ho hg ha
      have cw:=LH (E.out.trans ((Off.of_grown hg).is_below av λk hk=>(Ho.out.lt k hk).1));have c9:Hid (w5.ownsRow J.heap.size 5 1 (.slice A5 (q+1) c5) (q+1) (nums .u8 (Vr (l.take (q+1))))):=LH (by
       rw[da.out,show nums .u8 (Vr (l.take q)++[m])=nums .u8 (Vr (l.take q))++[.int .u8 (m:Int)] by simp[nums]];exact ho)
      clear ho hg ha))
  go_roundw
  case rel=>exact⟨q+1,A5,c5,AA,AF,rfl,c9,cw⟩
  simp[intOf] <;> omega
 obtain rfl:q=l.length:=AA
 have cp:Zq .u8 wr A l.length c (Vr l):=by
  have h1:=Yl Ho.out;rw[List.take_length] at h1;exact h1
 have bm:(Vr l).length=l.length:=by unfold Vr;rw[BF]
 have b2:Hid ((convert 72 9 (.slice A l.length c)).run prog wr = .ok (.string (str (Vr l))) wr):=LH (by
  have:=Ux wr 72 5 9 underlying72 underlying5 underlying9 A c (Vr l) (by rw[bm];exact cp);rwa [bm] at this)
 have dj:=b2.out;have au:=Zy wr (.cells #[.string (str (Vr l)),.int .i64 (n:Int)] 223);have aq:=Blk.new wr 223 #[.string (str (Vr l)),.int .i64 (n:Int)];have aa:=LH ((bp.out.below E.out).below au);have be:=LH ((bw.out.map_trans (Off.of_below E.out)).map_trans (Off.of_below au));have bg:=LH ((bf.out.ext E.out).ext au);have br:=LH ((bb.out.below E.out).below au);have dl:w.heap.size<wr.heap.size:=(bf.out.ext E.out).lt;go_upto_region 8 with fail;clear dj b2 cp bm Ho E au bp bw bf bb;generalize wr.alloc (.cells #[.string (str (Vr l)),.int .i64 (n:Int)] 223)=r at *;generalize wr.heap.size=B at *;have b1:=LH aq;obtain⟨ts,W⟩:=aa.out.known;have F:=W.look HK.out;unfold kB at F;have H:=aa.out.box.lt;have Y:r.cell? ⟨k.c,4,none⟩=some (.map (some k.t)):=aa.out.box.cell 4;have N:r.cell? ⟨B,0,none⟩=some (.string (str (Vr l))):=aq.cell 0;have O:r.cell? ⟨B,1,none⟩=some (.int .i64 (n:Int)):=aq.cell 1;have P:=aq.lt;have bc:=Yt r;clear aq W;rcases F with ⟨bv,F,hv,di⟩ | F
 case inl =>
  as_aux_lemma =>
   obtain⟨Av,nv,cv,dv,V,aw⟩:=hv;refine Zs AB AB ?_;repeat (go_big_quiet_step (fail))
   refine BK ?_;rintro _⟨y,rfl⟩;have j:=Zr r y;have x:=LH (aa.out.below j);have aj:=LH (be.out.map_trans (Off.of_below j));have o:=bg.out.ext j;have a8:=V.ext j;have cy:=LH (aw.below j);have ak:=LH (Zxm (S:=S) x.out o cy.out aj.out (.inr rfl) cf (AJ _) λq hq => .inl hq);have c0:(bl r y).cell? ⟨w.heap.size,0,none⟩=some (.slice none 0 0):=o.cell 0;have c1:(bl r y).cell? ⟨w.heap.size,1,none⟩=some (.bool false):=o.cell 1;have f0:=o.frozen 0;have f1:=o.frozen 1;have l5:=o.lt;have v0:(bl r y).cell? ⟨bv,0,none⟩=some (.slice Av nv cv):=a8.cell 0;have v1:(bl r y).cell? ⟨bv,1,none⟩=some (.bool dv):=a8.cell 1;have l6:=a8.lt;clear F V aw bc j o a8 H Y N O P x aj;generalize bl r y=W3 at *;go_wp2_with fail;refine AW (AY (p:=6) AB _ _ w.heap.size 174 #[.slice Av nv cv,.bool dv] (0,0) _ rfl ak.out.1 underlying174 rfl AB) rfl ?_;exact ak.out.2
 refine Zs AB AB ?_;repeat (go_big_quiet_step (fail))
 refine BK ?_;rintro _⟨y,rfl⟩;have j:=Zr r y;have x:=LH (aa.out.below j);have aj:=LH (be.out.map_trans (Off.of_below j));have b0:=LH (bg.out.ext j);have bt:=LH (b1.out.ext j);have bs:=LH (br.out.below j);have fh:w.heap.size<B:=dl;clear F bc j H Y N O P aa be bg b1 br;generalize bl r y=W3 at *;obtain⟨gc,M⟩:=k;obtain⟨a1,n1,c1,a2,n2,c2,a3,n3,c3⟩:=h;have H:=x.out.box.lt;have k0:W3.cell? ⟨gc,0,none⟩=some (.slice a1 n1 c1):=x.out.box.cell 0;have k1:W3.cell? ⟨gc,1,none⟩=some (.slice a2 n2 c2):=x.out.box.cell 1;have k2:W3.cell? ⟨gc,2,none⟩=some (.slice a3 n3 c3):=x.out.box.cell 2;have k3:W3.cell? ⟨gc,3,none⟩=some (.int .i64 G.start):=x.out.box.cell 3;have bj:=x.out.base;have co:=Zua T.out.told (l:=l) (n:=n) HK.out.len dm Hh.out;have h1:=T.out.n1;have h2:=T.out.n2;have h3:=T.out.n3;simp only[] at h1 h2 h3;have Z:=tr_cOf ⟨a1,n1,c1,a2,n2,c2,a3,n3,c3⟩ G Al cl l (n:Int) W3 (T.out.at_.below bj) T.out.names (T.out.tab.below bj) (by simp only[];omega) (by simp only[];omega) (by simp only[];omega) bs.out (λs hs=>by have:=HK.out.sym s hs;unfold U3;omega);rw[co] at Z;obtain⟨R,er,bq,cd,ff,cq⟩:=fit_val (Zx (Zv G) l n);rw[cd] at Z;have Z:=LH Z;have b5:=LH cq;clear co bj cd cq;go_upto_region 12 with (
  go_at_call 15;(with_reducible refine Z.out.mono ?_);rintro e U⟨I,L,rfl,cm,ar⟩)
 have ab:=LH (x.out.below ar);have bx:=LH (aj.out.map_trans (Off.of_below ar));have az:=LH (b0.out.ext ar);have ad:=LH (bt.out.ext ar);have bu:=LH cm;clear Z H k0 k1 k2 k3 cm ar x aj b0 bt bs;have H:=ab.out.box.lt;have Y:U.cell? ⟨gc,4,none⟩=some (.map (some M)):=ab.out.box.cell 4;have N:U.cell? ⟨B,0,none⟩=some (.string (str (Vr l))):=ad.out.cell 0;have O:U.cell? ⟨B,1,none⟩=some (.int .i64 (n:Int)):=ad.out.cell 1;have P:=ad.out.lt;have dr:=az.out.lt;refine Xh (λX=>Below U.heap.size U X) (λX X'=>Below X.heap.size X X') (λu=>(⟨(.pointer (some ⟨gc,0,none⟩) :: .slice Al l.length cl :: .int .i64 (n:Int)::undef::undef::undef :: .pointer (some ⟨w.heap.size,0,none⟩) :: .slice A l.length c::undef::u9 :: .pointer (some ⟨B,0,none⟩) :: .pointer none :: .slice I R.length L :: .int .i64 (er:Int) :: .slice Al l.length cl :: .int .i64 (l.length:Int) :: .int .i64 (l.length:Int) :: .bool false::u18::u19::u20::u21::u22::u23::u24::u25::u26 :: .slice A l.length c :: .string (str (Vr l)) :: .int .i64 (n:Int) :: .agg #[.string (str (Vr l)),.int .i64 (n:Int)] :: .pointer (some ⟨gc,0,none⟩) :: .pointer (some ⟨gc,0,none⟩) :: .pointer (some ⟨gc,4,none⟩) :: .map (some M) :: .agg #[.string (str (Vr l)),.int .i64 (n:Int)] :: .pointer none :: .pointer none :: .bool false::undef::undef::undef :: .tuple #[.slice I R.length L,.int .i64 (er:Int)] :: .pointer (some ⟨gc,0,none⟩) :: .pointer (some ⟨gc,0,none⟩) :: .pointer (some ⟨gc,0,none⟩) :: .agg #[.slice a1 n1 c1,.slice a2 n2 c2,.slice a3 n3 c3,.int .i64 G.start] :: .slice Al l.length cl :: .int .i64 (n:Int) :: .tuple #[.slice I R.length L,.int .i64 (er:Int)] :: .slice I R.length L :: .int .i64 (er:Int)::u 0::u 1::u 2::u 3::u 4::u 5::u 6::u 7::u 8::u 9::undef::undef::undef::undef::undef::undef::undef::undef::[]).toArray,[]⟩:Act)) [undef,undef,undef,undef,undef,undef,undef,undef,undef,undef] [λv X=>v = .pointer (some ⟨gc,0,none⟩),λv X=>v = .pointer (some ⟨gc,0,none⟩),λv X=>v = .pointer (some ⟨gc,4,none⟩),λv X=>v = .map (some M),λv X=>v = .agg #[.string (str (Vr l)),.int .i64 (n:Int)],λv X=>v = .slice I R.length L,λv X=>v = .int .i64 (er:Int),λv X=>v = .bool bq,λv X=>v = .agg #[.slice I R.length L,.bool bq],λv X=>∃D,v=Value.pointer (some ⟨D,0,none⟩)/\U.heap.size<=D/\Blk X D 174 #[.slice I R.length L,.bool bq]] (λu X=>∃D ts,Wd W0 ⟨gc,M⟩ ⟨a1,n1,c1,a2,n2,c2,a3,n3,c3⟩ G (λb=>S b\/b=w.heap.size) X/\Off (BkH.map ⟨gc,M⟩) U X/\Gk X M G (λb=>S b\/b=w.heap.size) (((l,n),D)::ts)) (l:=[_,_,_,_,_,_,_,_,_,_]) AB AB AB rfl rfl (AL _ _).drew ⟨AI,AI,AI,AI,AI,AI,AI,AI,AI,(λ_ _ _ ⟨g,e,h,h2⟩ hb=>⟨g,e,h,Blk.ext h2 hb⟩),trivial⟩ ?_ ?_ ?_
 ·refine Zk.con (λQ u X a d KK f=>?_) ?_
  ·go_simp;exact f _ _ a (AL _ _) rfl
  refine Zk.con (λQ u X a d KK f=>?_) ?_
  ·have p0:u 0=_:=d 0 rfl;clear d;rw[p0] at f⊢;go_simp;exact f _ _ a (AL _ _) rfl
  refine Zk.con (λQ u X a d KK f=>?_) ?_
  ·have p1:u 1=_:=d 1 rfl;clear d;rw[p1] at f⊢;go_simp;exact f _ _ a (AL _ _) rfl
  refine Zk.con (λQ u X a d KK f=>?_) ?_
  ·have p2:u 2=_:=d 2 rfl;clear d;rw[p2] at f⊢;have dc:=(a.cell (p:=⟨gc,4,none⟩) H).trans Y;go_simp;exact f _ _ a (AL _ _) rfl
  refine Zk.con (λQ u X a d KK f=>?_) ?_
  ·have dc:=(a.cell (p:=⟨B,0,none⟩) P).trans N;have fc:=(a.cell (p:=⟨B,1,none⟩) P).trans O;go_simp;exact f _ _ a (AL _ _) rfl
  iterate 2
   refine Zk.con (λQ u X a d KK f=>?_) ?_
   ·go_simp;exact f _ _ a (AL _ _) rfl
  refine Zk.con (λQ u X a d KK f=>?_) ?_
  ·have p6:u 6=_:=d 6 rfl;clear d;rw[p6] at f⊢;go_simp;exact f _ _ a (AL _ _) rfl
  refine Zk.con (λQ u X a d KK f=>?_) ?_
  ·have p5:u 5=_:=d 5 rfl;have p7:u 7=_:=d 7 rfl;clear d;rw[p5,p7] at f⊢;go_simp;exact f _ _ a (AL _ _) rfl
  refine Zk.con (λQ u X a d KK f=>?_) ?_
  ·have p8:u 8=_:=d 8 rfl;clear d;rw[p8] at f⊢;go_simp;exact f _ _ (Zo a _) (Zy _ _) ⟨_,rfl,a.size,Blk.new _ _ _⟩
  exact Zk.nil
 ·intro Q u X a d KK f;have p3:u 3=_:=d 3 AC;have p4:u 4=_:=d 4 AC;obtain⟨D,p9,fi,av⟩:=d 9 AC;clear d;generalize u 3=x3 at *;subst p3;generalize u 4=x4 at *;subst p4;generalize u 9=x9 at *;subst p9;have bi:=ab.out.below a;obtain⟨ts,W⟩:=bi.known;have cg:U4 prog 223 (kB l n):=Zs6 AA AA;obtain⟨w',dp,ck,ch⟩:=W.map.put (b:=D) Tryz.keyKB underlying168 W.few cg;have a9:=bi.put W HK.out ⟨I,R.length,L,bq,av,b5.out _ _ _ (bu.out.below a)⟩ (by rintro (h | h);exact absurd (HS.out _ h) AA;omega) ck ch;have c6:=LH (And.intro a9.1 (And.intro ((Off.of_below a).trans a9.2.1 λ_ _ h=>h) a9.2.2));unfold kB at dp;clear a9 ck ch cg W bi av;go_simp;exact f (λi=>([u 0,u 1,u 2,.map (some M),.agg #[.string (str (Vr l)),.int .i64 (n:Int)],u 5,u 6,u 7,u 8,Value.pointer (some ⟨D,0,none⟩)]:List Value).getD i undef) _ (⟨D,ts,c6.out⟩)
 intro u z dk;obtain⟨D,ts,b9,a6,cc⟩:=dk;have ay:=LH b9;have bz:=LH (bx.out.map_trans a6);have cz:=LH (a6.blk az.out (ab.out.not_map az.out));have bd:=LH (a6.blk ad.out (ab.out.not_map ad.out));obtain⟨bv,F,hv,di⟩:=cc.there (AX ..);obtain⟨Av,nv,cv,dv,V,aw⟩:=hv;unfold kB at F;clear H Y N O P dr b9 a6 cc ab bx az ad bu b5;have H:=ay.out.box.lt;have Y:z.cell? ⟨gc,4,none⟩=some (.map (some M)):=ay.out.box.cell 4;have N:z.cell? ⟨B,0,none⟩=some (.string (str (Vr l))):=bd.out.cell 0;have O:z.cell? ⟨B,1,none⟩=some (.int .i64 (n:Int)):=bd.out.cell 1;have P:=bd.out.lt;have v0:z.cell? ⟨bv,0,none⟩=some (.slice Av nv cv):=V.cell 0;have v1:z.cell? ⟨bv,1,none⟩=some (.bool dv):=V.cell 1;have vl:=V.lt;have bc:=Yt z;go_upto_region 13 with fail;refine Yx 8 AB AB ?_;simp only[List.take_succ_cons,List.take_zero,List.drop_succ_cons,Ee];repeat (go_big_quiet_step (fail))
 refine BK ?_;rintro _⟨y,rfl⟩;have j:=Zr z y;have o:=cz.out.ext j;have ak:=LH (Zxm (S:=S) (ay.out.below j) o (aw.below j) (bz.out.map_trans (Off.of_below j)) (.inr rfl) cf (AJ _) λq hq => .inl hq);have d0:(bl z y).cell? ⟨w.heap.size,0,none⟩=some (.slice none 0 0):=o.cell 0;have d1:(bl z y).cell? ⟨w.heap.size,1,none⟩=some (.bool false):=o.cell 1;have f0:=o.frozen 0;have f1:=o.frozen 1;have l5:=o.lt;clear F V aw bc j o H Y N O P v0 v1 vl ay bz;generalize bl z y=WZ at *;go_wp2_with fail;refine AW (AY (p:=6) AB _ _ w.heap.size 174 #[.slice Av nv cv,.bool dv] (0,0) _ rfl ak.out.1 underlying174 rfl AB) rfl ?_;exact ak.out.2
end
theorem tr_pair(hB:BkG W0 h G){s:Int}{kk n:Nat}(hk:J1 (s::l) n)(dy:kk<=n)(hh:∀x∈s::l,G.has x=true)(S:Nat->Prop)(w:World)(A:Option Addr)(c:Nat)(C:Wd W0 k h G S w)(hS:∀b,S b->b<w.heap.size)(hl:Za .i64 W0 A (s::l).length c (s::l)):
 Calls prog 176 #[.pointer (some ⟨k.c,0,none⟩),.slice A (s::l).length c,.int .i64 (kk:Int),.int .i64 (n:Int)] w (Zuw W0 k h G S w (Zx (Zv G) [s] kk*Zx (Zv G) l (n-kk))):=by
 have b1:=hl.cap;have c5:=hk.len;have d4:=hk.n;obtain⟨ab,ao,_,rfl,_,_,_⟩:=hl.get (j:=0) AE;have bg:=hl.tail1;rw[show (s::l).length-1=l.length from rfl] at bg;obtain⟨At,cz⟩:∃At:Option Addr,(if c=1 then some (⟨ab,ao,none⟩:Addr) else some ⟨ab,ao+1,none⟩)=At:=⟨_,rfl⟩;rw[cz] at bg;have dx:(1:Int)<=(c:Int):=by simp at b1;omega
 have cf:=hl.take 1 c AE (by simp at b1;omega) b1.2;have K1:Hid (J1 [s] kk):=LH ⟨λx O=>hk.sym x (by simp at O ⊢;exact .inl O),AE,AA⟩;have K2:Hid (J1 l (n-kk)):=LH ⟨λx O=>hk.sym x (.tail _ O),by simp at c5;omega,AA⟩;have H1:Hid (∀x∈[s],G.has x=true):=LH λx O=>hh x (by simp at O ⊢;exact .inl O);have H2:Hid (∀x∈l,G.has x=true):=LH λx O=>hh x (.tail _ O);have b0:=(Zy w (.cells #[.slice none 0 0,.bool false] 174)).drew;have bz:=(Blk.new w 174 #[.slice none 0 0,.bool false]).drew;have ci:=C.more b0 (AJ w);have HB:=LH hB;have cq:Hid (Za .i64 W0 (some ⟨ab,ao,none⟩) [s].length c [s]):=LH (by simpa using cf);have cr:=LH bg;have HM:Hid (PM W0 k h G (λb=>S b\/b=w.heap.size) w w (λ_=>false) (λi=>([]:List Value).getD i undef) (w.alloc (.cells #[.slice none 0 0,.bool false] 174)).drew):=LH ⟨⟨_,ci,λq h=>h,λq R=>by
  have:=bz.lt;rcases R with R | rfl
  ·have:=hS q R;omega
  omega,nofun,nofun⟩,Off.of_below b0,bz,nofun⟩
 have b2:W0.heap.size<=w.heap.size:=C.base.size;have HS:=LH hS;clear hB hk hh C hS hl bz ci b0 cf bg;go_enter func176,ntmps176;go_upto_region 1 with fail;refine wp_region_free (Γ:=Unit) (λ_ b u X=>PM W0 k h G (λb=>S b\/b=w.heap.size) w w b u X) (λX X'=>Zf X X') () (λu=>(⟨(.pointer (some ⟨k.c,0,none⟩) :: .slice (some ⟨ab,ao,none⟩) (l.length+1) c :: .int .i64 (kk:Int) :: .int .i64 (n:Int)::undef::undef::undef::undef :: .pointer (some ⟨w,0,none⟩)::u 12::u 13::undef::undef::u 0::u 1::u 2::u 3::u 4::u 5::u 6::u 7::u 8::u 9::u 10::u 11::undef::undef::undef::undef::undef::undef::undef::undef::undef::undef::undef::undef::undef::undef::undef::undef::undef::undef::undef::undef::undef::undef::undef::undef::undef::undef::undef::undef::undef::undef::undef::undef::undef::undef::undef::undef::undef::undef::undef::undef::undef::[]).toArray,[]⟩:Act)) [] [λv X=>v = .pointer (some ⟨k.c,0,none⟩),λv X=>v = .slice (some ⟨ab,ao,none⟩) (l.length+1) c,λv X=>v = .slice (some ⟨ab,ao,none⟩) 1 c,λv X=>v = .int .i64 (kk:Int),λv X=>∃z n1 c1 L,v = .agg #[.slice z n1 c1,.bool L]/\Z1 X z n1 c1 L (Zx (Zv G) [s] kk),λv X=>v = .pointer (some ⟨k.c,0,none⟩),λv X=>v = .slice (some ⟨ab,ao,none⟩) (l.length+1) c,λv X=>v = .slice At l.length (c-1),λv X=>v = .int .i64 (n:Int),λv X=>v = .int .i64 (kk:Int),λv X=>v = .int .i64 ((n-kk:Nat):Int),λv X=>∃z n1 c1 L,v = .agg #[.slice z n1 c1,.bool L]/\Z1 X z n1 c1 L (Zx (Zv G) l (n-kk)),λv X=>True,λv X=>True,λv X=>True,λv X=>True] (l:=[_,_,_,_,_,_,_,_,_,_,_,_,_,_,_,_]) AB AB rfl HM ⟨AI,AI,AI,AI,(λv X X' ⟨z,n1,c1,L,e,h⟩ hb=>⟨z,n1,c1,L,e,h.kept hb⟩),AI,AI,AI,AI,AI,AI,(λv X X' ⟨z,n1,c1,L,e,h⟩ hb=>⟨z,n1,c1,L,e,h.kept hb⟩),AI,AI,AI,AI,trivial⟩ ?_ ?_
 ·refine Zw.con (λQ g b u X f H a d K m=>?_) ?_
  ·have t:=λv=>a.idle 0 v AC;clear a f;clear d;go_simp;exact m _ () _ ⟨AJ _,λ_ _ _=>rfl⟩ (t _) (rfl)
  refine Zw.con (λQ g b u X f H a d K m=>?_) ?_
  ·have t:=λv=>a.idle 1 v AC;clear a f;clear d;go_simp;exact m _ () _ ⟨AJ _,λ_ _ _=>rfl⟩ (t _) (rfl)
  refine Zw.con (λQ g b u X f H a d K m=>?_) ?_
  ·have p1:u 1=_:=(d 1 rfl).2;have t:=λv=>a.idle 2 v AC;clear a f;clear d;rw[p1] at m⊢;go_simp;exact m _ () _ ⟨AJ _,λ_ _ _=>rfl⟩ (t _) (rfl)
  refine Zw.con (λQ g b u X f H a d K m=>?_) ?_
  ·have t:=λv=>a.idle 3 v AC;clear a f;clear d;go_simp;exact m _ () _ ⟨AJ _,λ_ _ _=>rfl⟩ (t _) (rfl)
  refine Zw.con (λQ g b u X f H a d K m=>?_) ?_
  ·have p0:u 0=_:=(d 0 rfl).2;have p2:u 2=_:=(d 2 rfl).2;have p3:u 3=_:=(d 3 rfl).2;have ap:b 14=false:=f.no H AB;obtain⟨S2,al,bb,bw⟩:=a.asked 4 (.inl ⟨rfl,ap⟩);have CC:Calls prog 125 #[.pointer (some ⟨k.c,0,none⟩),.slice (some ⟨ab,ao,none⟩) 1 c,.int .i64 (kk:Int)] X _:=Zzz HB K1 H1 S2 X _ _ al bb (cq.below al.base);clear a f;clear d;rw[p0,p2,p3] at m⊢;go_simp;go_at_call 125;refine CC.mono ?_;rintro e X'⟨bv,a6,z,n1,c1,L,rfl,hv⟩;go_simp;exact m _ () _ (al.keep a6) (bw _ _ bv a6) ⟨z,n1,c1,L,rfl,hv⟩
  refine Zw.con (λQ g b u X f H a d K m=>?_) ?_
  ·have t:=λv=>a.idle 5 v AC;clear a f;clear d;go_simp;exact m _ () _ ⟨AJ _,λ_ _ _=>rfl⟩ (t _) (rfl)
  refine Zw.con (λQ g b u X f H a d K m=>?_) ?_
  ·have t:=λv=>a.idle 6 v AC;clear a f;clear d;go_simp;exact m _ () _ ⟨AJ _,λ_ _ _=>rfl⟩ (t _) (rfl)
  refine Zw.con (λQ g b u X f H a d K m=>?_) ?_
  ·have p6:u 6=_:=(d 6 rfl).2;have dz:(1:Int)<=(l.length:Int)+1:=AA
   have t:=λv=>a.idle 7 v AC;clear a f;clear d;generalize u 6=x6 at *;subst p6;go_simp;exact m _ () _ ⟨AJ _,λ_ _ _=>rfl⟩ (t _) (rfl)
  refine Zw.con (λQ g b u X f H a d K m=>?_) ?_
  ·have t:=λv=>a.idle 8 v AC;clear a f;clear d;go_simp;exact m _ () _ ⟨AJ _,λ_ _ _=>rfl⟩ (t _) (rfl)
  refine Zw.con (λQ g b u X f H a d K m=>?_) ?_
  ·have t:=λv=>a.idle 9 v AC;clear a f;clear d;go_simp;exact m _ () _ ⟨AJ _,λ_ _ _=>rfl⟩ (t _) (rfl)
  refine Zw.con (λQ g b u X f H a d K m=>?_) ?_
  ·have p8:u 8=_:=(d 8 rfl).2;have p9:u 9=_:=(d 9 rfl).2;have hw:IntKind.i64.wrap ((n:Int)-(kk:Int))=((n-kk:Nat):Int):=by rw[BS _ AA];omega
   have t:=λv=>a.idle 10 v AC;clear a f;clear d;generalize u 8=x8 at *;subst p8;generalize u 9=x9 at *;subst p9;go_simp;exact m _ () _ ⟨AJ _,λ_ _ _=>rfl⟩ (t _) (by first | rfl | rw[hw])
  refine Zw.con (λQ g b u X f H a d K m=>?_) ?_
  ·have p5:u 5=_:=(d 5 rfl).2;have p7:u 7=_:=(d 7 rfl).2;have dc:u 10=_:=(d 10 rfl).2;have ap:b 15=false:=f.no H AB;obtain⟨S2,al,bb,bw⟩:=a.asked 11 (.inr ⟨rfl,ap⟩);have CC:Calls prog 125 #[.pointer (some ⟨k.c,0,none⟩),.slice At l.length (c-1),.int .i64 ((n-kk:Nat):Int)] X _:=Zzz HB K2 H2 S2 X _ _ al bb (cr.below al.base);clear a f;clear d;rw[p5,p7,dc] at m⊢;go_simp;go_at_call 125;refine CC.mono ?_;rintro e X'⟨bv,a6,z,n1,c1,L,rfl,hv⟩;go_simp;exact m _ () _ (al.keep a6) (bw _ _ bv a6) ⟨z,n1,c1,L,rfl,hv⟩
  refine Zw.con (λQ g b u X f H a d K m=>?_) ?_
  ·have ap:b 14=false:=f.no H AB;have t:=a.made 12 (.inl ⟨rfl,ap⟩);clear a f;clear d;go_simp;exact m _ () _ (.of_below (Zy _ _)) t trivial
  refine Zw.con (λQ g b u X f H a d K m=>?_) ?_
  ·have ap:b 15=false:=f.no H AB;have t:=a.made 13 (.inr ⟨rfl,ap⟩);clear a f;clear d;go_simp;exact m _ () _ (.of_below (Zy _ _)) t trivial
  refine Zw.con (λQ g b u X f H a d K m=>?_) ?_
  ·obtain⟨z,n1,c1,L,p4,hv⟩:=(d 4 rfl).2;obtain⟨gC,A0,n0,c0,d0,dd,P,a8⟩:=a.wrote 14 12 4 (.inl ⟨rfl,rfl,rfl⟩) (d 12 rfl).1 p4 (AJ _) b2;clear d a f;generalize u 12=fd at *;subst dd;generalize u 4=x4 at *;subst p4;have y0:=P.cell 0;have y1:=P.cell 1;have y2:=P.frozen 0;have y3:=P.frozen 1;have y4:=P.lt;clear P;go_simp;exact m undef () _ (a8 undef).2 (a8 undef).1 trivial
  refine Zw.con (λQ g b u X f H a d K m=>?_) ?_
  ·obtain⟨z,n1,c1,L,cl,hv⟩:=(d 11 rfl).2;obtain⟨gC,A0,n0,c0,d0,de,P,a8⟩:=a.wrote 15 13 11 (.inr ⟨rfl,rfl,rfl⟩) (d 13 rfl).1 cl (AJ _) b2;clear d a f;generalize u 13=fe at *;subst de;generalize u 11=fc at *;subst cl;have y0:=P.cell 0;have y1:=P.cell 1;have y2:=P.frozen 0;have y3:=P.frozen 1;have y4:=P.lt;clear P;go_simp;exact m undef () _ (a8 undef).2 (a8 undef).1 trivial
  exact Zw.nil
 intro _ b u J a7 a hd;obtain⟨z,n1,c1,L,e4,b5⟩:=hd 4 AC;obtain⟨A2,n2,c2,d2,bt,b6⟩:=hd 11 AC;obtain⟨⟨S2,hC,b4,bb,cd,ce⟩,hO,hR,c7⟩:=a;obtain⟨g1,B1,m1,k1,q1,b9,c9,dm,X1,t1⟩:=cd (a7 12 AC);obtain⟨g2,B2,m2,k2,q2,ca,da,dn,X2,t2⟩:=ce (a7 13 AC);have t1:=e4.symm.trans (t1 (a7 14 AC));have t2:=bt.symm.trans (t2 (a7 15 AC));injection t1 with t1;injection t2 with t2;simp only[Array.mk.injEq,List.cons.injEq,Value.slice.injEq,Value.bool.injEq,and_true] at t1 t2;obtain⟨⟨rfl,rfl,rfl⟩,rfl⟩:=t1;obtain⟨⟨rfl,rfl,rfl⟩,rfl⟩:=t2;rw[e4,bt,b9,ca];clear c7 cd ce a7 hd HM e4 bt b9 ca;clear t1 t2;generalize u 0=z0 at *;generalize u 1=z1 at *;generalize u 2=z2 at *;generalize u 3=z3 at *;generalize u 5=z5 at *;generalize u 6=z6 at *;generalize u 7=z7 at *;generalize u 8=z8 at *;generalize u 9=z9 at *;generalize u 10=fp at *;clear u;have bl:J.cell? ⟨g1,0,none⟩=some (.slice z n1 c1):=X1.cell 0;have bm:J.cell? ⟨g1,1,none⟩=some (.bool L):=X1.cell 1;have bn:J.cell? ⟨g2,0,none⟩=some (.slice A2 n2 c2):=X2.cell 0;have bo:J.cell? ⟨g2,1,none⟩=some (.bool d2):=X2.cell 1;have bp:=X1.lt;have br:=X2.lt;have r0:J.cell? ⟨w,0,none⟩=some (.slice none 0 0):=hR.cell 0;have r1:J.cell? ⟨w,1,none⟩=some (.bool false):=hR.cell 1;have f0:=hR.frozen 0;have f1:=hR.frozen 1;have l0:=hR.lt;have HC:=LH hC;have HO:=LH hO;have HR:=LH hR;have bc:=LH X1;have bd:=LH X2;have ae:=LH b5;have af:=LH b6;have cu:Hid (∀q,S q->S2 q):=LH λq R=>b4 q (.inl R);have ct:Hid (S2 w):=b4 _ (.inr rfl);have k1:=Zs5 b5;have k2:=Zs5 b6;clear hC hO hR X1 X2 b5 b6 b4 bb c9 da dm dn;generalize Zx (Zv G) [s] kk=x at *;generalize Zx (Zv G) l (n-kk)=y at *;have ai:Hid (∀(W:World) (A':Option Addr) (n' c':Nat) (b':Bool),Below J J W->Z1 W A' n' c' b' (x*y)->
  Blk ((W.setCell ⟨w,0,none⟩ (.slice A' n' c')).setCell ⟨w,1,none⟩ (.bool b')) w 174 #[.slice A' n' c',.bool b']/\Zuw W0 k h G S w (x*y) (.returned (.agg #[.slice A' n' c',.bool b'])) ((W.setCell ⟨w,0,none⟩ (.slice A' n' c')).setCell ⟨w,1,none⟩ (.bool b'))):=LH λW A' n' c' b' hb hv =>
  Zxm (S:=S) (HC.below hb) (HR.ext hb) hv (HO.map_trans (Off.of_below hb)) ct b2 (AJ _) cu
 rcases k1 with ⟨rfl,rfl,rfl⟩ | ⟨O,d3,rfl⟩ | ⟨O,rfl,rfl⟩
 case inl =>
  clear k2;have B:=LH (ai J none 0 0 false (AL _ _) (by rw[Nat.zero_mul];exact Z1.zero J none 0 AA));go_wp2_with fail;refine AW (AY (p:=8) AB _ _ w 174 #[.slice none 0 0,.bool false] (0,0) _ rfl B.1 underlying174 rfl AB) rfl ?_;exact B.2
 case inr.inl =>
  rcases k2 with ⟨rfl,rfl,rfl⟩ | ⟨hy,c6,rfl⟩ | ⟨hy,rfl,rfl⟩
  case inl =>
   have B:=LH (ai J none 0 0 false (AL _ _) (by rw[Nat.mul_zero];exact Z1.zero J none 0 AA));go_wp2_with fail;refine AW (AY (p:=8) AB _ _ w 174 #[.slice none 0 0,.bool false] (0,0) _ rfl B.1 underlying174 rfl AB) rfl ?_;exact B.2
  case inr.inl =>
   obtain⟨zs,er,Z,I⟩:=Bk O hy;obtain⟨U,R⟩:∃U,((er:Int) != 0)=U:=⟨_,rfl⟩;rw[R] at I;have D:=F2 z _ c1 (Vk x).1 A2 _ c2 (Vk y).1 J ae.2 af.2 (Wx x) (Wx y);rw[Z] at D;have V:=ae.1;have Y:=af.1;rw[<-V,<-Y] at I;have D:=LH D;have aj:=LH I;clear Z I V Y;go_wp2_with (first
    | (go_at_call 177
       refine D.out.mono ?_;rintro e T⟨M,c3,rfl,N,r⟩;simp only[] at N;have B:=LH (ai T M zs.length c3 _ r (aj T M c3 N));have E:=bc.ext r;have F:=bd.ext r;have o:=HR.ext r;have bl:=E.cell 0;have bm:=E.cell 1;have bn:=F.cell 0;have bo:=F.cell 1;have bp:=E.lt;have br:=F.lt;have r0:=o.cell 0;have r1:=o.cell 1;have f0:=o.frozen 0;have f1:=o.frozen 1;have l0:=o.lt;clear r N E F o))
   refine AW (AY (p:=8) AB _ _ w 174 #[.slice M zs.length c3,.bool _] (0,0) _ rfl B.1 underlying174 rfl AB) rfl ?_;exact B.2
  obtain⟨zs,er,Z,I⟩:=Bk O hy;obtain⟨U,R⟩:∃U,((er:Int) != 0)=U:=⟨_,rfl⟩;rw[R] at I;have D:=F2 z _ c1 (Vk x).1 A2 _ c2 (Vk y).1 J ae.2 af.2 (Wx x) (Wx y);rw[Z] at D;have V:=ae.1;have Y:=af.1;rw[<-V,<-Y] at I;have D:=LH D;have aj:=LH I;clear Z I V Y;go_wp2_with (first
   | (go_at_call 177
      refine D.out.mono ?_;rintro e T⟨M,c3,rfl,N,r⟩;simp only[] at N;have B:=LH (ai T M zs.length c3 _ r (aj T M c3 N));have E:=bc.ext r;have F:=bd.ext r;have o:=HR.ext r;have bl:=E.cell 0;have bm:=E.cell 1;have bn:=F.cell 0;have bo:=F.cell 1;have bp:=E.lt;have br:=F.lt;have r0:=o.cell 0;have r1:=o.cell 1;have f0:=o.frozen 0;have f1:=o.frozen 1;have l0:=o.lt;clear r N E F o))
  refine AW (AY (p:=8) AB _ _ w 174 #[.slice M zs.length c3,.bool _] (0,0) _ rfl B.1 underlying174 rfl AB) rfl ?_;exact B.2
 rcases k2 with ⟨rfl,rfl,rfl⟩ | ⟨hy,c6,rfl⟩ | ⟨hy,rfl,rfl⟩
 case inl =>
  have B:=LH (ai J none 0 0 false (AL _ _) (by rw[Nat.mul_zero];exact Z1.zero J none 0 AA));go_wp2_with fail;refine AW (AY (p:=8) AB _ _ w 174 #[.slice none 0 0,.bool false] (0,0) _ rfl B.1 underlying174 rfl AB) rfl ?_;exact B.2
 case inr.inl =>
  obtain⟨zs,er,Z,I⟩:=Bk O hy;obtain⟨U,R⟩:∃U,((er:Int) != 0)=U:=⟨_,rfl⟩;rw[R] at I;have D:=F2 z _ c1 (Vk x).1 A2 _ c2 (Vk y).1 J ae.2 af.2 (Wx x) (Wx y);rw[Z] at D;have V:=ae.1;have Y:=af.1;rw[<-V,<-Y] at I;have D:=LH D;have aj:=LH I;clear Z I V Y;go_wp2_with (first
   | (go_at_call 177
      refine D.out.mono ?_;rintro e T⟨M,c3,rfl,N,r⟩;simp only[] at N;have B:=LH (ai T M zs.length c3 _ r (aj T M c3 N));have E:=bc.ext r;have F:=bd.ext r;have o:=HR.ext r;have bl:=E.cell 0;have bm:=E.cell 1;have bn:=F.cell 0;have bo:=F.cell 1;have bp:=E.lt;have br:=F.lt;have r0:=o.cell 0;have r1:=o.cell 1;have f0:=o.frozen 0;have f1:=o.frozen 1;have l0:=o.lt;clear r N E F o))
  refine AW (AY (p:=8) AB _ _ w 174 #[.slice M zs.length c3,.bool _] (0,0) _ rfl B.1 underlying174 rfl AB) rfl ?_;exact B.2
 obtain⟨zs,er,Z,I⟩:=Bk O hy;obtain⟨U,R⟩:∃U,((er:Int) != 0)=U:=⟨_,rfl⟩;rw[R] at I;have D:=F2 z _ c1 (Vk x).1 A2 _ c2 (Vk y).1 J ae.2 af.2 (Wx x) (Wx y);rw[Z] at D;have V:=ae.1;have Y:=af.1;rw[<-V,<-Y] at I;have D:=LH D;have aj:=LH I;clear Z I V Y;go_wp2_with (first
  | (go_at_call 177
     refine D.out.mono ?_;rintro e T⟨M,c3,rfl,N,r⟩;simp only[] at N;have B:=LH (ai T M zs.length c3 _ r (aj T M c3 N));have E:=bc.ext r;have F:=bd.ext r;have o:=HR.ext r;have bl:=E.cell 0;have bm:=E.cell 1;have bn:=F.cell 0;have bo:=F.cell 1;have bp:=E.lt;have br:=F.lt;have r0:=o.cell 0;have r1:=o.cell 1;have f0:=o.frozen 0;have f1:=o.frozen 1;have l0:=o.lt;clear r N E F o))
 refine AW (AY (p:=8) AB _ _ w 174 #[.slice M zs.length c3,.bool _] (0,0) _ rfl B.1 underlying174 rfl AB) rfl ?_;exact B.2
