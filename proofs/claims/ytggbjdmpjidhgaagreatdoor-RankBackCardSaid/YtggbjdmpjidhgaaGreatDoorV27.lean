/- the cycles: the reference's, walked. -/
import Derived.Test.YtggbjdmpjidhgaaGreatDoorV23
import Derived.Test.YtggbjdmpjidhgaaGreatDoorV24
set_option linter.all false
set_option maxHeartbeats 1500000
set_option maxRecDepth 100000
namespace Go.Proofs.YtggbjdmpjidhgaaGreatDoor
open Go.RowKit Go.Proofs.Tryz
variable{t wd ps:List Int}
theorem Zvc(h:GH)(G:Gr)(w:World)(B:Yf w h G)(h1:h.n1<=100)(h2:h.n2<=100)(h3:h.n3<=100):
 Calls prog 28 #[GV h G.start] w λe w'=>Below w w w'/\e = .returned (.int .u32 ((Vh G:Nat):Int)):=by
 obtain⟨a1,n1,c1,a2,n2,c2,a3,n3,c3⟩:=h;have T:G.nons.length=n2:=B.nons.len;have k2:=B.nons.cap;simp only[] at h1 h2 h3 k2;have Hg:=LH B;have u:=Zy w (.cells #[.slice a1 n1 c1,.slice a2 n2 c2,.slice a3 n3 c3,.int .i64 G.start] 26);have A:=Y1.new w 26 ⟨a1,n1,c1,a2,n2,c2,a3,n3,c3⟩ G.start;clear B;go_enter func28,ntmps28;have⟨z5,z0,z1,z2,z3⟩:=A;simp only[] at z0 z1 z2 z3;go_wp2_with fail;generalize w.alloc (.cells #[.slice a1 n1 c1,.slice a2 n2 c2,.slice a3 n3 c3,.int .i64 G.start] 26)=m at *;have af:=LH A;have ad:=LH u;(with_reducible refine (Zss ⟨a1,n1,c1,a2,n2,c2,a3,n3,c3⟩ G m (Hg.out.below u) (by simp only[];omega) (by simp only[];omega) (by simp only[];omega)).mono ?_);rintro e W1⟨y,ba⟩;have N:=LH (Zz u y);have ae:=LH y;have E:=A.below y;clear z0 z1 z2 z3 z5 A u y;rcases ba with ⟨o,rfl⟩ | ⟨o,l,W,rfl,C⟩
 ·have⟨y5,y0,y1,y2,y3⟩:=E;simp only[] at y0 y1 y2 y3;have t:Hid (Vh G=0):=LH (by unfold Vh;rw[o];rfl);clear o E;go_wp2_with fail;go_loop [4] (λi=>i = .int .i64 0) (λi=>0)
  case atStart=>rfl
  subst hrel;rcases DM n2 with rfl | bo
  ·go_wp2_with fail;go_loop [7,8] (λs i=>s = .int .u32 0/\i = .int .i64 0) (λs i=>0)
   case atStart=>exact⟨rfl,rfl⟩
   obtain⟨rfl,rfl⟩:=hrel;go_wp2_with fail;go_ret;exact⟨N.out,by rw[t.out];rfl⟩
  go_wp2_with fail;go_loop [7,8] (λs i=>s = .int .u32 0/\i = .int .i64 0) (λs i=>0)
  case atStart=>exact⟨rfl,rfl⟩
  obtain⟨rfl,rfl⟩:=hrel;go_wp2_with fail;go_ret;exact⟨N.out,by rw[t.out];rfl⟩
 have H:=Gr.fits o;have ap:=H.n2.2;have ao:=H.n2.1;rw[T] at ap ao;have J:(Yz G).length=n2:=by rw[Wh];exact T
 have L:=Ks G;have t:Hid (Vh G=cycS (Yz G)):=LH (by unfold Vh;rw[o];rfl);have a:=LH C;have al:=LH W;have bm:l<W1.heap.size:=C.lt;generalize Yz G=S at *;subst J;have bh:decide (0<S.length)=true:=by rw[BB];omega
 have bi:decide ((0:Int)<(S.length:Int))=true:=by rw[BB];omega
 have ax:=LH L;have aj:=LH (Zsf S);have c:=Lv L;have ai:=LH c;have ah:=LH (Li S);clear H o C W L c E;go_wp2_with fail;go_loopw [4] (λi wr=>∃q:Nat,q<=S.length/\i = .int .i64 (q:Int)/\Hid (Below m m wr)/\Hid (V0 wr l (Z3 (fwI S.length S.length) q S))) (λi _=>S.length-(intOf i).toNat)
 case atStart=>exact⟨0,AU _,rfl,ae,a⟩
 obtain⟨q,hq,rfl,g,a⟩:=hrel;have D:=af.out.below g.out;have⟨y5,y0,y1,y2,y3⟩:=D;simp only[] at y0 y1 y2 y3;by_cases bq:q<S.length
 case neg =>
  obtain rfl:q=S.length:=AA
  rw[aj.out] at a;have V:cycS S=Jb (λi=>Yw S i i) S.length:=rfl;have ag:=LH V;clear V D;go_wp2_with fail;go_loop [7,8] (λs i=>∃j:Nat,j<=S.length/\i = .int .i64 (j:Int)/\s = .int .u32 ((Jb (λi=>Yw S i i) j:Nat):Int)) (λs i=>S.length-(intOf i).toNat)
  case atStart=>exact⟨0,AU _,rfl,rfl⟩
  obtain⟨j,hj,rfl,rfl⟩:=hrel;by_cases I:j<S.length
  case neg =>
   obtain rfl:j=S.length:=AA
   go_wp2_with fail;go_ret;exact⟨Zz ad.out g.out,by rw[t.out,ag.out];rfl⟩
  have U:=a.out.at (i:=j) (by rw[ah.out];exact I);have Y:=ai.out.get j;have n:=Bl ((Xu S).getD j 0) j wr Y;have hx:((Xu S).getD j 0).testBit j=Yw S j j:=rfl;have Z:=Mp (λi=>Yw S i i) j;have J:=Jg (λi=>Yw S i i) j;have a9:=or32 (Jb (λi=>Yw S i i) j) (Y6 (j:Int)) J (Ua _);have R:=Ch (j:Int) wr;rw[hx] at n;generalize (Xu S).getD j 0=v at *;generalize Yw S j j=b at *;generalize Jb (λi=>Yw S i i) j=s0 at *;generalize Y6 (j:Int)=bj at *;have O:=LH Z;have CH:=LH n;have CB:=LH R;clear hx Z n R Y;cases b
  ·go_wp2_with (go_at_call 62;(with_reducible refine CH.out.mono ?_);rintro e w'⟨rfl,rfl⟩);go_round
   case rel=>exact⟨j+1,AA,AF,by rw[O.out];rfl⟩
   simp[intOf];omega
  go_wp2_with (first
   | (go_at_call 62;(with_reducible refine CH.out.mono ?_);rintro e w'⟨rfl,rfl⟩)
   | (go_at_call 63;(with_reducible refine CB.out.mono ?_);rintro e w'⟨rfl,rfl⟩))
  go_round
  case rel=>exact⟨j+1,AA,AF,by rw[O.out];rfl⟩
  simp[intOf];omega
 have ar:Hid (Z3 (fwI S.length S.length) (q+1) S=fwI S.length S.length (Z3 (fwI S.length S.length) q S)):=rfl;have f:=K5 S.length S.length S q;have c:=Lo S.length S.length ax.out q;generalize Z3 (fwI S.length S.length) q S=F at *;have an:=LH f;have aw:=LH c;clear f c D;go_wp2_with fail;clear y0 y1 y2 y3 y5;go_loopw [5] (λi p=>∃j:Nat,j<=S.length/\i = .int .i64 (j:Int)/\Hid (Below m m p)/\Hid (V0 p l (fwI S.length j F))) (λi _=>S.length-(intOf i).toNat)
 case atStart=>exact⟨0,AU _,rfl,g,a⟩
 obtain⟨j,hj,rfl,g,a⟩:=hrel;by_cases I:j<S.length
 case neg =>
  obtain rfl:j=S.length:=AA
  go_wp2_with fail;go_roundw
  case rel=>exact⟨q+1,AA,AF,g,LH (by rw[ar.out];exact a.out)⟩
  simp[intOf];omega
 have aq:=LH (M9 S.length j F);have f:=Zyc S.length F j;have c:=Zzu S.length aw.out j;rw[an.out] at f;generalize fwI S.length j F=r at *;have am:=LH f;have av:=LH c;clear f c;go_wp2_with fail;go_loopw [6] (λi p=>∃k:Nat,k<=S.length/\i = .int .i64 (k:Int)/\Hid (Below m m p)/\Hid (V0 p l (fwR j k r))) (λi _=>S.length-(intOf i).toNat)
 case atStart=>exact⟨0,AU _,rfl,g,a⟩
 obtain⟨k,hk,rfl,g,a⟩:=hrel;by_cases a8:k<S.length
 case neg =>
  obtain rfl:k=S.length:=AA
  go_wp2_with fail;go_roundw
  case rel=>exact⟨j+1,AA,AF,g,LH (by rw[aq.out];exact a.out)⟩
  simp[intOf];omega
 have M:=Mm j k r;have f:=Zyi j r k;have c:=Zzp j av.out k;rw[am.out] at f;generalize fwR j k r=d at *;unfold fwK addAt at M;have U:=a.out.at (i:=j) (by rw[f];exact I);have be:=a.out.at (i:=k) (by rw[f];exact a8);have a6:=Blk.frozen a.out j;have X:l<wr.heap.size:=a.out.lt;have n:=Bl (d.getD j 0) k wr (c.get j);have a9:=or32 (d.getD j 0) (d.getD k 0) (c.get j) (c.get k);have au:=LH λx:Ext wr=>V0.put (Blk.ext a.out (Zr wr x):V0 (bl wr x) l d) j (d.getD j 0 ||| d.getD k 0);have CH:=LH n;have bc:=Yt wr;have bf:=Kh wr;generalize (d.getD j 0).testBit k=b at *;generalize d.getD j 0 ||| d.getD k 0=z at *
 generalize d.getD j 0=vj at *;generalize d.getD k 0=vk at *;have P:=LH M;clear M f c n;cases b
 ·go_wp2_with (go_at_call 62;(with_reducible refine CH.out.mono ?_);rintro e w'⟨rfl,rfl⟩);go_roundw
  case rel=>exact⟨k+1,AA,AF,g,LH (by rw[P.out];exact a.out)⟩
  simp[intOf];omega
 go_wp2_with (go_at_call 62;(with_reducible refine CH.out.mono ?_);rintro e w'⟨rfl,rfl⟩);refine Yx 12 AB AB ?_;simp only[List.take_succ_cons,List.take_zero,List.drop_succ_cons,Eg];repeat (go_big_quiet_step (fail))
 refine BK ?_;rintro _⟨x,rfl⟩;have bg:=(bc x l j X).trans U;have bk:=(bf x l j X).trans a6;have br:=Lb wr x;go_wp2_with fail;go_roundw
 case rel=>exact⟨k+1,AA,AF,LH (Zg (Zz g.out (Zr wr x)) _ _ _ al.out),LH (by rw[P.out];exact au.out x)⟩
 simp[intOf];omega
theorem Zvq(h:GH)(G:Gr)(w:World)(n:Yf w h G)(h1:h.n1<=100)(h2:h.n2<=100)(h3:h.n3<=100):
 Calls prog 67 #[GV h G.start] w λe w'=>Below w w w'/\e = .returned (.int .u32 ((Gy G:Nat):Int)):=by
 obtain⟨a1,n1,c1,a2,n2,c2,a3,n3,c3⟩:=h;have r:G.nons.length=n2:=n.nons.len;have k2:=n.nons.cap;simp only[] at h1 h2 h3 k2;have S:=LH n;have t:=Zy w (.cells #[.slice a1 n1 c1,.slice a2 n2 c2,.slice a3 n3 c3,.int .i64 G.start] 26);have F:=Y1.new w 26 ⟨a1,n1,c1,a2,n2,c2,a3,n3,c3⟩ G.start;clear n;go_enter func67,ntmps67;have⟨y5,y0,y1,y2,y3⟩:=F;simp only[] at y0 y1 y2 y3;go_upto_region 1 with fail;generalize w.alloc (.cells #[.slice a1 n1 c1,.slice a2 n2 c2,.slice a3 n3 c3,.int .i64 G.start] 26)=a at *;have y:=LH t;have m:=LH (S.out.below t);clear t F;rcases g:G.right with _ | _
 ·have k:=LH g;have l:=LH λx:Ext a=>(Qt ⟨a1,n1,c1,a2,n2,c2,a3,n3,c3⟩ G (bl a x) (m.out.below (Zr a x)) (by simp only[];omega) (by simp only[];omega) (by simp only[];omega)).mono λe w' c=>And.intro (c.2.resolve_right λf=>by rw[k.out] at f;cases f.1).2 c.1;have L:=LH λx:Ext a=>(Lw ⟨a1,n1,c1,a2,n2,c2,a3,n3,c3⟩ G (bl a x) (m.out.below (Zr a x)) (by simp only[];omega) (by simp only[];omega) (by simp only[];omega)).mono λe w' c=>And.intro (c.2.resolve_right λf=>by rw[k.out] at f;cases f.1).2 c.1;have o:Hid (Gy G=0):=LH (by unfold Gy;rw[g];rfl);have Y:=Yt a;clear g;refine Zs AB AB ?_;repeat (go_big_quiet_step (first
   | (go_at_call 109;with_reducible exact Ve (l.out _))
   | (go_at_call 110;with_reducible exact Ve (L.out _))))
  refine BK ?_;rintro _⟨x,rfl⟩;have N:=LH (Zz y.out (Zr a x));generalize bl a x=W2 at *;clear y0 y1 y2 y3 y5 Y;go_wp2_with fail;go_loop [5,6] (λs i=>s = .int .u32 0/\i = .int .i64 0) (λs i=>0)
  case atStart=>exact⟨rfl,rfl⟩
  obtain⟨rfl,rfl⟩:=hrel;go_wp2_with fail;go_ret;exact⟨N.out,by rw[o.out];rfl⟩
 have af:=Gr.fits g;have k:=LH g;have o:Hid (Gy G=Qm G):=LH (by unfold Gy;rw[g];rfl);have v:=LH λX (d:Below a a X)=>(Qt ⟨a1,n1,c1,a2,n2,c2,a3,n3,c3⟩ G X (m.out.below d) (by simp only[];omega) (by simp only[];omega) (by simp only[];omega)).mono λe w' c=>And.intro (Zz d c.1) (And.intro (LH c.1) (c.2.resolve_left λf=>by rw[k.out] at f;cases f.1).2);have l:=LH λX (d:Below a a X)=>(Lw ⟨a1,n1,c1,a2,n2,c2,a3,n3,c3⟩ G X (m.out.below d) (by simp only[];omega) (by simp only[];omega) (by simp only[];omega)).mono λe w' c=>And.intro (Zz d c.1) (And.intro (LH c.1) (c.2.resolve_left λf=>by rw[k.out] at f;cases f.1).2);have z:Hid (∀b,Below a a b->b.cell? ⟨w,0,none⟩=some (.slice a1 n1 c1)/\b.cell? ⟨w,1,none⟩=some (.slice a2 n2 c2)/\b.cell? ⟨w,2,none⟩=some (.slice a3 n3 c3)/\b.cell? ⟨w,3,none⟩=some (.int .i64 G.start)/\Below a a b):=LH λb d=>⟨by rw[d.cell (by exact y5)];exact y0,by rw[d.cell (by exact y5)];exact y1,by rw[d.cell (by exact y5)];exact y2,by rw[d.cell (by exact y5)];exact y3,d⟩;clear g af;go_region_held3 (λb=>b.cell? ⟨w,0,none⟩=some (.slice a1 n1 c1)/\b.cell? ⟨w,1,none⟩=some (.slice a2 n2 c2)/\b.cell? ⟨w,2,none⟩=some (.slice a3 n3 c3)/\b.cell? ⟨w,3,none⟩=some (.int .i64 G.start)/\Below a a b)
  ((refine z.out _ ?_;(repeat (first | assumption | exact AK _ _ | refine Below.drew ?_ | refine Zo ?_ _ | refine Zg ?_ _ _ _ (by (first | exact AI _ | exact DR _ | exact Below.size AH | exact Nat.le_succ_of_le (Below.size AH) | (simp;done) | omega))));done))
  (first
    | (go_at_call 109;refine (v.out _ (by (repeat (first | assumption | exact AK _ _ | refine Below.drew ?_ | refine Zo ?_ _ | refine Zg ?_ _ _ _ (by (first | exact AI _ | exact DR _ | exact Below.size AH | exact Nat.le_succ_of_le (Below.size AH) | (simp;done) | omega)))))).mono ?_;rintro e w2⟨ae,R,Z,ag,rfl,A⟩)
    | (go_at_call 110;refine (l.out _ (by (repeat (first | assumption | exact AK _ _ | refine Below.drew ?_ | refine Zo ?_ _ | refine Zg ?_ _ _ _ (by (first | exact AI _ | exact DR _ | exact Below.size AH | exact Nat.le_succ_of_le (Below.size AH) | (simp;done) | omega)))))).mono ?_;rintro e u⟨E,C,gP,ah,rfl,B⟩))
 have O:Hid (Z8 u Z (Zt G)):=Blk.hidden A C;have P:Hid (Z8 u gP (Z5 G)):=B;have M:=LH (Zz y.out E);have W:Hid (Qm G=Jb (λi=>(Zt G).getD i false&&(Z5 G).getD i false) n2):=LH (by unfold Qm;rw[r]);have T:Hid ((Zt G).length=n2):=LH (by rw[Vx];exact r);have U:Hid ((Z5 G).length=n2):=LH (by rw[K9];exact r);clear ae R ag A C ah B E v l z y0 y1 y2 y3 y5;go_wp2_with fail;go_loop [5,6] (λs i=>∃j:Nat,j<=n2/\i = .int .i64 (j:Int)/\s = .int .u32 ((Jb (λi=>(Zt G).getD i false&&(Z5 G).getD i false) j:Nat):Int)) (λs i=>n2-(intOf i).toNat)
 case atStart=>exact⟨0,AU _,rfl,rfl⟩
 obtain⟨j,hj,rfl,rfl⟩:=hrel;by_cases H:j<n2
 case neg =>
  obtain rfl:j=n2:=AA
  go_wp2_with fail;go_ret;exact⟨M.out,by rw[o.out,W.out];rfl⟩
 have am:=O.out.at (i:=j) (by rw[T.out];exact H);have an:=P.out.at (i:=j) (by rw[U.out];exact H);have I:=Mp (λi=>(Zt G).getD i false&&(Z5 G).getD i false) j;have ai:=Jg (λi=>(Zt G).getD i false&&(Z5 G).getD i false) j;have ap:=or32 (Jb (λi=>(Zt G).getD i false&&(Z5 G).getD i false) j) (Y6 (j:Int)) ai (Ua _);have D:=Ch (j:Int) u;generalize Jb (λi=>(Zt G).getD i false&&(Z5 G).getD i false) j=s0 at *;generalize (Zt G).getD j false=p at *;generalize (Z5 G).getD j false=q at *;generalize Y6 (j:Int)=bj at *;have V:=LH I;have J:=LH D;clear I D;cases p <;> cases q;all_goals
  go_wp2_with (go_at_call 63;(with_reducible refine J.out.mono ?_);rintro e w'⟨rfl,rfl⟩);go_round
  case rel=>exact⟨j+1,AA,AF,by rw[V.out];rfl⟩
  simp[intOf];omega
theorem rf_Endless(h:GH)(G:Gr)(w:World)(l:Yf w h G)(h1:h.n1<=100)(c:h.n2<=100)(d:h.n3<=100):
 Calls prog 30 #[GV h G.start] w λe w'=>Below w w w'/\e = .returned (.bool (endG G)):=by
 obtain⟨a1,n1,c1,a2,n2,c2,a3,n3,c3⟩:=h;have r:=LH l;have f:=Zy w (.cells #[.slice a1 n1 c1,.slice a2 n2 c2,.slice a3 n3 c3,.int .i64 G.start] 26);have j:=Y1.new w 26 ⟨a1,n1,c1,a2,n2,c2,a3,n3,c3⟩ G.start;clear l;go_enter func30,ntmps30;have⟨y5,y0,y1,y2,y3⟩:=j;simp only[] at y0 y1 y2 y3;go_upto_region 1 with fail;generalize w.alloc (.cells #[.slice a1 n1 c1,.slice a2 n2 c2,.slice a3 n3 c3,.int .i64 G.start] 26)=a at *;have o:=LH f;have g:=LH (r.out.below f);clear f j;have m:=LH λx:Ext a=>(Zvc ⟨a1,n1,c1,a2,n2,c2,a3,n3,c3⟩ G (bl a x) (g.out.below (Zr a x)) h1 c d).mono λe w' b=>And.intro b.2 b.1;have n:=LH λx:Ext a=>(Zvq ⟨a1,n1,c1,a2,n2,c2,a3,n3,c3⟩ G (bl a x) (g.out.below (Zr a x)) h1 c d).mono λe w' b=>And.intro b.2 b.1;have u:=and32 (Vh G) (Gy G) (Ztq G) (useG_lt G);have k:endG G=((((Vh G &&& Gy G:Nat):Int)) != 0):=by rw[bne_cast];rfl
 have q:=LH k;generalize Vh G &&& Gy G=z at *;generalize Vh G=v at *;generalize Gy G=y at *;have t:=Yt a;clear h1 c d k;refine Zs AB AB ?_;repeat (go_big_quiet_step (first
  | (go_at_call 28;with_reducible exact Ve (m.out _))
  | (go_at_call 67;with_reducible exact Ve (n.out _))))
 refine BK ?_;rintro _⟨x,rfl⟩;have p:=LH (Zz o.out (Zr a x));generalize bl a x=s at *;go_wp2_with fail;go_ret;exact⟨p.out,by rw[q.out];rfl⟩
theorem rf_Order(h:GH)(G:Gr)(w:World)(r:Yf w h G)(h1:h.n1<=100)(h2:h.n2<=100)(h3:h.n3<=100):
 Calls prog 96 #[GV h G.start] w (Mx G w):=by
 obtain⟨a1,n1,c1,a2,n2,c2,a3,n3,c3⟩:=h;have e2:G.nons.length=n2:=r.nons.len;have k2:=r.nons.cap;simp only[] at h1 h2 h3 k2;have B:=LH r;have V:=Zy w (.cells #[.slice a1 n1 c1,.slice a2 n2 c2,.slice a3 n3 c3,.int .i64 G.start] 26);have aa:=Y1.new w 26 ⟨a1,n1,c1,a2,n2,c2,a3,n3,c3⟩ G.start;clear r;go_enter func96,ntmps96;have⟨z5,z0,z1,z2,z3⟩:=aa;simp only[] at z0 z1 z2 z3;go_wp2_with fail;generalize w.alloc (.cells #[.slice a1 n1 c1,.slice a2 n2 c2,.slice a3 n3 c3,.int .i64 G.start] 26)=W0 at *;(with_reducible refine (Jr ⟨a1,n1,c1,a2,n2,c2,a3,n3,c3⟩ G W0 (B.out.below V) (by simp only[];omega) (by simp only[];omega) (by simp only[];omega)).mono ?_);rintro e Wr⟨rfl,k⟩;have F:=Zz V k;have ad:=aa.below k;clear z0 z1 z2 z3 z5 aa;have⟨y5,y0,y1,y2,y3⟩:=ad;simp only[] at y0 y1 y2 y3;rcases I:G.right with _ | _
 ·go_wp2_with fail;go_ret2;exact Mx.fail (by unfold N5;rw[I];rfl) F
 have au:=LH I;have bm:=LH F;have cE:=rf_Endless ⟨a1,n1,c1,a2,n2,c2,a3,n3,c3⟩ G Wr (B.out.below F) (by simp only[];omega) (by simp only[];omega) (by simp only[];omega);have aq:Hid (N5 G=if endG G then ([],10) else ((Y4 (Yz G) (Qm G) G.nons.length G.nons.length).1,0)):=LH (by unfold N5;rw[I];rfl);have CE:=LH cE;clear I V k F cE;go_wp2_with fail;(with_reducible refine CE.out.mono ?_);rintro e d⟨k,rfl⟩;have y:=LH (Zz bm.out k);have ae:=ad.below k;clear k ad y0 y1 y2 y3 y5 CE;have⟨y5,y0,y1,y2,y3⟩:=ae;simp only[] at y0 y1 y2 y3;rcases H:endG G with _ | _
 case true =>
  have N:Hid (N5 G=([],10)):=LH (by rw[aq.out,H];rfl);clear H;go_wp2_with fail;go_ret2;exact Mx.fail N.out y.out
 have N:Hid (N5 G=((Y4 (Yz G) (Qm G) n2 n2).1,0)):=LH (by rw[aq.out,H,e2];rfl);have hu:Gy G=Qm G:=by unfold Gy;rw[au.out];rfl
 have CN:=LH λX (c:Below d d X)=>(Zss ⟨a1,n1,c1,a2,n2,c2,a3,n3,c3⟩ G X ((B.out.below y.out).below c) (by simp only[];omega) (by simp only[];omega) (by simp only[];omega)).mono λe w' m=>And.intro (Zz c m.1) (And.intro (LH m.1) (m.2.resolve_left λhc=>by rw[au.out] at hc;cases hc.1).2);have M:=LH λX (c:Below d d X)=>(Zvq ⟨a1,n1,c1,a2,n2,c2,a3,n3,c3⟩ G X ((B.out.below y.out).below c) (by simp only[];omega) (by simp only[];omega) (by simp only[];omega)).mono λe w' m=>And.intro (Zz c m.1) (And.intro (LH m.1) m.2);rw[hu] at M;have HS:Hid (∀a,Below d d a->a.cell? ⟨w,0,none⟩=some (.slice a1 n1 c1)/\a.cell? ⟨w,1,none⟩=some (.slice a2 n2 c2)/\a.cell? ⟨w,2,none⟩=some (.slice a3 n3 c3)/\a.cell? ⟨w,3,none⟩=some (.int .i64 G.start)/\Below d d a):=LH λa c=>⟨by rw[c.cell (by exact y5)];exact y0,by rw[c.cell (by exact y5)];exact y1,by rw[c.cell (by exact y5)];exact y2,by rw[c.cell (by exact y5)];exact y3,c⟩;clear H hu;go_upto_region 5 with fail;go_region_held3 (λa=>a.cell? ⟨w,0,none⟩=some (.slice a1 n1 c1)/\a.cell? ⟨w,1,none⟩=some (.slice a2 n2 c2)/\a.cell? ⟨w,2,none⟩=some (.slice a3 n3 c3)/\a.cell? ⟨w,3,none⟩=some (.int .i64 G.start)/\Below d d a)
  ((refine HS.out _ ?_;(repeat (first | assumption | exact AK _ _ | refine Below.drew ?_ | refine Zo ?_ _ | refine Zg ?_ _ _ _ (by (first | exact AI _ | exact DR _ | exact Below.size AH | exact Nat.le_succ_of_le (Below.size AH) | (simp;done) | omega))));done))
  (first
    | (go_at_call 61;refine (CN.out _ (by (repeat (first | assumption | exact AK _ _ | refine Below.drew ?_ | refine Zo ?_ _ | refine Zg ?_ _ _ _ (by (first | exact AI _ | exact DR _ | exact Below.size AH | exact Nat.le_succ_of_le (Below.size AH) | (simp;done) | omega)))))).mono ?_;rintro e w2⟨b5,bs,gS,b7,rfl,an⟩)
    | (go_at_call 67;refine (M.out _ (by (repeat (first | assumption | exact AK _ _ | refine Below.drew ?_ | refine Zo ?_ _ | refine Zg ?_ _ _ _ (by (first | exact AI _ | exact DR _ | exact Below.size AH | exact Nat.le_succ_of_le (Below.size AH) | (simp;done) | omega)))))).mono ?_;rintro e t⟨W,ao,rfl⟩))
 have bq:Hid (V0 t gS (Yz G)):=Blk.hidden an ao;have bn:=LH (Zz y.out W);have bt:=LH (ae.below W);have bd:(Yz G).length=n2:=by rw[Wh];exact e2
 have be:=Ks G;have bi:=useS_lt G;generalize Yz G=S at *;generalize Qm G=use at *;have bw:=LH bd;have bx:=LH be;have aw:=LH bi;clear b5 bs b7 an ao W CN M HS y0 y1 y2 y3 y5 ae bd be bi;go_wp2_with fail;go_loopw [6,7,8] (λo s i wr=>∃(q:Nat) (A:Option Addr) (x:Nat),q<=n2/\i = .int .i64 (q:Int)/\o = .slice A (Y4 S use n2 q).1.length x/\s = .int .u32 (((Y4 S use n2 q).2:Nat):Int) /\
  wr.ownsRow t 3 1 (.slice A (Y4 S use n2 q).1.length x) (Y4 S use n2 q).1.length (ints .i64 (Z6 (Y4 S use n2 q).1))/\Hid ((Y4 S use n2 q).1.length<=q)/\Below t t wr) (λo s i _=>n2-(intOf i).toNat)
 case atStart=>exact⟨0,none,0,AU _,rfl,rfl,rfl,BJ _ _ _ _,LH (AI _),AK _ _⟩
 obtain⟨q,A,x,hq,rfl,rfl,rfl,g,ap,p⟩:=hrel;have cd:=p.size;have ab:=bt.out.below p;have⟨y5,y0,y1,y2,y3⟩:=ab;simp only[] at y0 y1 y2 y3;have J:=Nf S use n2 q;have ag:=Dl S n2 aw.out q;by_cases ci:q<n2
 case neg =>
  obtain rfl:q=n2:=AA
  have C:=LH g;have n:=LH p;clear J ag ab g p;go_wp2_with fail;go_ret2;exact Mx.good N.out (Zz bn.out n.out) C.out
 have bg:=ag.lt;have D:=LH bg;have a8:=ap.out;clear ag bg ab ap;have Y:∀i,Qx (U2 S use (Y4 S use n2 q).2) n2=some i->Y4 S use n2 (q+1)=((Y4 S use n2 q).1++[i],(Y4 S use n2 q).2 ||| Y6 (i:Int)):=λi hi=>by rw[J];exact Ly hi
 have Z:Qx (U2 S use (Y4 S use n2 q).2) n2=none->Y4 S use n2 (q+1)=Y4 S use n2 q:=λhi=>by rw[J];exact Ln hi
 clear J;generalize bf:Y4 S use n2 (q+1)=ck at *;have av:=LH bf;clear bf;generalize Y4 S use n2 q=st at *;obtain⟨l,b⟩:=st;simp only[] at Y Z g a8 D;have HF:=LH Y;have HN:=LH Z;clear Y Z;have C:=LH g;have n:=LH p;clear g p;simp only[];go_wp2_with fail;go_loop [6,7,9] (λo s i=>o = .slice A l.length x/\s = .int .u32 (b:Int)/\∃j:Nat,j<=n2/\i = .int .i64 (j:Int)/\Hid (∀f,f<j->U2 S use b f=false)) (λo s i=>n2-(intOf i).toNat)
 case atStart=>exact⟨rfl,rfl,0,AU _,rfl,LH λj h=>AA⟩
 obtain⟨rfl,rfl,j,hj,rfl,O⟩:=hrel;by_cases a7:j<n2
 case neg =>
  obtain rfl:j=n2:=AA
  have ah:=HN.out (findB_none O.out);subst ah;go_wp2_with fail;go_roundw
  case rel =>
   refine⟨q+1,A,x,AA,AF,?_⟩;rw[av.out];exact⟨rfl,rfl,C.out,LH (Nat.le_succ_of_le a8),n.out⟩
  simp[intOf];omega
 have br:Hid (V0 wr gS S):=Blk.ext bq.out n.out;have cc:=br.out.at (i:=j) (by rw[bw.out];exact a7);have ax:=Bl use j wr aw.out;have ay:=Bl b j wr D.out;have hv:=bx.out.get j;have cb:=andn32 (S.getD j 0) b hv D.out;have hz:=beq0_cast (Ck (S.getD j 0) b);have hp:U2 S use b j=(use.testBit j&&!b.testBit j&&(Ck (S.getD j 0) b==0)):=rfl;have cg:=or32 b (Y6 (j:Int)) D.out (Ua _);have cB:=λX=>Ch (j:Int) X;generalize Ck (S.getD j 0) b=z at *;generalize S.getD j 0=v at *;generalize use.testBit j=u at *;generalize b.testBit j=E at *;generalize (z==0)=T at *;have Hp:=LH hp;have C1:=LH ax;have C2:=LH ay;have CB:=LH cB;clear ax ay cB hp hv;have bb:U2 S use b j=false->Hid (∀f,f<j+1->U2 S use b f=false):=λhf=>LH λf cf=>by
  rcases BD f j with h | h
  ·exact O.out f h
  rw[show f=j by omega];exact hf
 have bv:=LH bb;clear bb;rcases (by cases u <;> cases E <;> cases T <;> simp:u=false\/(u=true/\E=true)\/(u=true/\E=false/\T=false)\/(u=true/\E=false/\T=true)) with rfl | ⟨rfl,rfl⟩ | ⟨rfl,rfl,rfl⟩ | ⟨rfl,rfl,rfl⟩
 case inr.inr.inr =>
  have ah:=HF.out j (findB_some a7 (by rw[Hp.out];rfl) O.out);subst ah;have g:=C.out;have b6:=n.out.size;have ba:(l++[j]).length=l.length+1:=AE
  have a9:ints .i64 (Z6 (l++[j]))=ints .i64 (Z6 l)++[.int .i64 (j:Int)]:=by simp[ints,Z6]
  have R:=LH ba;have bu:=LH a9;clear ba a9;go_wp2_with (first
   | (go_at_call 62;(first | (with_reducible refine C1.out.mono ?_) | (with_reducible refine C2.out.mono ?_));rintro e w'⟨rfl,rfl⟩)
   | (go_at_call 63;(with_reducible refine (CB.out _).mono ?_);rintro e w'⟨rfl,rfl⟩)
   | (at_builtin;refine Vc (w:=wr) rfl _ _ 27 rfl t 3 (.int .i64 0) 8 underlying27 Tryz.infoInt rfl _ l.length _ _ rfl g (.int .i64 ((j:Int))) rfl rfl AA AA AA ?_;intro L U w2 ho r))
  go_roundw
  case rel =>
   refine⟨q+1,L,U,AA,AF,?_⟩;rw[av.out];refine⟨?_,rfl,?_,LH (by show (l++[j]).length<=q+1;rw[R.out];omega),X6 n.out r g b6⟩
   ·show _=Value.slice L (l++[j]).length U;rw[R.out]
   show w2.ownsRow t 3 1 (.slice L (l++[j]).length U) (l++[j]).length (ints .i64 (Z6 (l++[j])));rw[R.out,bu.out];exact ho
  simp[intOf];omega
 all_goals
  have hf:=bv.out (by rw[Hp.out];rfl);go_wp2_with (go_at_call 62;(first | (with_reducible refine C1.out.mono ?_) | (with_reducible refine C2.out.mono ?_));rintro e w'⟨rfl,rfl⟩);go_round
  case rel=>exact⟨rfl,rfl,j+1,AA,AF,hf⟩
  simp[intOf];omega
theorem Zw4(A:Option Addr)(n c:Nat)(xs:List Nat)(w:World)(h:Zq .u32 w A n c xs)(p:n<=1000000):
 Calls prog 209 #[.slice A n c] w (RetOwn w xs):=by
 have j:=h.len;subst j;have q:∀(A:Option Addr) (n c:Nat) (w:World),(binOp .eql 31 (.slice A n c) (.slice none 0 0)).run prog w = .ok (.bool A.isNone) w:=λA n c w=>Lib.run_eql_slice_nil w _ _ _ _ _ _ _ underlying31;rcases A with _ | m
 ·have h0:xs.length=0:=by
   rcases DM xs.length with h0 | h0
   ·exact h0
   obtain⟨b,r,f,_⟩:=h.at_ h0;cases f
  obtain rfl:=BL h0;go_enter func209,ntmps209;go_wp2;go_ret;exact⟨none,0,rfl,BJ _ _ _ _,AK _ _⟩
 have d:=Zt0 w 49 0 [] rfl AA;have k:=h.sl.below ((AK _ _).alloc (AI _) (.cells #[] 49));go_enter func209,ntmps209;go_wp2_with (at_builtin;refine Zxz rfl _ _ 31 rfl w 49 (.int .u32 0) 4 underlying31 Tryz.info34 rfl _ 0 0 [] rfl d _ xs.length c (nums .u32 xs) rfl k (nums_one _ _) AA AA AE ?_;intro l o w' a g);go_ret;simp only[BH,DG] at a;exact⟨_,_,rfl,a,X6 ((AK _ _).alloc (AI _) _) g d AE⟩
theorem nat_sub_ok(v:Option Addr)(n c1:Nat)(xs:List Nat)(z:Option Addr)(m c2:Nat)(P:List Nat)(w:World)(h1:Zq .u32 w v n c1 xs)(d:Zq .u32 w z m c2 P)(r:Lim xs)(s:Lim P)(t:Zm xs=true)(N:Zm P=true)(R:val P<=val xs)(U:m<=n):
 Calls prog 181 #[.slice v n c1,.slice z m c2] w (Xr w (Mw xs P)):=by
 obtain rfl:=h1.len;obtain rfl:=d.len;have ai:xs.length<=32:=by simp[Zm] at t;omega
 have ab:decide (Vq xs P<0)=false:=by
  simp only[Vq,t,N,Bool.and_self,if_true,Vm];rw[if_neg AA];split <;> simp
 have G:Mw xs P=(limbs (val xs-val P),0):=by simp[Mw,t,N];omega
 rw[G];clear G;go_enter func181,ntmps181;go_wp2_with (first
  | (go_at_call 75;(with_reducible refine (Zb _ _ _ _ _ h1).mono ?_);rintro e w'⟨rfl,rfl⟩)
  | (go_at_call 75;(with_reducible refine (Zb _ _ _ _ _ d).mono ?_);rintro e w'⟨rfl,rfl⟩)
  | (go_at_call 76;(with_reducible refine (Zym _ _ _ _ _ _ _ _ _ h1 d r s).mono ?_);rintro e w1⟨rfl,b⟩)
  | (go_at_call 209;(with_reducible refine (Zw4 _ _ _ _ _ (h1.same b) AA).mono ?_);rintro e Y⟨A,c,rfl,a,q⟩))
 have I:=Bv a (base':=w.heap.size) (by rw[b.size];exact AI _);have E:Below w w Y:=(b.below _).trans (q.mono (by rw[b.size];exact AI _));clear a q b;go_loopw [7,28] (SubRel w A xs.length c xs P) (λ_ i _=>xs.length-(intOf i).toNat)
 case atStart=>exact⟨0,AU _,rfl,rfl,I,E⟩
 clear I E;obtain⟨k,hk,rfl,rfl,a,f⟩:=hrel;have F:=Qi xs P k;have o:=LH (Mj xs P k);by_cases h:k<xs.length
 ·obtain⟨g,u,rfl,H,ag,O,ad,af⟩:=Gh a h;obtain⟨x,Hx⟩:∃x,Hid (xs[k]? = some x):=⟨_,LH (AM h)⟩;have W:u = .int .u32 (x:Int):=by
   obtain⟨x',l,rfl⟩:=Zrz _ _ _ _ O.out;rw[Zsa _ _ _ _ o.out Hx.out] at l;injection l with l;rw[l]
  subst W;have L:=r.of_get Hx.out;by_cases S:k<P.length
  ·obtain⟨b2,o2,y,rfl,q,p,ae⟩:=(d.below f).get (j:=k) S;have X:=s.of_get p.out;go_wp2_with (go_at_call 210;(with_reducible refine (Dj x y _ _ L X F).mono ?_);rintro e w'⟨rfl,rfl⟩);go_roundw
   case rel =>
    refine⟨k+1,AA,AF,?_,?_,f.setCell H _⟩
    ·simp only[Xn,Yn Hx.out,Yn p.out]
    have:=Lt a k (.int .u32 (((4294967296+x-y-(Xn xs P k).2) % 4294967296:Nat):Int));rw[<-Be,Md _ xs k _ o.out h] at this;simpa [Xn,Hx.out,p.out] using this
   simp[intOf];omega
  have C:=LH (K8 (xs:=P) (j:=k) AA);go_wp2_with (go_at_call 210;(with_reducible refine (L7 x _ _ L F).mono ?_);rintro e w'⟨rfl,rfl⟩);go_roundw
  case rel =>
   refine⟨k+1,AA,AF,?_,?_,f.setCell H _⟩
   ·simp only[Xn,Yn Hx.out,C.out,Nat.sub_zero]
   have:=Lt a k (.int .u32 (((4294967296+x-0-(Xn xs P k).2) % 4294967296:Nat):Int));rw[<-Be,Md _ xs k _ o.out h] at this;have M:=C.out;rw[AO] at M;simpa [Xn,Hx.out,M] using this
  simp[intOf];omega
 obtain rfl:k=xs.length:=AA
 rw[List.drop_length,DK] at a;have V:Zq .u32 wr A xs.length c (Xn xs P xs.length).1:=Yl a;have J:=Zyj xs P r s xs.length (AI _) U R;have T:=Gv xs P xs.length;have B:=LH (Vg _ T);rw[J] at B;have Z:=LH (Mj xs P xs.length);clear J;go_wp2_with (go_at_call 199;(with_reducible refine (Q3 _ _ _ _ _ V).mono ?_);rintro e w'⟨rfl,D,rfl⟩);go_ret2;rw[B.out] at D ⊢;exact⟨_,_,rfl,D,f⟩
theorem nat_sub(f:Option Addr)(n c1:Nat)(xs:List Nat)(g:Option Addr)(m c2:Nat)(t:List Nat)(w:World)(h1:Zq .u32 w f n c1 xs)(b:Zq .u32 w g m c2 t)(h:Lim xs)(j:Lim t):
 Calls prog 181 #[.slice f n c1,.slice g m c2] w (Xr w (Mw xs t)):=by
 by_cases d:Zm xs=true
 case neg =>
  have q:Zm xs=false:=by simpa using d
  have a:Mw xs t=([],1):=by simp[Mw,q]
  rw[a];clear a d;go_enter func181,ntmps181;go_wp2_with (first
   | (go_at_call 75;(with_reducible refine (Zb _ _ _ _ _ h1).mono ?_);rintro e w'⟨rfl,rfl⟩)
   | (go_at_call 75;(with_reducible refine (Zb _ _ _ _ _ b).mono ?_);rintro e w'⟨rfl,rfl⟩))
  go_ret2;exact⟨none,0,rfl,Zq.nil _ _ _ _ AE,AK _ _⟩
 by_cases c:Zm t=true
 case neg =>
  have r:Zm t=false:=by simpa using c
  have a:Mw xs t=([],1):=by simp[Mw,r]
  rw[a];clear a c;go_enter func181,ntmps181;go_wp2_with (first
   | (go_at_call 75;(with_reducible refine (Zb _ _ _ _ _ h1).mono ?_);rintro e w'⟨rfl,rfl⟩)
   | (go_at_call 75;(with_reducible refine (Zb _ _ _ _ _ b).mono ?_);rintro e w'⟨rfl,rfl⟩))
  go_ret2;exact⟨none,0,rfl,Zq.nil _ _ _ _ AE,AK _ _⟩
 by_cases k:val t<=val xs
 ·refine nat_sub_ok f n c1 xs g m c2 t w h1 b h j d c k ?_;rcases BD n m with o | l
  ·have:=Qu xs t h j (X8 t c) (by rw[h1.len,b.len];exact o);omega
  exact l
 have s:decide (Vq xs t<0)=true:=by
  simp only[Vq,d,c,Bool.and_self,if_true,Vm];rw[if_pos AA];simp
 have a:Mw xs t=([],11):=by simp[Mw,d,c];omega
 rw[a];clear a;go_enter func181,ntmps181;go_wp2_with (first
  | (go_at_call 75;(with_reducible refine (Zb _ _ _ _ _ h1).mono ?_);rintro e w'⟨rfl,rfl⟩)
  | (go_at_call 75;(with_reducible refine (Zb _ _ _ _ _ b).mono ?_);rintro e w'⟨rfl,rfl⟩)
  | (go_at_call 76;(with_reducible refine (Zym _ _ _ _ _ _ _ _ _ h1 b h j).mono ?_);rintro e w1⟨rfl,p⟩))
 go_ret2;exact⟨none,0,rfl,Zq.nil _ _ _ _ AE,p.below _⟩
theorem nat_take(q:Option Addr)(n c1:Nat)(xs:List Nat)(r:Option Addr)(m c2:Nat)(P:List Nat)(w:World)(h1:Zq .u32 w q n c1 xs)(z:Zq .u32 w r m c2 P)(U:Lim xs)(V:Lim P)(hn:n<=1000):
 Calls prog 213 #[.slice q n c1,.slice r m c2] w (RetTake w xs P):=by
 obtain rfl:=h1.len;obtain rfl:=z.len;go_enter func213,ntmps213;go_wp2_with (go_at_call 209;(with_reducible refine (Zw4 _ _ _ _ _ h1 AA).mono ?_);rintro e w2⟨A,c,rfl,F,B⟩);go_loopw [7,14] (SubRel w A xs.length c xs P) (λ_ i _=>xs.length-(intOf i).toNat)
 case atStart=>exact⟨0,AU _,rfl,rfl,F,B⟩
 clear F B;obtain⟨k,hk,rfl,rfl,d,b⟩:=hrel;have C:=Qi xs P k;have l:=LH (Mj xs P k);by_cases f:k<xs.length
 ·obtain⟨g,u,rfl,D,ae,J,aa,ad⟩:=Gh d f;obtain⟨x,Hx⟩:∃x,Hid (xs[k]? = some x):=⟨_,LH (AM f)⟩;have R:u = .int .u32 (x:Int):=by
   obtain⟨x',h,rfl⟩:=Zrz _ _ _ _ J.out;rw[Zsa _ _ _ _ l.out Hx.out] at h;injection h with h;rw[h]
  subst R;have G:=U.of_get Hx.out;by_cases O:k<P.length
  ·obtain⟨X,o2,y,rfl,Z,o,ab⟩:=(z.below b).get (j:=k) O;have T:=V.of_get o.out;go_wp2_with (go_at_call 210;(with_reducible refine (Dj x y _ _ G T C).mono ?_);rintro e w'⟨rfl,rfl⟩);go_roundw
   case rel =>
    refine⟨k+1,AA,AF,?_,?_,b.setCell D _⟩
    ·simp only[Xn,Yn Hx.out,Yn o.out]
    have:=Lt d k (.int .u32 (((4294967296+x-y-(Xn xs P k).2) % 4294967296:Nat):Int));rw[<-Be,Md _ xs k _ l.out f] at this;simpa [Xn,Hx.out,o.out] using this
   simp[intOf];omega
  have s:=LH (K8 (xs:=P) (j:=k) AA);go_wp2_with (go_at_call 210;(with_reducible refine (L7 x _ _ G C).mono ?_);rintro e w'⟨rfl,rfl⟩);go_roundw
  case rel =>
   refine⟨k+1,AA,AF,?_,?_,b.setCell D _⟩
   ·simp only[Xn,Yn Hx.out,s.out,Nat.sub_zero]
   have:=Lt d k (.int .u32 (((4294967296+x-0-(Xn xs P k).2) % 4294967296:Nat):Int));rw[<-Be,Md _ xs k _ l.out f] at this;have I:=s.out;rw[AO] at I;simpa [Xn,Hx.out,I] using this
  simp[intOf];omega
 obtain rfl:k=xs.length:=AA
 rw[List.drop_length,DK] at d;have p:Zq .u32 wr A xs.length c (Xn xs P xs.length).1:=Yl d;have N:=Zv3 d;have H:∀v:Bool,v=decide ((Xn xs P xs.length).2=0/\P.length<=xs.length)->
  ∀w',Zq .u32 w' A (Xx (Xn xs P xs.length).1).length (Xx (Xn xs P xs.length).1).length (Xx (Xn xs P xs.length).1)->Below w w w'->
  RetTake w xs P (.returned (.tuple #[.slice A (Xx (Xn xs P xs.length).1).length (Xx (Xn xs P xs.length).1).length,.bool v])) w':=by
  intro v S w' a L;subst S;unfold RetTake;exact⟨_,_,rfl,a,L,N⟩
 have W:=LH (Mj xs P xs.length);generalize M:(Xn xs P xs.length).2=t at *;clear M;by_cases h0:t=0
 ·subst h0;by_cases E:P.length<=xs.length
  ·have hd:decide ((xs.length:Int) ≥ (P.length:Int))=true:=AG
   go_wp2_with (go_at_call 199;(with_reducible refine (Q3 _ _ _ _ _ p).mono ?_);rintro e w'⟨rfl,a,rfl⟩);go_ret2;exact H _ (by simp[E]) _ a b
  have hd:decide ((xs.length:Int) ≥ (P.length:Int))=false:=AG
  go_wp2_with (go_at_call 199;(with_reducible refine (Q3 _ _ _ _ _ p).mono ?_);rintro e w'⟨rfl,a,rfl⟩);go_ret2;exact H _ (by simp[E]) _ a b
 have Y:((t:Int)==0)=false:=by simp[h0]
 go_wp2_with (go_at_call 199;(with_reducible refine (Q3 _ _ _ _ _ p).mono ?_);rintro e w'⟨rfl,a,rfl⟩);go_ret2;exact H _ (by simp[h0]) _ a b
theorem nat_tk(f:Option Addr)(n c1:Nat)(xs:List Nat)(g:Option Addr)(m c2:Nat)(r:List Nat)(w:World)(h1:Zq .u32 w f n c1 xs)(j:Zq .u32 w g m c2 r)(a:Lim xs)(b:Lim r)(ty:Mo r)(q:n<=1000):
 Calls prog 213 #[.slice f n c1,.slice g m c2] w (RetTk w (val xs) (val r)):=by
 refine (nat_take _ _ _ _ _ _ _ _ _ h1 j a b q).mono ?_;intro e w' h;unfold RetTake at h;unfold RetTk;obtain⟨A,c,rfl,k,l,o⟩:=h;refine⟨A,c,_,?_,k,l,o,?_⟩
 ·have hd:decide ((Xn xs r xs.length).2=0/\r.length<=xs.length)=decide (val r<=val xs):=?_
  ·rw[hd]
  rw[decide_eq_decide];by_cases d:r.length<=xs.length
  ·rw[Zup xs r a b _ (AI _) d];split <;> omega
  have:=Qu xs r a b ty AA;constructor
  ·intro h;omega
  intro h;omega
 refine LH λp=>?_;have d:r.length<=xs.length:=by
  rcases BD xs.length r.length with h | h
  ·have:=Qu xs r a b ty h;omega
  exact h
 rw[Vg _ (Gv xs r _),Zyj xs r a b _ (AI _) d p]
section
open Ieee
theorem Zz4{G:Gr}{k:Nat}(h:Xl G t=some (wd,ps,k)):G.right=true/\t.length<=300/\Fs G [-1-G.start] t ps wd k:=by
 unfold Xl at h;split at h
 ·rename_i b;rw[AR,BB] at b;split at h
  ·cases h
  rename_i q n j;split at h
  ·rename_i g;simp only[BM,CZ] at h;obtain⟨rfl,rfl,rfl⟩:=h;obtain⟨i,r,o,p,w1,m,a1,a2,a3,f,a,c,d⟩:=Zz3 _ _ _ _ _ j;have l:=(Gr.fits b.1).st;have:=Fs.non (s:=-1-G.start) (ss:=[]) AA a1 AA a3 .nil;simp only[DK] at this;rw[g,DK] at a;simp only[DG] at c d;simp only[] at a;rw[a,c,d,f];refine⟨b.1,by rw[<-a];exact b.2,?_⟩;rw[show max (m+1) 0=m+1 by omega] at this;exact this
  cases h
 cases h
end
section
open Go.Maps (Keyed IsMap Tidy)
open Go.Maps (Keyed IsMap Tidy)
variable {W0:World} {k:BkH} {h:GH} {G:Gr} {S':Nat->Prop} {w:World} {gR:Nat} {b:Nat->Bool} {u:Nat->Value} {X:World}
theorem PM.made(H:PM W0 k h G S' w gR b u X)(i:Nat)(hi:i=12/\b 14=false\/i=13/\b 15=false):PM W0 k h G S' w gR (Mz b i) (upd u i (.pointer (some ⟨X,0,none⟩))) (X.alloc (.cells #[.slice none 0 0,.bool false] 174)):=by
 obtain⟨⟨l,a1,a2,a3,o,p⟩,A,r,J⟩:=H;have m:=Zy X (.cells #[.slice none 0 0,.bool false] 174);have s:=Blk.new X 174 #[.slice none 0 0,.bool false];have L:=s.lt;have C:=r.lt;have D:4≠i:=AA
 have E:11≠i:=AA
 have F:14≠i:=AA
 have I:15≠i:=AA
 have y:∀(a:Bool) (d:Value),a=false->Cel (λq=>l q\/q=X.heap.size) gR (X.alloc (.cells #[.slice none 0 0,.bool false] 174)) (.pointer (some ⟨X,0,none⟩)) a d:=λa d e=>⟨_,_,_,_,_,rfl,C,.inr rfl,s,λh=>by rw[e] at h;cases h⟩;have z:∀{v:Value} {a:Bool} {d:Value},Cel l gR X v a d->Cel (λq=>l q\/q=X.heap.size) gR (X.alloc (.cells #[.slice none 0 0,.bool false] 174)) v a d:=λn=>n.mono (λq=>Or.inl) λg t cs _ B=>B.ext m;have x:∀{v:Value} {a:Bool} {d:Value},Cel l gR X v a d->v ≠ .pointer (some ⟨X,0,none⟩):=λn e=>by
  subst e;have:=n.lt;omega
 refine⟨⟨_,a1.more m (AI _),λq f => .inl (a2 q f),λq f=>?_,?_,?_⟩,A.map_trans (Off.of_below m),r.ext m,?_⟩
 ·rcases f with f | rfl
  ·have:=a3 q f;omega
  omega
 ·rw[Ys F,Yj D];rcases hi with ⟨rfl,c⟩ | ⟨rfl,c⟩
  ·rw[D1];exact λ_=>y _ _ c
  rw[Ys AA,Yj AA];exact λh=>z (o h)
 ·rw[Ys I,Yj E];rcases hi with ⟨rfl,c⟩ | ⟨rfl,c⟩
  ·rw[Ys AA,Yj AA];exact λh=>z (p h)
  rw[D1];exact λ_=>y _ _ c
 rcases hi with ⟨rfl,c⟩ | ⟨rfl,c⟩
 ·rw[D1,Ys (j:=13) AA,Yj AA];exact λ_ h=>(x (p h)).symm
 rw[D1,Ys (j:=12) AA,Yj AA];exact λh _=>x (o h)
end
section
variable {G:Gr}
theorem Zvp(a:G.Fits)(h:(Zt G).getD G.start.toNat false=true):(∀s∈[-1-G.start],s<0->Zp s∈Ze G)/\Xd (Ze G) (-1-G.start)<0/\Zp (Xd (Ze G) (-1-G.start))=(Zi G).start.toNat:=by
 have h1:=Jm a h;have d:=a.st;have e:Zp (-1-G.start)=G.start.toNat:=by unfold Zp;omega
 refine⟨λs b _=>?_,?_,?_⟩
 ·rw[BV] at b;rw[b,e];exact h1
 ·exact (Mk _ λ_=>by rw[e];exact h1).2 AA
 have c:=G8 (o:=Ze G) (s:=-1-G.start) AA (by rw[e];exact h1);rw[e] at c;show _=(toI (Ze G) G.start.toNat).toNat
 omega
theorem Zxc{k:Nat}(h:Xl G t=some (wd,ps,k)):G.right=true/\t.length<=300/\∃u r,UnT (Zi G) (Zi G).start.toNat wd.length r u/\t=(u.map (Yr G)).map λi:Nat=>(i:Int):=by
 obtain⟨f,l,b⟩:=Zz4 h;have a:=Gr.fits f;have c:=Ztu a b (-1-G.start) (AX ..) (by have:=a.st;omega);have e:Zp (-1-G.start)=G.start.toNat:=by have:=a.st;unfold Zp;omega
 rw[e] at c;obtain⟨h1,g,j⟩:=Zvp a c;obtain⟨u,r,n,m⟩:=fs_red a b h1;obtain⟨q,d⟩:=un_single g n;rw[j] at d;exact⟨f,l,u,q,d,m⟩
end
theorem Ztb{G:Gr}{k:Nat}(h:Xl G t=some (wd,ps,k)):Xp G=true:=by
 obtain⟨a,_,c⟩:=Zz4 h;have b:=Ztu (Gr.fits a) c (-1-G.start) (AX ..) (Fa (Gr.fits a)).1;rw[(Fa (Gr.fits a)).2.1] at b;unfold Xp;rw[a,b];rfl
end Go.Proofs.YtggbjdmpjidhgaaGreatDoor
