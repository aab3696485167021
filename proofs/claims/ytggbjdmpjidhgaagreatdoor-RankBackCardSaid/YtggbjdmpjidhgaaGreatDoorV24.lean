/- nullable: the reference's, walked. -/
import Derived.Test.YtggbjdmpjidhgaaGreatDoorV17
import Derived.Test.YtggbjdmpjidhgaaGreatDoorV18
import Derived.Test.YtggbjdmpjidhgaaGreatDoorV20
set_option linter.all false
set_option maxHeartbeats 1500000
set_option maxRecDepth 100000
namespace Go.Proofs.YtggbjdmpjidhgaaGreatDoor
open Go.RowKit Go.Proofs.Tryz
variable{g n c i:Nat}{w':World}{S:Nat->Prop}{A A0:Option Addr}{l xs:List Int}{cs:Array Value}
theorem rf_Nullable(h:GH)(G:Gr)(w:World)(n:Yf w h G)(f:h.n1<=100)(j:h.n2<=100)(k:h.n3<=100):
 Calls prog 113 #[GV h G.start] w λe w'=>Below w w w' /\
  ((G.right=false/\e = .returned (.slice none 0 0))\/(G.right=true/\∃g,w.heap.size<=g/\e = .returned (.slice (some ⟨g,0,none⟩) h.n2 h.n2)/\Z8 w' g (Zj G))):=by
 obtain⟨a1,n1,c1,a2,n2,c2,a3,n3,c3⟩:=h;simp only[] at f j k;have a:=Zy w (.cells #[.slice a1 n1 c1,.slice a2 n2 c2,.slice a3 n3 c3,.int .i64 G.start] 26);have m:=Y1.new w 26 ⟨a1,n1,c1,a2,n2,c2,a3,n3,c3⟩ G.start;go_enter func113,ntmps113;have⟨z5,z0,z1,z2,z3⟩:=m;simp only[] at z0 z1 z2 z3;go_wp2_with fail;generalize w.alloc (.cells #[.slice a1 n1 c1,.slice a2 n2 c2,.slice a3 n3 c3,.int .i64 G.start] 26)=d at *;(with_reducible refine (Zsq ⟨a1,n1,c1,a2,n2,c2,a3,n3,c3⟩ G false d (n.below a) (by simp only[];omega) (by simp only[];omega) (by simp only[];omega)).mono ?_);rintro e p⟨c,⟨b,rfl⟩ | ⟨b,g,o,rfl,l⟩⟩
 ·go_wp2_with fail;go_ret;exact⟨Zz a c,.inl ⟨b,rfl⟩⟩
 go_wp2_with fail;go_ret;exact⟨Zz a c,.inr ⟨b,g,BC a.size o,rfl,l⟩⟩
theorem Zss(h:GH)(G:Gr)(w:World)(t:Yf w h G)(h1:h.n1<=100)(h2:h.n2<=100)(h3:h.n3<=100):
 Calls prog 61 #[GV h G.start] w λe w'=>Below w.heap.size w w' /\
  ((G.right=false/\e = .returned (.slice none 0 0))\/(G.right=true/\∃g,w.heap.size<=g/\e = .returned (.slice (some ⟨g,0,none⟩) h.n2 h.n2)/\V0 w' g (Yz G))):=by
 obtain⟨a1,n1,c1,a2,n2,c2,a3,n3,c3⟩:=h;have J:G.nons.length=n2:=t.nons.len;have e3:G.rules.length=n3:=t.rules.len;have k3:=t.rules.cap;have k2:=t.nons.cap;simp only[] at h1 h2 h3 k3 k2;have H:=LH t;have ad:=Zy w (.cells #[.slice a1 n1 c1,.slice a2 n2 c2,.slice a3 n3 c3,.int .i64 G.start] 26);have ah:=Y1.new w 26 ⟨a1,n1,c1,a2,n2,c2,a3,n3,c3⟩ G.start;have cz:=Zvx n2 AA;clear t;go_enter func61,ntmps61;have⟨z5,z0,z1,z2,z3⟩:=ah;simp only[] at z0 z1 z2 z3;go_wp2_with fail;generalize w.alloc (.cells #[.slice a1 n1 c1,.slice a2 n2 c2,.slice a3 n3 c3,.int .i64 G.start] 26)=W0 at *;(with_reducible refine (Jr ⟨a1,n1,c1,a2,n2,c2,a3,n3,c3⟩ G W0 (H.out.below ad) (by simp only[];omega) (by simp only[];omega) (by simp only[];omega)).mono ?_);rintro e l⟨rfl,af⟩;have A:=Zz ad af;have ai:=ah.below af;clear z0 z1 z2 z3 z5 ah;have⟨y5,y0,y1,y2,y3⟩:=ai;simp only[] at y0 y1 y2 y3;rcases S:G.right with _ | _
 ·go_wp2_with fail;go_ret;exact⟨A,.inl ⟨S,rfl⟩⟩
 have bn:=Gr.fits S;have W:=LH S;have U:=LH bn;have CN:=LH λX (f:Below l.heap.size l X)=>(rf_Nullable ⟨a1,n1,c1,a2,n2,c2,a3,n3,c3⟩ G X ((H.out.below A).below f) (by simp only[];omega) (by simp only[];omega) (by simp only[];omega)).mono λe w' o=>And.intro (Zz f o.1) (And.intro (LH o.1) (o.2.resolve_left λC=>by rw[W.out] at C;cases C.1).2);have CP:=LH λX (f:Below l.heap.size l X)=>(Qt ⟨a1,n1,c1,a2,n2,c2,a3,n3,c3⟩ G X ((H.out.below A).below f) (by simp only[];omega) (by simp only[];omega) (by simp only[];omega)).mono λe w' o=>And.intro (Zz f o.1) (And.intro (LH o.1) (o.2.resolve_left λC=>by rw[W.out] at C;cases C.1).2);have HS:Hid (∀d,Below l.heap.size l d->d.cell? ⟨w.heap.size,0,none⟩=some (.slice a1 n1 c1)/\d.cell? ⟨w.heap.size,1,none⟩=some (.slice a2 n2 c2)/\d.cell? ⟨w.heap.size,2,none⟩=some (.slice a3 n3 c3)/\d.cell? ⟨w.heap.size,3,none⟩=some (.int .i64 G.start)/\Below l.heap.size l d):=LH λd f=>⟨by rw[f.cell (by exact y5)];exact y0,by rw[f.cell (by exact y5)];exact y1,by rw[f.cell (by exact y5)];exact y2,by rw[f.cell (by exact y5)];exact y3,f⟩;have b3:=LH A;have ca:=LH ai;clear S bn A ai ad af;go_wp2_with fail;go_region_held3 (λd=>d.cell? ⟨w.heap.size,0,none⟩=some (.slice a1 n1 c1)/\d.cell? ⟨w.heap.size,1,none⟩=some (.slice a2 n2 c2)/\d.cell? ⟨w.heap.size,2,none⟩=some (.slice a3 n3 c3)/\d.cell? ⟨w.heap.size,3,none⟩=some (.int .i64 G.start)/\Below l.heap.size l d)
  ((refine HS.out _ ?_;(repeat (first | assumption | exact AK _ _ | refine Below.drew ?_ | refine Zo ?_ _ | refine Zg ?_ _ _ _ (by (first | exact AI _ | exact DR _ | exact Below.size AH | exact Nat.le_succ_of_le (Below.size AH) | (simp;done) | omega))));done))
  (first
    | (go_at_call 113;refine (CN.out _ (by (repeat (first | assumption | exact AK _ _ | refine Below.drew ?_ | refine Zo ?_ _ | refine Zg ?_ _ _ _ (by (first | exact AI _ | exact DR _ | exact Below.size AH | exact Nat.le_succ_of_le (Below.size AH) | (simp;done) | omega)))))).mono ?_;rintro e w2⟨cn,b9,gN,M,rfl,ax⟩)
    | (go_at_call 109;refine (CP.out _ (by (repeat (first | assumption | exact AK _ _ | refine Below.drew ?_ | refine Zo ?_ _ | refine Zg ?_ _ _ _ (by (first | exact AI _ | exact DR _ | exact Below.size AH | exact Nat.le_succ_of_le (Below.size AH) | (simp;done) | omega)))))).mono ?_;rintro e m⟨ae,az,gP,N,rfl,ay⟩))
 have ar:Hid (Z8 m gN (Zj G)):=LH (Blk.hidden ax az);have au:Hid (Z8 m gP (Zt G)):=LH ay;have v:=LH (Zz b3.out ae);have a0:=LH (ca.out.below ae);clear cn b9 M ax az N ay ae CN CP HS y0 y1 y2 y3 y5;have⟨y5,y0,y1,y2,y3⟩:=a0.out;simp only[] at y0 y1 y2 y3;go_upto_region 5 with fail;have bh:=V0.new m (List.replicate n2 0);have be:=Zy m (.cells (nums .u32 (List.replicate n2 0)).toArray 49);generalize m.alloc (.cells (nums .u32 (List.replicate n2 0)).toArray 49)=W4 at *;generalize bo:m.heap.size=b at *;have y:=LH bo;have b8:=LH bh;have b4:=LH be;clear bo bh be y0 y1 y2 y3 y5 cz;go_wp2_with fail;go_loopw [6] (λi wr=>∃j:Nat,j<=n3/\i = .int .i64 (j:Int)/\Hid (Below b m wr)/\Hid (V0 wr b (Wo (Zj G) (Zt G) (G.rules.take j) (List.replicate n2 0)))) (λi _=>n3-(intOf i).toNat)
 case atStart=>exact⟨0,AU _,rfl,b4,LH (by simpa [Wo] using b8.out)⟩
 obtain⟨j,hj,rfl,D,k⟩:=hrel;have aj:m.heap.size=b:=y.out;have E:=LH (v.out.trans (D.out.mono (by rw[<-aj];exact v.out.size)));have bj:=a0.out.below (by rw[aj];exact D.out);have⟨y5,y0,y1,y2,y3⟩:=bj;simp only[] at y0 y1 y2 y3;clear aj;by_cases cu:j<n3
 case neg =>
  obtain rfl:j=n3:=AA
  have n:Hid (V0 wr b (Yz G)):=LH (by have:=k.out;rw[AQ AA] at this;unfold Yz;rw[J];exact this);go_wp2_with fail;go_ret;exact⟨E.out,.inr ⟨W.out,b,by rw[<-y.out];exact v.out.size,rfl,n.out⟩⟩
 obtain⟨bb,dn,r,Ar,cr,rfl,bi,Hr,q0,q1,q2,bs⟩:=H.out.rules.get cu;rw[<-E.out.cell (by exact bi)] at q0 q1 q2;have f:bb<wr.heap.size:=AJ bi E.out.size;have a7:=LH bs;have R:=AL Hr.out;have ce:Hid (Wo (Zj G) (Zt G) (G.rules.take (j+1)) (List.replicate n2 0)=Y2 (Zj G) (Zt G) r r.right.length (Wo (Zj G) (Zt G) (G.rules.take j) (List.replicate n2 0))):=LH (by rw[Ya Hr.out,Zz0]);have bk:(Wo (Zj G) (Zt G) (G.rules.take j) (List.replicate n2 0)).length=n2:=by rw[De];simp
 have bm:=Lm (Zj G) (Zt G) (G.rules.take j) (We.zero n2);generalize Wo (Zj G) (Zt G) (G.rules.take j) (List.replicate n2 0)=c at *;obtain⟨l1,l2⟩:=U.out.left r R;obtain⟨a,bq⟩:∃a:Nat,r.left=(a:Int):=⟨r.left.toNat,AA⟩;have cv:a<n2:=AA
 have cd:Hid (r.left.toNat=a):=LH AA;have dh:=U.out.len r R;have al:=U.out.symB R;rw[J] at al;rw[bq] at q0;have Z:=LH al;have cb:=LH bk;have cc:=LH bm;have ag:=Zy wr (.cells #[.int .i64 (a:Int),.slice Ar r.right.length cr,.int .i64 r.prec] 52);have bg:=Blk.new wr 52 #[.int .i64 (a:Int),.slice Ar r.right.length cr,.int .i64 r.prec];have O:b<wr.heap.size:=k.out.lt;clear bs al bk bm l1 l2 bq R bj;go_wp2_with fail;have aw:Hid (V0 (wr.alloc (.cells #[.int .i64 (a:Int),.slice Ar r.right.length cr,.int .i64 r.prec] 52)) b c):=LH (Blk.ext k.out ag);have b5:=LH (D.out.trans (ag.mono (DP O)));have b7:=LH bg;generalize wr.alloc (.cells #[.int .i64 (a:Int),.slice Ar r.right.length cr,.int .i64 r.prec] 52)=WA at *;generalize wr.heap.size=L at *;clear ag bg y0 y1 y2 y3 y5 q0 q1 q2 k D E;have cx:b<WA.heap.size:=aw.out.lt;have dc:=a7.out.cap;go_loopw [8] (λi wz=>∃kk:Nat,kk<=r.right.length/\i = .int .i64 (kk:Int)/\Hid (V0 wz b (Y2 (Zj G) (Zt G) r kk c))/\Hid (WA.grownBy wz (some b))) (λi _=>r.right.length-(intOf i).toNat)
 case atStart=>exact⟨0,AU _,rfl,aw,LH (Jl _ _)⟩
 obtain⟨kk,dg,rfl,k,p⟩:=hrel;have cs:L≠b:=AA
 have B:=b7.out.grown p.out (by intro e;injection e with e;exact cs e);have r0:wr.cell? ⟨L,0,none⟩=some (.int .i64 (a:Int)):=B.cell 0;have r1:wr.cell? ⟨L,1,none⟩=some (.slice Ar r.right.length cr):=B.cell 1;have db:L<wr.heap.size:=B.lt;have F:=LH (b5.out.trans (Zn p.out (DP cx) (AI _)));have b6:=LH (v.out.trans (F.out.mono (by rw[<-y.out];exact v.out.size)));have q:(Y2 (Zj G) (Zt G) r kk c).length=n2:=by rw[Kb];exact cb.out
 have u:=N1 (Zj G) (Zt G) r cc.out kk;have V:=LH (a7.out.below b6.out);have O:b<wr.heap.size:=k.out.lt;by_cases cw:kk<r.right.length
 case neg =>
  obtain rfl:kk=r.right.length:=AA
  clear q u B;go_wp2_with fail;go_roundw
  case rel=>exact⟨j+1,AA,AF,F,LH (by rw[ce.out];exact k.out)⟩
  simp[intOf];omega
 obtain⟨sb,so,s,rfl,dk,Hs,qs⟩:=V.out.get cw;have dj:=Z.out s (AL Hs.out);have br:=Uk (Zj G) (Zt G) r kk c;have bp:Um (Zj G) (Zt G) r kk (Y2 (Zj G) (Zt G) r kk c)=if Xk (Zj G) (Zt G) r.right kk s then addAt a (Y6 (-1-s)) (Y2 (Zj G) (Zt G) r kk c) else Y2 (Zj G) (Zt G) r kk c:=by unfold Um;rw[Hs.out];simp only[cd.out]
 have a4:=LH (br.trans bp);have co:=k.out.at (i:=a) (by rw[q];exact cv);have M:gN<b:=by have:=ar.out.lt;rw[y.out] at this;exact this
 have N:gP<b:=by have:=au.out.lt;rw[y.out] at this;exact this
 have cA:=rf_alone (some ⟨sb,so,none⟩) r.right.length cr gN n2 kk r.right (Zj G) wr V.out (Blk.below ar.out F.out M) (by rw[Qe,Qq];exact J) AA Z.out AA AA;have cM:=rf_made (some ⟨sb,so,none⟩) r.right.length cr gP n2 r.right (Zt G) wr V.out (Blk.below au.out F.out N) (by rw[Vx];exact J) AA Z.out;have bt:Xk (Zj G) (Zt G) r.right kk s=(decide (s<0)&&J6 (Zj G) r.right kk&&Xj true (Zt G) r.right):=rfl;have I:=LH bt;generalize J6 (Zj G) r.right kk=T at *;generalize Xj true (Zt G) r.right=tm at *;have CA:=LH cA;have CM:=LH cM;clear br bp cA cM bt M N B;have skip:Xk (Zj G) (Zt G) r.right kk s=false->Hid (V0 wr b (Y2 (Zj G) (Zt G) r (kk+1) c)):=λhf=>LH (by rw[a4.out,hf];exact k.out);have Y:=LH skip;clear skip;by_cases h0:0<=s
 ·have n:=Y.out (by rw[I.out,show decide (s<0)=false by rw[AY];omega];rfl);clear q u;go_wp2_with fail;go_roundw
  case rel=>exact⟨kk+1,AA,AF,n,p⟩
  simp[intOf];omega
 have ak:decide (s<0)=true:=by rw[BB];omega
 rcases (by cases T <;> cases tm <;> simp:T=false\/(T=true/\tm=false)\/(T=true/\tm=true)) with rfl | ⟨rfl,rfl⟩ | ⟨rfl,rfl⟩
 ·have n:=Y.out (by rw[I.out,ak];rfl);clear q u;go_wp2_with (go_at_call 114;(with_reducible refine CA.out.mono ?_);rintro e w'⟨rfl,rfl⟩);go_roundw
  case rel=>exact⟨kk+1,AA,AF,n,p⟩
  simp[intOf];omega
 ·have n:=Y.out (by rw[I.out,ak];rfl);clear q u;go_wp2_with (first
   | (go_at_call 114;(with_reducible refine CA.out.mono ?_);rintro e w'⟨rfl,rfl⟩)
   | (go_at_call 115;(with_reducible refine CM.out.mono ?_);rintro e w'⟨rfl,rfl⟩))
  go_roundw
  case rel=>exact⟨kk+1,AA,AF,n,p⟩
  simp[intOf];omega
 have bu:Xk (Zj G) (Zt G) r.right kk s=true:=by rw[I.out,ak];rfl
 have a5:Hid (Y2 (Zj G) (Zt G) r (kk+1) c=addAt a (Y6 (-1-s)) (Y2 (Zj G) (Zt G) r kk c)):=LH (by rw[a4.out,bu];rfl);have dm:IntKind.i64.wrap (-1-s)=-1-s:=BT _ AA;have cy:=u.get a;have ct:=Ua (-1-s);have di:=or32 ((Y2 (Zj G) (Zt G) r kk c).getD a 0) (Y6 (-1-s)) cy ct;have cf:=LH λx:Ext wr=>V0.put (Blk.ext k.out (Zr wr x):V0 (bl wr x) b (Y2 (Zj G) (Zt G) r kk c)) a ((Y2 (Zj G) (Zt G) r kk c).getD a 0 ||| Y6 (-1-s));have cq:=Blk.frozen k.out a;have CB:=LH λx:Ext wr=>Ch (-1-s) (bl wr x);unfold addAt at a5;generalize (Y2 (Zj G) (Zt G) r kk c).getD a 0 ||| Y6 (-1-s)=z at *
 generalize (Y2 (Zj G) (Zt G) r kk c).getD a 0=dp at *;generalize Y6 (-1-s)=bv at *;have bc:=Yt wr;have bf:=Kh wr;clear bu q u;go_wp2_with (first
  | (go_at_call 114;(with_reducible refine CA.out.mono ?_);rintro e w'⟨rfl,rfl⟩)
  | (go_at_call 115;(with_reducible refine CM.out.mono ?_);rintro e w'⟨rfl,rfl⟩))
 refine Yx 17 AB AB ?_;simp only[List.take_succ_cons,List.take_zero,List.drop_succ_cons,Eg];repeat (go_big_quiet_step ((go_at_call 63;with_reducible exact Qo (CB.out _))))
 refine BK ?_;rintro _⟨x,rfl⟩;have dd:=(bc x b a O).trans co;have de:=(bf x b a O).trans cq;have dl:=Lb wr x;go_wp2_with fail;go_roundw
 case rel=>exact⟨kk+1,AA,AF,LH (by rw[a5.out];exact cf.out x),LH (Zc (Zc p.out (Xz _ (Zr wr x))) (Zd _ _ _ _))⟩
 simp[intOf];omega
theorem order_next(G:Gr)(b:G.right=true)(c:endG G=false)(f:Qx (U2 (Yz G) (Qm G) g) G.nons.length=none):Ck (Qm G) g=0:=by
 have d:=Gr.fits b;rw[<-Wh] at f;refine order_goes (use_closed G d) (λi hi=>?_) (λi hi=>?_) f
 ·rw[Gl G d] at hi;rw[Wh];rcases BD i G.nons.length with a | a
  ·exact a
  have h1:=hi.1;rw[AO,BE (by rw[Vx];exact a)] at h1;cases h1
 cases j:Yw (Yz G) i i
 ·rfl
 exfalso;have h:=Ztx (Jg _ _) hi;have l:i<(Yz G).length:=by
  unfold Qm at hi;rw[J3] at hi;simp only[AR,decide_eq_true_eq] at hi;rw[Wh];exact hi.2.1
 have k:(Vh G).testBit i=true:=by
  unfold Vh cycS;rw[if_pos b,J3,j];simp[h,l]
 have m:(Gy G).testBit i=true:=by
  unfold Gy;rw[if_pos b];exact hi
 have n:Vh G &&& Gy G=0:=by
  unfold endG at c;simpa using c
 have:=Nat.testBit_and (Vh G) (Gy G) i;rw[n,k,m,Nat.zero_testBit] at this;cases this
theorem order_serves{G:Gr}(h:G.right=true)(n:∀i,i<G.nons.length->(Qm G).testBit i=true)(l:endG G=false):Ni G (Y4 (Yz G) (Qm G) G.nons.length G.nons.length).1:=by
 have m:=Gr.fits h;have k:Qm G<4294967296:=Jg _ _;have g:=Zy3 (Yz G) (Qm G) G.nons.length G.nons.length;have r:=order_next G h l (orderS_end (Yz G) G.nons.length k);have q:=(Dl (Yz G) G.nons.length k G.nons.length).mem;generalize Y4 (Yz G) (Qm G) G.nons.length G.nons.length=b at *;have f:∀i∈b.1,i<G.nons.length:=λi hi=>by
  obtain⟨p,s⟩:=BU hi;exact (g.2 p i s).1
 have v:=m.n2;refine⟨f,λp i hi t u=>?_,λi hi=>?_⟩
 ·have h1:=(g.2 p i hi).2;unfold U2 at h1;simp only[AR,BP] at h1;have a:=Nu ((Yz G).getD i 0) (My (b.1.take p)) t;rw[h1.2,Nat.zero_testBit,u,Bool.true_and] at a;have c:(My (b.1.take p)).testBit t=true:=by
   cases d:(My (b.1.take p)).testBit t
   ·rw[d] at a;cases a
   rfl
  exact (thereL_bit _ t λj o=>by have:=f j (List.mem_of_mem_take o);omega).1 c
 have a:=Nu (Qm G) b.2 i;rw[r,Nat.zero_testBit,n i hi,Bool.true_and] at a;have c:b.2.testBit i=true:=by
  cases d:b.2.testBit i
  ·rw[d] at a;cases a
  rfl
 exact (q i).1 c
def Dh(G:Gr)(w:World)(e:Ending)(w':World):Prop:=Below w.heap.size w w' /\
 ((Xp G=false/\∃b:Int,b≠0/\e = .returned (.tuple #[GV noH 0,.slice none 0 0,.int .i64 b])) \/
  (Xp G=true/\∃a c f d,e = .returned (.tuple #[GV a (Zi G).start,.slice c f d,.int .i64 0])/\Yf w' a (Zi G)/\a.n1<=24/\a.n2<=16/\a.n3<=40))
theorem Zyo.plain{G:Gr}{w:World}{e:Ending}(h:Zyo G w e w'):Dh G w e w':=by
 obtain⟨h1,a|⟨a,d,b,m,c,f,g,j,k,l,_⟩⟩:=h
 ·exact⟨h1,.inl a⟩
 exact⟨h1,.inr ⟨a,d,b,m,c,f,g,j,k,l⟩⟩
theorem tr_told(A:Option Addr)(n c:Nat)(b:Bool)(x:Nat)(w:World)(h:Z1 w A n c b x):
 Calls prog 48 #[.agg #[.slice A n c,.bool b]] w (Xr w (Xm x)):=by
 have o:=Zy w (.cells #[.slice A n c,.bool b] 77);have p:=(h.2.below o);have f:=h.2.len;have k:=h.cases;have l:=LH p;have j:=LH o;clear h p;go_enter func48,ntmps48;rcases k with ⟨d,rfl,ex⟩ | ⟨d,rfl,ex⟩
 ·have a:Xm x=(limbs x,0):=by unfold Xm;rw[if_pos d]
  rw[ex] at f l;have g:=LH a;have m:=LH f;clear a ex d f;go_wp2_with fail;go_ret2;unfold Xr;rw[g.out];exact⟨A,c,by rw[<-m.out];rfl,by rw[m.out];exact l.out,j.out⟩
 have a:Xm x=([],2):=by unfold Xm;rw[if_neg d]
 have g:=LH a;clear a ex d f;go_wp2_with fail;go_ret2;unfold Xr;rw[g.out];exact⟨none,0,rfl,Zq.nil _ _ _ _ AA,j.out⟩
noncomputable def Q9(G:Gr):Bool:=Xp G&&eqG G (Zi G)
theorem Zzn{G:Gr}:Q9 G=true↔Xp G=true/\Zi G=G:=by
 unfold Q9;rw[AR,Ztp];exact⟨λh=>⟨h.1,h.2.symm⟩,λh=>⟨h.1,h.2.symm⟩⟩
open Classical in
noncomputable def Wi(G:Gr)(l:List Int)(n:Int):List Nat × Nat :=
 if Q9 G=false\/6<l.length\/n<0\/10<n\/(∃s∈l,G.has s=false) then ([],1)
 else if Vh G≠0 then ([],10) else Xm (Zx (Zv G) l n.toNat)
def B5:Prop:=∀(h:GH) (G:Gr) (w:World),Yf w h G->(∀t∈G.terms,t.name.size<=maxLen)->h.n1<=100->h.n2<=100->h.n3<=100->
    Calls Tryz.prog 88 #[GV h G.start] w λe w'=>Below w.heap.size w w' /\
     ((G.right=false/\e = .returned (.slice none 0 0))\/(G.right=true/\∃g,w.heap.size<=g/\e = .returned (.slice (some ⟨g,0,none⟩) h.n2 h.n2)/\V0 w' g (Yz G)))
theorem tr_Cycles(l:B5)(h:GH)(G:Gr)(w:World)(d:Yf w h G)(C:∀t∈G.terms,t.name.size<=maxLen)(u:Q2 w)(h1:h.n1<=100)(h2:h.n2<=100)(h3:h.n3<=100):
 Calls prog 47 #[GV h G.start] w λe w'=>Below w w w'/\e = .returned (.int .u32 ((Vh G:Nat):Int)):=by
 obtain⟨a1,n1,c1,a2,n2,c2,a3,n3,c3⟩:=h;have q:G.nons.length=n2:=d.nons.len;have k2:=d.nons.cap;simp only[] at h1 h2 h3 k2;have N:=LH u;unfold B5 at l;have L:=LH l;have k:=Zy w (.cells #[.slice a1 n1 c1,.slice a2 n2 c2,.slice a3 n3 c3,.int .i64 G.start] 26);have A:=Y1.new w 26 ⟨a1,n1,c1,a2,n2,c2,a3,n3,c3⟩ G.start;have P:=LH d;have U:=LH C;clear d C u l;go_enter func47,ntmps47;have⟨z5,z0,z1,z2,z3⟩:=A;simp only[] at z0 z1 z2 z3;go_wp2_with fail;generalize w.alloc (.cells #[.slice a1 n1 c1,.slice a2 n2 c2,.slice a3 n3 c3,.int .i64 G.start] 26)=Z at *;(with_reducible refine (L.out ⟨a1,n1,c1,a2,n2,c2,a3,n3,c3⟩ G Z (P.out.below k) U.out (by simp only[];omega) (by simp only[];omega) (by simp only[];omega)).mono ?_);rintro e p⟨y,aj⟩;have f:=LH (Zz k y);clear z0 z1 z2 z3 z5 A k y;rcases aj with ⟨a,rfl⟩ | ⟨a,gS,ag,rfl,r⟩
 ·have g:Hid (Vh G=0):=LH (by unfold Vh;rw[a];rfl);clear a;go_wp2_with fail;go_loop [2,9] (λs i=>s = .int .u32 0/\i = .int .i64 0) (λs i=>0)
  case atStart=>exact⟨rfl,rfl⟩
  obtain⟨rfl,rfl⟩:=hrel;go_wp2_with fail;go_ret;exact⟨f.out,by rw[g.out];rfl⟩
 have m:=Gr.fits a;have T:=m.n2.2;rw[q] at T;have B:=Au G m;have n:(Yz G).length=n2:=by rw[Wh];exact q
 have o:=Ks G;have g:Hid (Vh G=Jb (λi=>Yw (Yz G) i i) n2):=LH (by unfold Vh cycS;rw[a,n];rfl);have M:=LH r;generalize Yz G=S at *;have R:=LH B;have W:=LH n;have Y:=LH o;have O:=LH (Lv o);clear m a r ag o B n;go_wp2_with fail;go_loopw [2,9] (λs i wr=>∃j:Nat,j<=n2/\i = .int .i64 (j:Int)/\s = .int .u32 ((Jb (λi=>Yw S i i) j:Nat):Int)/\Hid (Below p p wr)) (λs i _=>n2-(intOf i).toNat)
 case atStart=>exact⟨0,AU _,rfl,rfl,LH (AK _ _)⟩
 obtain⟨j,hj,rfl,rfl,b⟩:=hrel;by_cases ah:j<n2
 case neg =>
  obtain rfl:j=n2:=AA
  go_wp2_with fail;go_ret;exact⟨Zz f.out b.out,by rw[g.out];rfl⟩
 have J:=LH (tr_reach gS n2 j S wr (Blk.ext M.out b.out) W.out AA ah Y.out R.out (N.out.below (Zz f.out b.out)));have I:=LH λX=>tr_one (j:Int) X;have c:=O.out.get j;have am:=and32 ((Xu S).getD j 0) (Y6 (j:Int)) c (Ua _);have x:=and_one _ c j;have H:((Xu S).getD j 0).testBit j=Yw S j j:=rfl;have E:=Mp (λi=>Yw S i i) j;have ai:=or32 (Jb (λi=>Yw S i i) j) ((Xu S).getD j 0 &&& Y6 (j:Int)) (Jg _ _) (Ev Nat.and_le_left c);have F:Jb (λi=>Yw S i i) j ||| ((Xu S).getD j 0 &&& Y6 (j:Int))=Jb (λi=>Yw S i i) (j+1):=by
  rw[E,x,H];cases Yw S j j
  ·simp
  rfl
 rw[F] at ai;generalize D:Jb (λi=>Yw S i i) (j+1)=s1 at *;have V:=LH D;clear D;generalize Jb (λi=>Yw S i i) j=s0 at *;generalize (Xu S).getD j 0 &&& Y6 (j:Int)=z at *;generalize (Xu S).getD j 0=v at *;generalize Y6 (j:Int)=bj at *;clear x H E F c;go_wp2_with (first
  | (go_at_call 89;(with_reducible refine J.out.mono ?_);rintro e w2⟨rfl,ae⟩)
  | (go_at_call 90;(with_reducible refine (I.out _).mono ?_);rintro e w3⟨rfl,af⟩))
 go_roundw
 case rel=>exact⟨j+1,AA,AF,by rw[V.out],LH (Zz (Zz b.out ae) af)⟩
 simp[intOf];omega
theorem stepsSaid:B5:=tr_Steps
theorem Jc.off{w:World}{B:Nat}{N:Nat}{d:List Nat}{tab:Nat->Nat->Nat}(h:Jc w B A n c N d tab)(f:Off S w w')(h1:∀b,(Value.slice A n c).ownBlock=some b->¬S b)(j:∀g∈d,¬S g)(k:Zf w w'):Jc w' B A n c N d tab :=
 ⟨f.row h.own h1,λg a=>(h.noInt g a).same (f.keep g (h.own.lt g a).2 (h1 g a)),h.nodup,λm g a=>⟨(h.row m g a).1,(h.row m g a).2.kept k (f.keep g (h.row m g a).2.lt (j g (AL a)))⟩⟩
open Classical in
noncomputable def Z2(G:Gr)(n:Int):List Nat × Nat :=
 if G.right=false\/n<0\/10<n then ([],1) else if Xp G=false then ([],0) else Wi (Zi G) [-1-(Zi G).start] n
theorem cnt_of{G:Gr}(b:G.right=true)(d:n<=10)(a:Xp G=true)(hi:Zi G=G)(c:G.start=0):Z2 G (n:Int)=Wi G [-1] (n:Int):=by
 unfold Z2;rw[if_neg,if_neg (by rw[a];simp),hi,c]
 ·rfl
 rintro (h | h | h)
 ·rw[b] at h;cases h
 ·omega
 omega
def V9(G:Gr)(n:Int)(a:List Nat)(c:List Nat)(b:Nat):Prop :=
 (badU G n a/\c=[]/\b=1) \/
 (¬badU G n a/\(Z2 G n).2≠0/\c=[]/\b=(Z2 G n).2) \/
 (¬badU G n a/\(Z2 G n).2=0/\val (Z2 G n).1<=val a/\c=[]/\b=11) \/
 (¬badU G n a/\(Z2 G n).2=0/\val a<val (Z2 G n).1/\∃t,UnT (Zi G) (Zi G).start.toNat n.toNat (val a) t /\
   ((300<t.length/\c=[]/\b=13)\/(t.length<=300/\c=t.map (Yr G)/\b=0)))
def Qp(G:Gr)(n:Int)(f:List Nat)(w:World)(e:Ending)(w':World):Prop:=Below w.heap.size w w' /\
 ∃(a:List Nat) (d:Nat) (b:Option Addr) (c:Nat),e = .returned (.tuple #[.slice b a.length c,.int .i64 (d:Int)])/\Za .i64 w' b a.length c (a.map λi:Nat=>(i:Int))/\V9 G n f a d
def Vj(G:Gr)(t:List Int)(b:List Nat)(a:Nat):Prop :=
 (Xl G t=none/\b=[]/\a=1)\/∃wd ps k,Xl G t=some (wd,ps,k) /\
   ((10<wd.length/\b=[]/\a=5)\/(wd.length<=10/\(Z2 G (wd.length:Int)).2≠0/\b=[]/\a=(Z2 G (wd.length:Int)).2) \/
     (wd.length<=10/\(Z2 G (wd.length:Int)).2=0/\a=0/\∃u r,UnT (Zi G) (Zi G).start.toNat wd.length r u/\t=(u.map (Yr G)).map (λi:Nat=>(i:Int))/\b=limbs r))
theorem UnT.kept{G:Gr}{a r d j:Nat}{u v:List Nat}(h:UnT (Zi G) a n r u)(f:UnT (Zi G) d g j v)(e:u.map (Yr G)=v.map (Yr G)):u=v:=by
 have b:=h.inside.2;have c:=f.inside.2;rw[Fu] at b c;exact Zv9 b c e
section
variable {G:Gr}
theorem Zxa(c:G.Fits)(m:(Zi G).Fits)(hi:i∈Ze G):(Zt (Zi G)).getD (sig G i) false=true:=by
 have:=Zz2 (b:=true) (G:=G) (λi=>(Zt G).getD i false=true/\(i∈Ze G->(Zt (Zi G)).getD (sig G i) false=true)) (λr g f=>?_) ((N0 c).1 hi).1
 ·exact this.2 hi
 have h:Xj true (Zt G) r.right=true:=U8.2 λs a=>⟨(f s a).1,λh0=>((f s a).2 h0).1⟩;have n:=c.left r g;refine⟨Ue (b:=true) g AA h,λj=>?_⟩;have d:=Zub c g j h;rw[<-Zyb d];refine Ue (b:=true) (G:=Zi G) (Zs8.2 ⟨r,d,rfl⟩) ?_ (U8.2 λo l=>⟨λ_=>rfl,λk=>?_⟩)
 ·rw[Zsw,Zyb d];exact (C8 j).2.1
 obtain⟨s,a,rfl⟩:=CW.1 l;have h1:=Ztf c d a;have h0:=h1.1.1 k;rw[h1.2 h0];exact ((f s a).2 h0).2 (Qz c d a h0)
theorem red_reach(a:G.Fits)(d:(Zi G).Fits)(j:(Zt G).getD G.start.toNat false=true)(hi:i∈Ze G):(Z5 (Zi G)).getD (sig G i) false=true:=by
 have:=reach_least (G:=G) (λi=>i∈Ze G/\(Z5 (Zi G)).getD (sig G i) false=true) ⟨Jm a j,by have:=Zz1 d;rwa [Zuo a j] at this⟩ (λr m h l s f h0=>?_) ((N0 a).1 hi).2
 ·exact this.2
 have b:=Zub a m h.1 l;have h1:=Ztf a b f;refine⟨Qz a b f h0,?_⟩;rw[<-h1.2 h0];refine C9 d (Zs8.2 ⟨r,b,rfl⟩) (by rw[Zyb b];exact h.2) (U8.2 λo n=>⟨λ_=>rfl,λg=>?_⟩) (CW.2 ⟨s,f,rfl⟩) (h1.1.2 h0);obtain⟨q,k,rfl⟩:=CW.1 n;have c:=Ztf a b k;rw[c.2 (c.1.1 g)];exact Zxa a d (Qz a b k (c.1.1 g))
end
theorem red_use{G:Gr}(g:G.right=true)(f:(Zt G).getD G.start.toNat false=true){j:Nat}(c:j<(Zi G).nons.length):(Qm (Zi G)).testBit j=true:=by
 have b:=Gr.fits g;have a:=Gr.fits (Ju g f);rw[Zsw] at c;have d:=AM c;have hi:=AL d;have h:=sig_get d;rw[<-h];exact (Gl _ a _).2 ⟨Zxa b a hi,red_reach b a f hi⟩
theorem U7{G:Gr}(a:G.right=true)(f:(Zt G).getD G.start.toNat false=true)(hi:Zi G=G)(d:Vh G=0):Xq G/\endG G=false/\Ni G (Y4 (Yz G) (Qm G) G.nons.length G.nons.length).1:=by
 have c:∀i,i<G.nons.length->(Qm G).testBit i=true:=λi h=>by
  have:=red_use a f (j:=i) (by rw[hi];exact h);rwa [hi] at this
 obtain⟨h1,b⟩:=plain_of a c d;exact⟨h1,b,order_serves a c b⟩
section
open Ieee
theorem Wr.cells{w0 w:World}{p:Nat}{h:GH}{g:Int}{Ar c b:Option Addr}{cr f d:Nat}{a:WSt}(k:Wr w0 w p h g Ar cr c f b d a):p<w.heap.size/\w.cell? ⟨p,2,none⟩=some (.slice h.a3 h.n3 h.c3)/\w.cell? ⟨p,4,none⟩=some (.slice Ar a.rest.length cr)/\w.cell? ⟨p,5,none⟩=some (.slice c a.word.length f)/\w.cell? ⟨p,6,none⟩=some (.slice b a.posts.length d) /\
 w.frozen? ⟨p,4,none⟩=false/\w.frozen? ⟨p,5,none⟩=false/\w.frozen? ⟨p,6,none⟩=false :=
 ⟨k.blk.lt,k.blk.cell 2,k.blk.cell 4,k.blk.cell 5,k.blk.cell 6,k.blk.frozen 4,k.blk.frozen 5,k.blk.frozen 6⟩
end
section
open Go.Maps (Keyed IsMap Tidy)
theorem Zs6(h1:l.length<=100)(j:n<=1000):∃q,keyOf prog 223 (kB l n)=some q:=by
 have a:prog.keyType 223=true:=AB
 have b:prog.cellsOf 223=2:=AB
 have c:prog.cellsOf 3=1:=AB
 have d:prog.cellsOf 9=1:=AB
 have w1:(str (Vr l)).size<=100:=by rw[Zs1];unfold Vr;rw[BF];exact h1
 have g:(Lit.int .i64 (n:Int)).wf=true:=Mb AA AA;have h:(str (Vr l)).size<=maxLen:=by unfold maxLen;omega
 obtain⟨m,f⟩:=Zy5 Tryz.rowKB AC;unfold keyOf kB;rw[f];simp[underlying223,a,Value.formed,b,Program.keyLits,Value.cells,c,d,underlying3,underlying9,g,h]
theorem Wd.not_map{a w:World}{k:BkH}{h:GH}{G:Gr}(C:Wd a k h G S w){t:TypeId}(b:Blk w g t cs):¬k.map g:=by
 obtain⟨ts,c⟩:=C.known;exact λe=>c.map.ne_blk b e
structure Zxy (G:Gr):Prop where
 red:Q9 G=true
 cyc:Vh G=0
theorem Zt8{G:Gr}(h:(Wi G l (n:Int)).2=0):Zxy G/\l.length<=6/\n<=10/\(∀s∈l,G.has s=true)/\Zx (Zv G) l n<big:=by
 unfold Wi at h;split at h
 ·cases h
 rename_i h1;split at h
 ·cases h
 rename_i b;refine⟨⟨?_,?_⟩,?_,?_,?_,?_⟩
 ·cases d:Q9 G
  ·exact absurd (.inl d) h1
  rfl
 ·exact DX b
 ·exact DX λa=>h1 (.inr (.inl AA))
 ·exact DX λa=>h1 (.inr (.inr (.inr (.inl AA))))
 ·intro s f;cases c:G.has s
  ·exact absurd (.inr (.inr (.inr (.inr ⟨s,f,c⟩)))) h1
  rfl
 rw[DF] at h;unfold Xm at h;exact DX λa=>by rw[if_neg a] at h;cases h
theorem Zua{G:Gr}(a:Zxy G)(d:l.length<=6)(f:n<=10)(b:∀s∈l,G.has s=true):Wi G l (n:Int)=Xm (Zx (Zv G) l n):=by
 unfold Wi;rw[if_neg,if_neg (by rw[a.cyc];exact λh=>h rfl),DF];rintro (h | h | h | h | ⟨s,c,h⟩)
 ·rw[a.red] at h;cases h
 ·omega
 ·omega
 ·omega
 rw[b s c] at h;cases h
end
section
open Go.Maps (Keyed IsMap Tidy)
open Go.Maps (Keyed IsMap Tidy)
structure BkG (W0:World) (h:GH) (G:Gr):Prop where
 told:Zxy G
 at_:Yf W0 h G
 names:∀t∈G.terms,t.name.size<=maxLen
 tab:Q2 W0
 n1:h.n1<=100
 n2:h.n2<=100
 n3:h.n3<=100
theorem Zxm{f w W:World}{k:BkH}{h:GH}{G:Gr}{S':Nat->Prop}{x:Nat}{b:Bool}{n0 c0:Nat}{b0:Bool}(C:Wd f k h G S' W)(a:Blk W g 174 #[.slice A0 n0 c0,.bool b0])(s:Z1 W A n c b x)(m:Off k.map w W)(o:S' g)(h0:f.heap.size<=g)(t:w.heap.size<=g)(r:∀q,S q->S' q):
 Blk ((W.setCell ⟨g,0,none⟩ (.slice A n c)).setCell ⟨g,1,none⟩ (.bool b)) g 174 #[.slice A n c,.bool b]/\Zuw f k h G S w x (.returned (.agg #[.slice A n c,.bool b])) ((W.setCell ⟨g,0,none⟩ (.slice A n c)).setCell ⟨g,1,none⟩ (.bool b)):=by
 have j:Off (λq=>q=g) W ((W.setCell ⟨g,0,none⟩ (.slice A n c)).setCell ⟨g,1,none⟩ (.bool b)):=(Off.of_set W g 0 (.slice A n c)).trans (Off.of_set _ g 1 (.bool b)) λ_ _ h=>h;have l:Zf W ((W.setCell ⟨g,0,none⟩ (.slice A n c)).setCell ⟨g,1,none⟩ (.bool b)):=Zf.of_off j λq d=>by rw[d];exact Jk a
 have p:=C.not_map a;refine⟨(a.set 0 _).set 1 _,(C.move j l λq d=>?_).less r,m.trans j λq d e=>AA,A,n,c,b,rfl,s.kept l⟩;subst d;refine⟨o,h0,?_,p⟩;rintro rfl;have h1:=C.box;unfold Blk at h1 a;rw[h1] at a;injection a with a;injection a with _ h3 _;exact absurd h3 AC
end
section
open Go.Maps (Keyed IsMap Tidy)
open Go.Maps (Keyed IsMap Tidy)
variable {W0:World} {k:BkH} {h:GH} {G:Gr} {S':Nat->Prop} {w:World} {gR:Nat} {b:Nat->Bool} {u:Nat->Value} {X:World}
theorem PM.asked(H:PM W0 k h G S' w gR b u X)(i:Nat)(hi:i=4/\b 14=false\/i=11/\b 15=false):(∃a,Wd W0 k h G a X/\(∀q,a q->q<X.heap.size)/\∀f v,Wd W0 k h G a f->Off k.map X f->PM W0 k h G S' w gR (Mz b i) (upd u i v) f):=by
 obtain⟨⟨a,a1,a2,a3,C,D⟩,E,F,I⟩:=H;refine⟨a,a1,a3,λf v J y=>?_⟩;have m:12≠i:=AA
 have o:13≠i:=AA
 have L:14≠i:=AA
 have M:15≠i:=AA
 have z:∀g t cs,Blk X g t cs->Blk f g t cs:=λg t cs B=>y.blk B (a1.not_map B);refine⟨⟨a,J,a2,λq l=>AJ (a3 q l) y.size,?_,?_⟩,E.map_trans y,z _ _ _ F,?_⟩
 ·rw[Ys m,Ys L,Yj m];intro x;have h1:=(C x).mono (λq l=>l) λg t cs _=>z g t cs;rcases hi with ⟨rfl,j⟩ | ⟨rfl,j⟩
  ·rw[j] at h1 ⊢;obtain⟨g,A,n,c,d,e,p,r,s,_⟩:=h1;exact⟨g,A,n,c,d,e,p,r,s,nofun⟩
  rw[Yj AA];exact h1
 ·rw[Ys o,Ys M,Yj o];intro x;have h1:=(D x).mono (λq l=>l) λg t cs _=>z g t cs;rcases hi with ⟨rfl,j⟩ | ⟨rfl,j⟩
  ·rw[Yj AA];exact h1
  rw[j] at h1 ⊢;obtain⟨g,A,n,c,d,e,p,r,s,_⟩:=h1;exact⟨g,A,n,c,d,e,p,r,s,nofun⟩
 rw[Ys m,Ys o,Yj m,Yj o];exact I
theorem PM.wrote(H:PM W0 k h G S' w gR b u X)(i j p:Nat)(hi:i=14/\j=12/\p=4\/i=15/\j=13/\p=11)(x:b j=true){d:Bool}(hp:u p = .agg #[.slice A n c,.bool d])(hw:w.heap.size<=gR)(af:W0.heap.size<=gR):
 ∃g A0 n0 c0 C,u j = .pointer (some ⟨g,0,none⟩)/\Blk X g 174 #[.slice A0 n0 c0,.bool C]/\∀v,PM W0 k h G S' w gR (Mz b i) (upd u i v) ((X.setCell ⟨g,0,none⟩ (.slice A n c)).setCell ⟨g,1,none⟩ (.bool d))/\Zf X ((X.setCell ⟨g,0,none⟩ (.slice A n c)).setCell ⟨g,1,none⟩ (.bool d)):=by
 obtain⟨⟨o,a1,a2,a3,D,E⟩,M,N,B⟩:=H;have U:Cel o gR X (u j) false undef:=by
  rcases hi with ⟨rfl,rfl,rfl⟩ | ⟨rfl,rfl,rfl⟩
  ·obtain⟨g,A,n,c,d,e,r,l,a,_⟩:=D x;exact⟨g,A,n,c,d,e,r,l,a,nofun⟩
  obtain⟨g,A,n,c,d,e,r,l,a,_⟩:=E x;exact⟨g,A,n,c,d,e,r,l,a,nofun⟩
 obtain⟨g,A0,n0,c0,C,e,r,l,a,_⟩:=U;refine⟨g,A0,n0,c0,C,e,a,λv=>?_⟩;have m:Off (λq=>q=g) X ((X.setCell ⟨g,0,none⟩ (.slice A n c)).setCell ⟨g,1,none⟩ (.bool d)):=(Off.of_set X g 0 (.slice A n c)).trans (Off.of_set _ g 1 (.bool d)) λ_ _ h=>h;have F:Zf X ((X.setCell ⟨g,0,none⟩ (.slice A n c)).setCell ⟨g,1,none⟩ (.bool d)):=Zf.of_off m λq f=>by rw[f];exact Jk a
 have P:Blk ((X.setCell ⟨g,0,none⟩ (.slice A n c)).setCell ⟨g,1,none⟩ (.bool d)) g 174 #[.slice A n c,.bool d]:=(a.set 0 _).set 1 _;have V:g≠k.c:=by
  rintro rfl;have h1:=a1.box;unfold Blk at h1 a;rw[h1] at a;injection a with a;injection a with _ h3 _;exact absurd h3 AC
 have W:=a1.not_map a;have S:=a1.move m F λq f=>by subst f;exact⟨l,AA,V,W⟩
 have Z:=M.trans m λq f e=>AA
 have i1:4≠i:=AA
 have i2:11≠i:=AA
 have y:12≠i:=AA
 have z:13≠i:=AA
 have I:∀{v:Value} {s:Bool} {L:Value},v≠u j->Cel o gR X v s L->Cel o gR ((X.setCell ⟨g,0,none⟩ (.slice A n c)).setCell ⟨g,1,none⟩ (.bool d)) v s L:=λY T=>T.mono (λq f=>f) λg' t cs O R=>m.blk R (by rintro rfl;exact Y (O.trans e.symm));have J:∀(s:Bool),Cel o gR ((X.setCell ⟨g,0,none⟩ (.slice A n c)).setCell ⟨g,1,none⟩ (.bool d)) (u j) s (u p):=λs=>⟨g,A,n,c,d,e,r,l,P,λ_=>hp⟩;refine⟨⟨⟨o,S,a2,λq f=>AJ (a3 q f) m.size,?_,?_⟩,Z,m.blk N (λe=>AA),?_⟩,F⟩
 ·rw[Ys y,Yj y,Yj i1];rcases hi with ⟨rfl,rfl,rfl⟩ | ⟨rfl,rfl,rfl⟩
  ·exact λ_=>J _
  rw[Ys AA];exact λh=>I (B h x) (D h)
 ·rw[Ys z,Yj z,Yj i2];rcases hi with ⟨rfl,rfl,rfl⟩ | ⟨rfl,rfl,rfl⟩
  ·rw[Ys AA];exact λh=>I (B x h).symm (E h)
  exact λ_=>J _
 rw[Ys y,Yj y,Ys z,Yj z];exact B
theorem M4.off{w:World}{base:Nat}(h:M4 w base A n c xs)(f:Off S w w')(d:∀g,(Value.slice A n c).ownBlock=some g->¬S g):M4 w' base A n c xs :=
 ⟨f.row h.1 d,λg b o v j=>h.2 g b o v ((DO (a:=⟨g,o,none⟩) (f.keep g (h.1.lt g b).2 (d g b))).symm.trans j)⟩
end
section
open Go.Maps (Keyed IsMap Tidy)
open Go.Maps (Keyed IsMap Tidy)
variable {W0:World} {k:BkH} {h:GH} {G:Gr} {S':Nat->Prop} {w:World} {gR:Nat} {b:Nat->Bool} {u:Nat->Value} {X:World}
variable {P:Program} {w:World}
theorem run_appendR(base:Nat)(t ty:TypeId)(bytes:Nat)(L:P.underlying t=some (.slice 3))(hi:(P.info? 3).map (λi=>(i.zero,i.size,i.bytes))=some (some (.int .i64 0),1,bytes))(A:Option Addr)(n c:Nat)(xs:List Int)(s:M4 w base A n c xs)(a:Addr)(m c2:Nat)(k:List Int)(hl:k.length=m)(hm:0<m)(I:∀j u,(ints .i64 k)[j]? = some u->w.cell? (a.add j)=some u)(U:n+m<=maxLen)(S:(n+m)*bytes<=140737488355328)(Z:base<=w.heap.size):
 ∃M N w',(Builtin.append_ #[t,t] ty #[.slice A n c,.slice (some a) m c2]).run P w = .ok (.slice M (n+m) N) w'/\M4 w' base M (n+m) N (xs++k)/\w.grownBy w' (Value.slice A n c).ownBlock /\
  (∀b,(Value.slice M (n+m) N).ownBlock=some b->b<w.heap.size->(Value.slice A n c).ownBlock=some b):=by
 obtain⟨i,J,T,y,R⟩:=info_parts hi;have D:(ints .i64 k).length=m*1:=by rw[Y9,hl,Ep]
 have h1:∀u∈ints .i64 k,u.oneCell'=true:=Gu _ _;have al:n+m<=9223372036854775807:=by simp only[maxLen] at U;omega
 have H:ints .i64 (xs++k)=ints .i64 xs++ints .i64 k:=by simp[ints]
 obtain⟨v',w',x,G,O,ah⟩:=run_append_own (P:=P) w base t ty 3 i (.int .i64 0) 1 bytes L J T y R rfl AC _ n _ s.1 a m c2 _ D I h1 U S Z;have X:∀(cs:List Int) (q:Nat) (o:Nat) (v:Value),((ints .i64 cs).toArray++Builtin.zeroCells (Value.int .i64 0).cells q)[o]? = some v->∃z,v = .int .i64 z:=by
  intro cs q o v h;rw[Array.getElem?_append] at h;split at h
  ·rw[DT] at h;exact Zsj h
  have d:=Array.mem_of_getElem? h;have:v = .int .i64 0:=by
   simp[Builtin.zeroCells,Value.cells] at d;obtain⟨p,_,e⟩:=d;rw[Nat.mod_one] at e;exact e.symm
  exact⟨0,this⟩
 rcases s.1.2 with ⟨e,rfl⟩ | ⟨g,cap,F,e,ai,r,ak,aj,aa,am⟩
 ·injection e with e1 _ e2;subst e1 e2;have hx:xs=[]:=BL (by have:=s.1.1;rw[Y9] at this;omega);subst hx;have l:=run_append_nil (P:=P) w t ty 3 i (.int .i64 0) L J T a m c2 _ (by rw[D,y]) I hm AA (by rw[R];rw[BH] at S;omega);rw[l] at x;injection x with hv hw;subst hv hw;simp only[BH] at G ⊢;refine⟨_,_,_,l,⟨by rw[H];exact G,λg r o v f=>?_⟩,O,λb B ae=>?_⟩
  ·simp[Value.ownBlock] at r;subst r;rw[cell_of_row _ w _ _ _ _ (heap_alloc_new w.drew _)] at f;exact X _ _ _ _ f
  simp[Value.ownBlock] at B;omega
 injection e with e1 _ e2;subst e1 e2;have V:∀(o:Nat) (v:Value),F[o]? = some v->∃z,v = .int .i64 z:=λo v h=>s.2 g rfl o v (by rw[cell_of_row _ _ _ _ _ _ r];exact h);by_cases W:n+m<=c
 ·have ab:n*i.size+(ints .i64 k).length<=F.size:=by rw[D,aa,y,<-Nat.add_mul];exact Eu _ W
  have l:=run_append_room (P:=P) w t ty 3 i L J g n c F r a m c2 _ (by rw[D,y]) I h1 W ab;rw[l] at x;injection x with hv hw;subst hv hw;refine⟨_,_,_,l,⟨by rw[H];exact G,λY C o v f=>?_⟩,O,λb B _=>B⟩;simp[Value.ownBlock] at C;subst C;rw[cell_of_row _ _ _ _ _ _ (setRow_heap w g F _ _ _ r)] at f;rw[DT] at f;have d:=AL f;rw[DH,DH] at d;rcases d with (d | d) | d
  ·obtain⟨q,E⟩:=List.mem_iff_getElem?.1 (List.mem_of_mem_take d);exact V q v (by simpa using E)
  ·obtain⟨q,E⟩:=List.mem_iff_getElem?.1 d;exact Zsj E
  obtain⟨q,E⟩:=List.mem_iff_getElem?.1 (List.mem_of_mem_drop d);exact V q v (by simpa using E)
 have holds:∀j u,(ints .i64 xs)[j]? = some u->w.cell? ((⟨g,0,none⟩:Addr).add j)=some u:=s.1.cells (g:=g) rfl;have l:=run_append_grow (P:=P) w t ty 3 i (.int .i64 0) L J T ⟨g,0,none⟩ n c _ (by rw[y];exact s.1.1) holds a m c2 _ (by rw[D,y]) I AA AA (by rw[R];exact growslice_fits AA S);rw[l] at x;injection x with hv hw;subst hv hw;refine⟨_,_,_,l,⟨by rw[H];exact G,λY C o v f=>?_⟩,O,λb B ae=>?_⟩
 ·simp[Value.ownBlock] at C;subst C;rw[cell_of_row _ w _ _ _ _ (heap_alloc_new w.drew _)] at f;refine X (xs++k) (grownCap w (n+m) c 3-(n+m)) o v ?_;rw[H];simpa using f
 simp[Value.ownBlock] at B;omega
end
theorem run_make_cap{P:Program}(t e:TypeId)(k:IntKind)(bytes:Nat)(g:P.underlying t=some (.slice e))(hi:(P.info? e).map (λi=>(i.zero,i.size,i.bytes))=some (some (.int k 0),1,bytes))(n:Nat)(l:bytes*n<=281474976710656)(m:n<=9223372036854775807)(w:World):
 (Instr.makeSlice t (.int .i64 0) (.int .i64 (n:Int))).run P w = .ok (.slice (some ⟨w,0,none⟩) 0 n) (w.alloc (.cells (nums k (List.replicate n 0)).toArray e)):=by
 obtain⟨i,d,j,f,c⟩:=info_parts hi;have b:(i.bytes:Int)*(n:Int)<=281474976710656:=by
  rw[c];have h:((bytes*n:Nat):Int)<=281474976710656:=AA
  rwa [Int.natCast_mul] at h
 have a:=run_make (P:=P) w t e i (.int k 0) g d j .i64 .i64 0 n AA AA b AA;simp only[DF] at a;have h0:Int.toNat 0=0:=rfl;rw[a,f,Ep,h0];simp only[Value.cells,Zui]
theorem own_cap(w:World)(e:TypeId)(k:IntKind)(n:Nat)(a:List Nat)(c:a.length=n)(b:n<=9223372036854775807):
 (w.alloc (.cells (nums k a).toArray e)).ownsRow w e 1 (.slice (some ⟨w,0,none⟩) 0 n) 0 [] :=
 World.ownsRow_made w _ n (AI _) (by simpa [maxLen] using b) (by simp[nums,c])
section
open Go.Shelf
def Jj(G:Gr)(t:List Int)(w:World)(e:Ending)(w':World):Prop:=Below w.heap.size w w' /\
 ∃(a:List Nat) (d:Nat) (b:Option Addr) (c:Nat),e = .returned (.tuple #[.slice b a.length c,.int .i64 (d:Int)])/\Zq .u32 w' b a.length c a/\Vj G t a d
end
section
open Go.Shelf
open Go.ChangeShapes Go.WideShapes Go.ChangeAt Go.RowKit
open Go.ChangeShapes Go.WideShapes Go.ChangeAt Go.RowKit
open Go.ChangeShapes Go.WideShapes Go.ChangeAt Go.RowKit Go.Lib Go.Deep
open Go.ChangeShapes Go.WideShapes Go.ChangeAt Go.RowKit Go.Lib Go.Deep
theorem Zzv(n:Nat)(h:n<=1000)(w:World):
 (Instr.makeSlice 89 (.int .i64 (n:Int)) (.int .i64 (n:Int))).run prog w = .ok (.slice (some ⟨w,0,none⟩) n n) (w.alloc (.cells (zeroCells n) 46)):=by
 obtain⟨i,d,g,f,c⟩:=info_parts Tryz.infoVal;have b:(i.bytes:Int)*(n:Int)<=281474976710656:=by rw[c];omega
 have a:=run_make (P:=prog) w 89 46 i (.agg #[.slice none 0 0,.bool false]) underlying89 d g .i64 .i64 n n AA AA b AA;simp only[DF] at a;rw[a,f];simp only[Value.cells,made_vals]
end
end Go.Proofs.YtggbjdmpjidhgaaGreatDoor
