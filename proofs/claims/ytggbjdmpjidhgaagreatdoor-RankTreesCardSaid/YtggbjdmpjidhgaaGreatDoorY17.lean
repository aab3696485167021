/- the cycles: the reference's, walked. -/
import Derived.Test.YtggbjdmpjidhgaaGreatDoorY12
import Derived.Test.YtggbjdmpjidhgaaGreatDoorY13
import Derived.Test.YtggbjdmpjidhgaaGreatDoorY14
set_option linter.all false
set_option maxHeartbeats 1500000
set_option maxRecDepth 100000
namespace Go.Proofs.YtggbjdmpjidhgaaGreatDoor
open Go.RowKit Go.Proofs.Tryz
variable{n g:Nat}{At f:Option Addr}{tab:Nat->Nat->Nat}{l:List Int}{ts:List ((List Int × Nat) × Nat)}{a:World}
theorem Zvc(h:GH)(G:Gr)(w:World)(B:Yf w h G)(h1:h.n1<=100)(h2:h.n2<=100)(h3:h.n3<=100):
 Calls prog 28 #[GV h G.start] w λe w'=>Below w w w'/\e = .returned (.int .u32 ((Vh G:Nat):Int)):=by
 obtain⟨a1,n1,c1,a2,n2,c2,a3,n3,c3⟩:=h;have T:G.nons.length=n2:=B.nons.len;have k2:=B.nons.cap;simp only[] at h1 h2 h3 k2;have Hg:=LH B;have u:=Zy w (.cells #[.slice a1 n1 c1,.slice a2 n2 c2,.slice a3 n3 c3,.int .i64 G.start] 26);have A:=Y1.new w 26 ⟨a1,n1,c1,a2,n2,c2,a3,n3,c3⟩ G.start;clear B;go_enter func28,ntmps28;have⟨z5,z0,z1,z2,z3⟩:=A;simp only[] at z0 z1 z2 z3;go_wp2_with fail;generalize w.alloc (.cells #[.slice a1 n1 c1,.slice a2 n2 c2,.slice a3 n3 c3,.int .i64 G.start] 26)=m at *;have af:=LH A;have ad:=LH u;(with_reducible refine (Zss ⟨a1,n1,c1,a2,n2,c2,a3,n3,c3⟩ G m (Hg.out.below u) (by simp only[];omega) (by simp only[];omega) (by simp only[];omega)).mono ?_);rintro e W1⟨y,ba⟩;have N:=LH (Zz u y);have ae:=LH y;have E:=A.below y;clear z0 z1 z2 z3 z5 A u y;rcases ba with ⟨o,rfl⟩ | ⟨o,l,W,rfl,C⟩
 ·have⟨y5,y0,y1,y2,y3⟩:=E;simp only[] at y0 y1 y2 y3;have t:Hid (Vh G=0):=LH (by unfold Vh;rw[o];rfl);clear o E;go_wp2_with fail;go_loop [4] (λi=>i = .int .i64 0) (λi=>0)
  case atStart=>rfl
  subst hrel;rcases DJ n2 with rfl | bo
  ·go_wp2_with fail;go_loop [7,8] (λs i=>s = .int .u32 0/\i = .int .i64 0) (λs i=>0)
   case atStart=>exact⟨rfl,rfl⟩
   obtain⟨rfl,rfl⟩:=hrel;go_wp2_with fail;go_ret;exact⟨N.out,by rw[t.out];rfl⟩
  go_wp2_with fail;go_loop [7,8] (λs i=>s = .int .u32 0/\i = .int .i64 0) (λs i=>0)
  case atStart=>exact⟨rfl,rfl⟩
  obtain⟨rfl,rfl⟩:=hrel;go_wp2_with fail;go_ret;exact⟨N.out,by rw[t.out];rfl⟩
 have H:=Gr.fits o;have ap:=H.n2.2;have ao:=H.n2.1;rw[T] at ap ao;have J:(Yz G).length=n2:=by rw[Wh];exact T
 have L:=Ks G;have t:Hid (Vh G=cycS (Yz G)):=LH (by unfold Vh;rw[o];rfl);have a:=LH C;have al:=LH W;have bm:l<W1.heap.size:=C.lt;generalize Yz G=S at *;subst J;have bh:decide (0<S.length)=true:=by rw[BB];omega
 have bi:decide ((0:Int)<(S.length:Int))=true:=by rw[BB];omega
 have ax:=LH L;have aj:=LH (Zsf S);have c:=Lv L;have ai:=LH c;have ah:=LH (Li S);clear H o C W L c E;go_wp2_with fail;go_loopw [4] (λi wr=>∃q:Nat,q<=S.length/\i = .int .i64 (q:Int)/\Hid (Below m m wr)/\Hid (V0 wr l (Z3 (fwI S.length S.length) q S))) (λi _=>S.length-(intOf i).toNat)
 case atStart=>exact⟨0,AV _,rfl,ae,a⟩
 obtain⟨q,hq,rfl,g,a⟩:=hrel;have D:=af.out.below g.out;have⟨y5,y0,y1,y2,y3⟩:=D;simp only[] at y0 y1 y2 y3;by_cases bq:q<S.length
 case neg =>
  obtain rfl:q=S.length:=AA
  rw[aj.out] at a;have V:cycS S=Jb (λi=>Yw S i i) S.length:=rfl;have ag:=LH V;clear V D;go_wp2_with fail;go_loop [7,8] (λs i=>∃j:Nat,j<=S.length/\i = .int .i64 (j:Int)/\s = .int .u32 ((Jb (λi=>Yw S i i) j:Nat):Int)) (λs i=>S.length-(intOf i).toNat)
  case atStart=>exact⟨0,AV _,rfl,rfl⟩
  obtain⟨j,hj,rfl,rfl⟩:=hrel;by_cases I:j<S.length
  case neg =>
   obtain rfl:j=S.length:=AA
   go_wp2_with fail;go_ret;exact⟨Zz ad.out g.out,by rw[t.out,ag.out];rfl⟩
  have U:=a.out.at (i:=j) (by rw[ah.out];exact I);have Y:=ai.out.get j;have n:=Bl ((Xu S).getD j 0) j wr Y;have hx:((Xu S).getD j 0).testBit j=Yw S j j:=rfl;have Z:=Mp (λi=>Yw S i i) j;have J:=Jg (λi=>Yw S i i) j;have a9:=or32 (Jb (λi=>Yw S i i) j) (Y6 (j:Int)) J (Ua _);have R:=Ch (j:Int) wr;rw[hx] at n;generalize (Xu S).getD j 0=v at *;generalize Yw S j j=b at *;generalize Jb (λi=>Yw S i i) j=s0 at *;generalize Y6 (j:Int)=bj at *;have O:=LH Z;have CH:=LH n;have CB:=LH R;clear hx Z n R Y;cases b
  ·go_wp2_with (go_at_call 62;(with_reducible refine CH.out.mono ?_);rintro e w'⟨rfl,rfl⟩);go_round
   case rel=>exact⟨j+1,AA,AF,by rw[O.out];rfl⟩
   simp[intOf];omega
  go_wp2_with (first
   | (go_at_call 62;(with_reducible refine CH.out.mono ?_);rintro e w'⟨rfl,rfl⟩)
   | (go_at_call 63;(with_reducible refine CB.out.mono ?_);rintro e w'⟨rfl,rfl⟩))
  go_round
  case rel=>exact⟨j+1,AA,AF,by rw[O.out];rfl⟩
  simp[intOf];omega
 have ar:Hid (Z3 (fwI S.length S.length) (q+1) S=fwI S.length S.length (Z3 (fwI S.length S.length) q S)):=rfl;have f:=K5 S.length S.length S q;have c:=Lo S.length S.length ax.out q;generalize Z3 (fwI S.length S.length) q S=F at *;have an:=LH f;have aw:=LH c;clear f c D;go_wp2_with fail;clear y0 y1 y2 y3 y5;go_loopw [5] (λi p=>∃j:Nat,j<=S.length/\i = .int .i64 (j:Int)/\Hid (Below m m p)/\Hid (V0 p l (fwI S.length j F))) (λi _=>S.length-(intOf i).toNat)
 case atStart=>exact⟨0,AV _,rfl,g,a⟩
 obtain⟨j,hj,rfl,g,a⟩:=hrel;by_cases I:j<S.length
 case neg =>
  obtain rfl:j=S.length:=AA
  go_wp2_with fail;go_roundw
  case rel=>exact⟨q+1,AA,AF,g,LH (by rw[ar.out];exact a.out)⟩
  simp[intOf];omega
 have aq:=LH (M9 S.length j F);have f:=Zyc S.length F j;have c:=Zzu S.length aw.out j;rw[an.out] at f;generalize fwI S.length j F=r at *;have am:=LH f;have av:=LH c;clear f c;go_wp2_with fail;go_loopw [6] (λi p=>∃k:Nat,k<=S.length/\i = .int .i64 (k:Int)/\Hid (Below m m p)/\Hid (V0 p l (fwR j k r))) (λi _=>S.length-(intOf i).toNat)
 case atStart=>exact⟨0,AV _,rfl,g,a⟩
 obtain⟨k,hk,rfl,g,a⟩:=hrel;by_cases a8:k<S.length
 case neg =>
  obtain rfl:k=S.length:=AA
  go_wp2_with fail;go_roundw
  case rel=>exact⟨j+1,AA,AF,g,LH (by rw[aq.out];exact a.out)⟩
  simp[intOf];omega
 have M:=Mm j k r;have f:=Zyi j r k;have c:=Zzp j av.out k;rw[am.out] at f;generalize fwR j k r=d at *;unfold fwK addAt at M;have U:=a.out.at (i:=j) (by rw[f];exact I);have be:=a.out.at (i:=k) (by rw[f];exact a8);have a6:=Blk.frozen a.out j;have X:l<wr.heap.size:=a.out.lt;have n:=Bl (d.getD j 0) k wr (c.get j);have a9:=or32 (d.getD j 0) (d.getD k 0) (c.get j) (c.get k);have au:=LH λx:Ext wr=>V0.put (Blk.ext a.out (Zr wr x):V0 (bl wr x) l d) j (d.getD j 0 ||| d.getD k 0);have CH:=LH n;have bc:=Yt wr;have bf:=Kh wr;generalize (d.getD j 0).testBit k=b at *;generalize d.getD j 0 ||| d.getD k 0=z at *
 generalize d.getD j 0=vj at *;generalize d.getD k 0=vk at *;have P:=LH M;clear M f c n;cases b
 ·go_wp2_with (go_at_call 62;(with_reducible refine CH.out.mono ?_);rintro e w'⟨rfl,rfl⟩);go_roundw
  case rel=>exact⟨k+1,AA,AF,g,LH (by rw[P.out];exact a.out)⟩
  simp[intOf];omega
 go_wp2_with (go_at_call 62;(with_reducible refine CH.out.mono ?_);rintro e w'⟨rfl,rfl⟩);refine Yx 12 AB AB ?_;simp only[List.take_succ_cons,List.take_zero,List.drop_succ_cons,Ee];repeat (go_big_quiet_step (fail))
 refine BK ?_;rintro _⟨x,rfl⟩;have bg:=(bc x l j X).trans U;have bk:=(bf x l j X).trans a6;have br:=Lb wr x;go_wp2_with fail;go_roundw
 case rel=>exact⟨k+1,AA,AF,LH (Zg (Zz g.out (Zr wr x)) _ _ _ al.out),LH (by rw[P.out];exact au.out x)⟩
 simp[intOf];omega
theorem plain_of{G:Gr}(c:G.right=true)(d:∀i,i<G.nons.length->(Qm G).testBit i=true)(a:Vh G=0):Xq G/\endG G=false:=by
 have b:=Gr.fits c;refine⟨⟨b,λi hi=>((Gl G b i).1 (d i hi)).1,λi hi=>?_⟩,?_⟩
 ·cases f:Yw (Yz G) i i
  ·rfl
  have:=(cyc_bit b i).2 ⟨hi,f⟩;unfold Vh at a;rw[if_pos c] at a;rw[a,Nat.zero_testBit] at this;cases this
 unfold endG;rw[a,Nat.zero_and];rfl
theorem red_use{G:Gr}(g:G.right=true)(f:(Zt G).getD G.start.toNat false=true){j:Nat}(c:j<(Zi G).nons.length):(Qm (Zi G)).testBit j=true:=by
 have b:=Gr.fits g;have a:=Gr.fits (Ju g f);rw[Zsw] at c;have d:=AN c;have hi:=AM d;have h:=sig_get d;rw[<-h];exact (Gl _ a _).2 ⟨Zxa b a hi,red_reach b a f hi⟩
theorem U7{G:Gr}(a:G.right=true)(f:(Zt G).getD G.start.toNat false=true)(hi:Zi G=G)(d:Vh G=0):Xq G/\endG G=false/\Ni G (Y4 (Yz G) (Qm G) G.nons.length G.nons.length).1:=by
 have c:∀i,i<G.nons.length->(Qm G).testBit i=true:=λi h=>by
  have:=red_use a f (j:=i) (by rw[hi];exact h);rwa [hi] at this
 obtain⟨h1,b⟩:=plain_of a c d;exact⟨h1,b,order_serves a c b⟩
theorem Ztn(A:Option Addr)(n c N:Nat)(tab:Nat->Nat->Nat)(b:Int)(k:Nat)(w:World)(C:Zyq w A n c N tab)(T:k<n)(S:N<=1000)(af:k<=1000)(z:b<0->-(N:Int)<=b):
 Calls prog 95 #[.slice A n c,.int .i64 b,.int .i64 (k:Int)] w (RetV w (Yk tab b k)):=by
 have h:=Zy w (.cells #[.slice none 0 0,.bool false] 46);have a:=Blk.new w 46 #[.slice none 0 0,.bool false];have D:=C.below h;clear C;go_enter func95,ntmps95;go_upto_region 1 with fail;generalize w.alloc (.cells #[.slice none 0 0,.bool false] 46)=W at *;have c0:W.cell? ⟨w,0,none⟩=some (.slice none 0 0):=a.cell 0;have c1:W.cell? ⟨w,1,none⟩=some (.bool false):=a.cell 1;have P:=a.frozen 0;have R:=a.frozen 1;have V:=a.lt;by_cases h0:0<=b
 ·have U:¬(b<0):=AA
  have l:Yk tab b k=K0 k:=by unfold Yk;rw[if_pos h0]
  have t:=LH l;clear l D z;by_cases x:k=1
  ·subst x;have M:=LH a;have L:=LH h;clear a h;go_wp2_with fail;(with_reducible refine (Zsl W).mono ?_);rintro e B⟨v,o,r,c3,q,rfl,m⟩;have f:=M.out.ext v;have d:=LH (Vb f (Zz L.out v) (AJ _) o r c3 q);have X:B.cell? ⟨w,0,none⟩=some (.slice none 0 0):=f.cell 0;have Y:B.cell? ⟨w,1,none⟩=some (.bool false):=f.cell 1;have Z:=f.frozen 0;have aa:=f.frozen 1;have ai:=f.lt;have u:=LH m;clear c0 c1 P R V f m v;go_wp2_with fail;refine AW (AY (p:=6) AB _ _ w 46 #[.slice o r c3,.bool q] (0,0) _ rfl d.out.2.1 underlying46 rfl AB) rfl ?_;refine⟨d.out.1,_,_,_,_,rfl,?_⟩;rw[t.out];exact u.out.kept d.out.2.2
  have ae:((k:Int)==1)=false:=by rw[AQ];omega
  have J:K0 k=0:=by unfold K0;rw[if_neg x]
  have O:=LH J;have d:=LH (Vb a h (AJ _) none 0 0 false);clear a h J x;go_wp2_with fail;refine AW (AY (p:=6) AB _ _ w 46 #[.slice none 0 0,.bool false] (0,0) _ rfl d.out.2.1 underlying46 rfl AB) rfl ?_;refine⟨d.out.1,_,_,_,_,rfl,?_⟩;rw[t.out,O.out];exact Z1.zero _ _ _ AA
 have l:Yk tab b k=tab k (Zp b):=by unfold Yk;rw[if_neg h0]
 obtain⟨j,F,G,hw⟩:=Vy (s:=b) (n:=N) AA (z AA) S;rw[G] at l;obtain⟨_,_,E⟩:=D;obtain⟨tb,am,rfl,ag,H⟩:=E AA;obtain⟨g,ab,y⟩:=H k T;obtain⟨o,r,c3,q,q0,q1,m⟩:=y.get (j:=j) (by simp;exact F);have ad:=y.lt;have I:((List.range N).map (tab k)).getD j 0=tab k j:=by rw[AP,By,List.getElem?_range F];rfl
 rw[I] at m;have t:=LH l;have u:=LH m;have d:=LH (Vb a h (AJ _) o r c3 q);have U:b<0:=AA
 clear l m I H E y a h z G;go_wp2_with fail;refine AW (AY (p:=6) AB _ _ w 46 #[.slice o r c3,.bool q] (0,0) _ rfl d.out.2.1 underlying46 rfl AB) rfl ?_;refine⟨d.out.1,_,_,_,_,rfl,?_⟩;rw[t.out];exact u.out.kept d.out.2.2
theorem Di{y:World}{k:CH}{h:GH}{G:Gr}{s:Int}(h0:0<=s)(O:n<=100):Zw5 y k h G s n:=by
 intro S w C D;have f:=Zy w (.cells #[.slice none 0 0,.bool false] 77);have b:=Blk.new w 77 #[.slice none 0 0,.bool false];have j:=C.more f (AJ w);have l:Off k.maps w (w.alloc (.cells #[.slice none 0 0,.bool false] 77)):=Off.of_below f;have E:=C.base.size;go_enter func155,ntmps155;go_upto_region 1 with fail;generalize w.alloc (.cells #[.slice none 0 0,.bool false] 77)=d at *;have t:=LH j;have v:=LH b;have u:=LH l;have H:=b.lt;have c0:d.cell? ⟨w,0,none⟩=some (.slice none 0 0):=b.cell 0;have c1:d.cell? ⟨w,1,none⟩=some (.bool false):=b.cell 1;have A:=b.frozen 0;have B:=b.frozen 1;have x:Hid (Zv G s n=K0 n):=Xb G h0 n;clear j b l f C D;go_wp2_with fail;(with_reducible refine (tr_exactly n d AA).mono ?_);rintro e g⟨c,r,I,c3,z,rfl,o⟩;have a:=v.out.ext c;have m:=LH (Uw (S':=S) (t.out.below c) a o (u.out.maps_trans (Off.of_below c)) (.inr rfl) E (AJ _) λq F => .inl F);have J:g.cell? ⟨w,0,none⟩=some (.slice none 0 0):=a.cell 0;have L:g.cell? ⟨w,1,none⟩=some (.bool false):=a.cell 1;have M:=a.frozen 0;have N:=a.frozen 1;have P:=a.lt;clear c0 c1 A B H a o c;go_wp2_with fail;refine AW (AY (p:=6) AB _ _ w 77 #[.slice r I c3,.bool z] (0,0) _ rfl m.out.1 underlying77 rfl AB) rfl ?_;rw[x.out];exact m.out.2
theorem tr_forest1{o:World}{k:CH}{h:GH}{G:Gr}{S:Nat->Prop}(s:Int)(d:List Int)(Al:Option Addr)(g m u v:Nat)(X:World)(C:Yo o k h G S X)(O:∀b,S b->b<X.heap.size)(H:Blk X u 78 #[.pointer (some ⟨k.c,0,none⟩)])(I:Blk X v 27 #[.slice Al (d.length+1) g])(ag:∀w:World,(Instr.sliceAt 27 (.slice Al (d.length+1) g) (some (.int .i64 1)) none none).run prog w = .ok (.slice At d.length (g-1)) w)(M:ForC o k h G At d.length (g-1) d m):
 Calls prog 93 #[.int .i64 (m:Int),.pointer (some ⟨u,0,none⟩),.pointer (some ⟨v,0,none⟩)] X (CRet o k h G S X (Zx (Zv G) d m)):=by
 have j:=Zy X (.cells #[.slice none 0 0,.bool false] 77);have R:=Blk.new X 77 #[.slice none 0 0,.bool false];have J:=C.more j (AJ X);have N:Off k.maps X (X.alloc (.cells #[.slice none 0 0,.bool false] 77)):=Off.of_below j;have r:=H.ext j;have t:=I.ext j;have ae:=C.base.size;have P:∀b,(S b\/b=X.heap.size)->b<(X.alloc (.cells #[.slice none 0 0,.bool false] 77)).heap.size:=λb l=>by
  rw[Zl];rcases l with l | rfl
  ·exact Nat.lt_succ_of_lt (O b l)
  exact Em _
 go_enter func93,ntmps93;go_upto_region 1 with fail;generalize X.alloc (.cells #[.slice none 0 0,.bool false] 77)=f at *;have z:=LH J;have D:=LH R;have B:=LH N;have aa:=LH P;have Y:=LH M;have l2:=r.lt;have l3:=t.lt;have p0:f.cell? ⟨u,0,none⟩=some (.pointer (some ⟨k.c,0,none⟩)):=r.cell 0;have t0:f.cell? ⟨v,0,none⟩=some (.slice Al (d.length+1) g):=t.cell 0;clear C H I r t J R N j M O P;have bc:=Yt f;refine Yx 4 AB AB ?_;simp only[List.take_succ_cons,List.take_zero,List.drop_succ_cons,Ee];repeat (go_big_quiet_step (fail))
 refine BK ?_;rintro _⟨y,rfl⟩;have n:=Zr f y;have A:=LH (z.out.below n);have Z:=LH (B.out.maps_trans (Off.of_below n));have E:=LH (D.out.ext n);have W:=LH (Y.out _ _ A.out λb l=>AK (aa.out b l) n.size);clear ag bc n p0 t0 l2 l3 z B D;generalize bl f y=W2 at *;go_wp2_with (
  go_at_call 50;(with_reducible refine W.out.mono ?_);rintro e U⟨L,x,V,n2,c2,d2,rfl,T⟩;have a:=x.blk E.out (A.out.not_map E.out);have F:=LH (Uw (S':=S) L a T (Z.out.maps_trans x) (.inr rfl) ae (AJ _) λq hq => .inl hq);have c0:U.cell? ⟨X,0,none⟩=some (.slice none 0 0):=a.cell 0;have c1:U.cell? ⟨X,1,none⟩=some (.bool false):=a.cell 1;have f0:=a.frozen 0;have f1:=a.frozen 1;have l4:=a.lt;clear L x T a)
 refine AW (AY (p:=4) AB _ _ X 77 #[.slice V n2 c2,.bool d2] (0,0) _ rfl F.out.1 underlying77 rfl AB) rfl ?_;exact F.out.2
theorem tr_start(h:GH)(G:Gr)(w:World)(hg:Yf w h G)(hs:∀t∈G.terms,t.name.size<=maxLen)(h1:h.n1<=100)(z:h.n2<=100)(h3:h.n3<=100)(hr:G.right=true):
 Calls prog 49 #[GV h G.start] w (RetStart h G w):=by
 obtain⟨a1,n1,c1,a2,n2,c2,a3,n3,c3⟩:=h;simp only[] at h1 z h3;have Hg:=LH hg;have Hs:=LH hs;have aq:=Zy w (.cells #[.slice a1 n1 c1,.slice a2 n2 c2,.slice a3 n3 c3,.int .i64 G.start] 26);have av:=Y1.new w 26 ⟨a1,n1,c1,a2,n2,c2,a3,n3,c3⟩ G.start;clear hg hs;go_enter func49,ntmps49;go_upto_region 1 with fail;generalize w.alloc (.cells #[.slice a1 n1 c1,.slice a2 n2 c2,.slice a3 n3 c3,.int .i64 G.start] 26)=S at *;have⟨z5,z0,z1,z2,z3⟩:=av;simp only[] at z0 z1 z2 z3;have Z:=LH aq;have Hr:=LH hr;have b5:=@run_makeMap prog;clear av aq hr;refine H6 (λlisted a X=>∃bb0 bb1 bb2 bb3 u o l g:Bool,∃u3 u4 u5 u6 u7 u8 u9 u2:Value,listed=#[bb0,bb1,bb2,bb3,u,o,l,g]/\a=(⟨(GV ⟨a1,n1,c1,a2,n2,c2,a3,n3,c3⟩ G.start::Value.pointer (some ⟨w,0,none⟩)::u2::u3::u4::u5::u6::u7::u8::u9::[]).toArray,[]⟩:Act)/\(g=false->Below S S X)/\(g=true->∃k:CH,u2=Value.pointer (some ⟨k.c,0,none⟩)/\Below w w X/\Yo w k ⟨a1,n1,c1,a2,n2,c2,a3,n3,c3⟩ G (λ_=>False) X)/\(bb0=true->u3=Value.agg #[Value.slice a1 n1 c1,Value.slice a2 n2 c2,Value.slice a3 n3 c3,Value.int .i64 G.start])/\(bb1=true->u4=Value.agg #[Value.slice a1 n1 c1,Value.slice a2 n2 c2,Value.slice a3 n3 c3,Value.int .i64 G.start])/\(bb2=true->g=false->∃j,u5=Value.slice (some ⟨j,0,none⟩) n2 n2/\S.heap.size<=j/\Z8 X j (Zj G))/\(bb3=true->g=false->∃j,u6=Value.map (some j)/\S.heap.size<=j/\Vv prog 247 X j []/\(u=true->u6≠u7))/\(u=true->g=false->∃j,u7=Value.map (some j)/\S.heap.size<=j/\Vv prog 251 X j [])/\(o=true->g=false->∃T L M,u8=Value.agg #[Value.slice a1 n1 c1,Value.slice a2 n2 c2,Value.slice a3 n3 c3,Value.int .i64 G.start,Value.slice (some ⟨T,0,none⟩) n2 n2,Value.map (some L),Value.map (some M)]/\S.heap.size<=T/\S.heap.size<=L/\S.heap.size<=M/\Z8 X T (Zj G)/\Vv prog 247 X L []/\Vv prog 251 X M []/\L≠M)/\(l=true->g=false->∃k:CH,u9=Value.pointer (some ⟨k.c,0,none⟩)/\Blk X k.c 141 #[Value.slice a1 n1 c1,Value.slice a2 n2 c2,Value.slice a3 n3 c3,Value.int .i64 G.start,Value.slice (some ⟨k.n,0,none⟩) n2 n2,Value.map (some k.t),Value.map (some k.f)]/\Z8 X k.n (Zj G)/\Vv prog 247 X k.t []/\Vv prog 251 X k.f []/\k.t≠k.f/\S.heap.size<=k.t/\S.heap.size<=k.f)/\(bb2=true->bb1=true)/\(o=true->bb0=true/\bb2=true/\bb3=true/\u=true)/\(l=true->o=true)/\(g=true->l=true)) AB AB ?_ ?_ ?_
 ·exact⟨false,false,false,false,false,false,false,false,undef,undef,undef,undef,undef,undef,undef,(Value.pointer none),rfl,rfl,λ_=>(AL _ _).drew,nofun,nofun,nofun,nofun,nofun,nofun,nofun,nofun,nofun,nofun,nofun,nofun⟩
 ·refine Xc.cons rfl (λQ listed a X B s v KK C=>?_) ?_
  ·obtain⟨bb0,bb1,bb2,bb3,u,o,l,g,u3,u4,u5,u6,u7,u8,u9,u2,rfl,rfl,x,D,r⟩:=B;have b:=LH r;clear r;have b0:bb0=false:=s;have q:g=false:=by cases h:g with | false=>rfl | true=>exact absurd (((b.out.2.2.2.2.2.2.2.2.1 ((b.out.2.2.2.2.2.2.2.2.2.1 ((b.out.2.2.2.2.2.2.2.2.2.2 h)))))).1) (by rw[b0];exact DB)
   have m:=x q;have bh:=(m.cell (p:=⟨w,0,none⟩) z5).trans z0;have bi:=(m.cell (p:=⟨w,1,none⟩) z5).trans z1;have bj:=(m.cell (p:=⟨w,2,none⟩) z5).trans z2;have bk:=(m.cell (p:=⟨w,3,none⟩) z5).trans z3;have bz:=AK z5 m.size;clear s v;go_simp;obtain⟨F,H,I,J,E,U,V,P,y,R,O⟩:=b.out;exact C _ _ ⟨true,bb1,bb2,bb3,u,o,l,g,_,u4,u5,u6,u7,u8,u9,u2,rfl,rfl,x,D,λ_=>rfl,H,I,J,E,U,V,P,λh=>⟨rfl,(((y h)).2).1,((((y h)).2).2).1,((((y h)).2).2).2⟩,R,O⟩
  refine Xc.cons rfl (λQ listed a X B s v KK C=>?_) ?_
  ·obtain⟨bb0,bb1,bb2,bb3,u,o,l,g,u3,u4,u5,u6,u7,u8,u9,u2,rfl,rfl,x,D,r⟩:=B;have b:=LH r;clear r;have b1:bb1=false:=s;have q:g=false:=by cases h:g with | false=>rfl | true=>exact absurd ((b.out.2.2.2.2.2.2.2.1 ((((b.out.2.2.2.2.2.2.2.2.1 ((b.out.2.2.2.2.2.2.2.2.2.1 ((b.out.2.2.2.2.2.2.2.2.2.2 h)))))).2).1))) (by rw[b1];exact DB)
   have m:=x q;have bh:=(m.cell (p:=⟨w,0,none⟩) z5).trans z0;have bi:=(m.cell (p:=⟨w,1,none⟩) z5).trans z1;have bj:=(m.cell (p:=⟨w,2,none⟩) z5).trans z2;have bk:=(m.cell (p:=⟨w,3,none⟩) z5).trans z3;have bz:=AK z5 m.size;clear s v;go_simp;obtain⟨F,H,I,J,E,U,V,P,y,R,O⟩:=b.out;exact C _ _ ⟨bb0,true,bb2,bb3,u,o,l,g,u3,_,u5,u6,u7,u8,u9,u2,rfl,rfl,x,D,F,λ_=>rfl,I,J,E,U,V,λh=>rfl,y,R,O⟩
  refine Xc.cons rfl (λQ listed a X B s v KK C=>?_) ?_
  ·obtain⟨bb0,bb1,bb2,bb3,u,o,l,g,u3,u4,u5,u6,u7,u8,u9,u2,rfl,rfl,x,D,r⟩:=B;have b:=LH r;clear r;have am:bb2=false:=s;have a6:bb1=true:=v ⟨1,.data⟩ AE rfl;have q:g=false:=by cases h:g with | false=>rfl | true=>exact absurd ((((b.out.2.2.2.2.2.2.2.2.1 ((b.out.2.2.2.2.2.2.2.2.2.1 ((b.out.2.2.2.2.2.2.2.2.2.2 h)))))).2).1) (by rw[am];exact DB)
   have m:=x q;obtain rfl:=b.out.2.1 a6;have Y:o=true->False:=λh=>absurd ((((b.out.2.2.2.2.2.2.2.2.1 h)).2).1) (by rw[am];exact DB);have W:l=true->False:=λh=>absurd ((((b.out.2.2.2.2.2.2.2.2.1 ((b.out.2.2.2.2.2.2.2.2.2.1 h)))).2).1) (by rw[am];exact DB);have br:=Hg.out.below (Zz Z.out m);clear s v;go_simp;(with_reducible refine (Zzh ⟨a1,n1,c1,a2,n2,c2,a3,n3,c3⟩ G X br Hs.out (by simp only[];omega) (by simp only[];omega) (by simp only[];omega)).mono ?_);rintro e w5⟨ai,⟨ay,_⟩ | ⟨_,gn,bs,rfl,bp⟩⟩
   ·rw[Hr.out] at ay;cases ay
   go_simp;obtain⟨F,H,I,J,E,U,V,P,y,R,O⟩:=b.out;exact C _ _ ⟨bb0,bb1,true,bb3,u,o,l,g,u3,_,_,u6,u7,u8,u9,u2,rfl,rfl,λ_=>Zz m ai,λh=>absurd h (by rw[q];exact DB),F,H,λ_ _=>⟨gn,rfl,BD m.size bs,bp⟩,λh1 z=>(J h1 z).elim λj d=>⟨j,d.1,d.2.1,d.2.2.1.below ai,d.2.2.2⟩,λh1 z=>(E h1 z).elim λj d=>⟨j,d.1,d.2.1,d.2.2.below ai⟩,λh=>(Y h).elim,λh=>(W h).elim,λ_=>a6,λh=>⟨((y h)).1,rfl,((((y h)).2).2).1,((((y h)).2).2).2⟩,R,O⟩
  refine Xc.cons rfl (λQ listed a X B s v KK C=>?_) ?_
  ·obtain⟨bb0,bb1,bb2,bb3,u,o,l,g,u3,u4,u5,u6,u7,u8,u9,u2,rfl,rfl,x,D,r⟩:=B;have b:=LH r;clear r;have an:bb3=false:=s;have q:g=false:=by cases h:g with | false=>rfl | true=>exact absurd (((((b.out.2.2.2.2.2.2.2.2.1 ((b.out.2.2.2.2.2.2.2.2.2.1 ((b.out.2.2.2.2.2.2.2.2.2.2 h)))))).2).2).1) (by rw[an];exact DB)
   have m:=x q;have Y:o=true->False:=λh=>absurd (((((b.out.2.2.2.2.2.2.2.2.1 h)).2).2).1) (by rw[an];exact DB);have W:l=true->False:=λh=>absurd (((((b.out.2.2.2.2.2.2.2.2.1 ((b.out.2.2.2.2.2.2.2.2.2.1 h)))).2).2).1) (by rw[an];exact DB);have A:=Zy X (.map #[] 0);have aj:=Vv.made X prog 247;clear s v;go_simp;obtain⟨F,H,I,J,E,U,V,P,y,R,O⟩:=b.out;exact C _ _ ⟨bb0,bb1,bb2,true,u,o,l,g,u3,u4,u5,_,u7,u8,u9,u2,rfl,rfl,λ_=>Zz m A,λh=>absurd h (by rw[q];exact DB),F,H,λh1 z=>(I h1 z).elim λj d=>⟨j,d.1,d.2.1,Blk.ext d.2.2 A⟩,λ_ _=>⟨X,rfl,m.size,aj,λh4 N=>(E h4 q).elim λj d=>by rw[d.1] at N;injection N with N;injection N with N;have:=d.2.2.lt;omega⟩,λh1 z=>(E h1 z).elim λj d=>⟨j,d.1,d.2.1,d.2.2.below A⟩,λh=>(Y h).elim,λh=>(W h).elim,P,λh=>⟨((y h)).1,(((y h)).2).1,rfl,((((y h)).2).2).2⟩,R,O⟩
  refine Xc.cons rfl (λQ listed a X B s v KK C=>?_) ?_
  ·obtain⟨bb0,bb1,bb2,bb3,u,o,l,g,u3,u4,u5,u6,u7,u8,u9,u2,rfl,rfl,x,D,r⟩:=B;have b:=LH r;clear r;have ao:u=false:=s;have q:g=false:=by cases h:g with | false=>rfl | true=>exact absurd (((((b.out.2.2.2.2.2.2.2.2.1 ((b.out.2.2.2.2.2.2.2.2.2.1 ((b.out.2.2.2.2.2.2.2.2.2.2 h)))))).2).2).2) (by rw[ao];exact DB)
   have m:=x q;have Y:o=true->False:=λh=>absurd (((((b.out.2.2.2.2.2.2.2.2.1 h)).2).2).2) (by rw[ao];exact DB);have W:l=true->False:=λh=>absurd (((((b.out.2.2.2.2.2.2.2.2.1 ((b.out.2.2.2.2.2.2.2.2.2.1 h)))).2).2).2) (by rw[ao];exact DB);have A:=Zy X (.map #[] 0);have aj:=Vv.made X prog 251;clear s v;go_simp;obtain⟨F,H,I,J,E,U,V,P,y,R,O⟩:=b.out;exact C _ _ ⟨bb0,bb1,bb2,bb3,true,o,l,g,u3,u4,u5,u6,_,u8,u9,u2,rfl,rfl,λ_=>Zz m A,λh=>absurd h (by rw[q];exact DB),F,H,λh1 z=>(I h1 z).elim λj d=>⟨j,d.1,d.2.1,Blk.ext d.2.2 A⟩,λh1 z=>(J h1 z).elim λj d=>⟨j,d.1,d.2.1,d.2.2.1.below A,λ_ N=>by rw[d.1] at N;injection N with N;injection N with N;have:=d.2.2.1.lt;omega⟩,λ_ _=>⟨X,rfl,m.size,aj⟩,λh=>(Y h).elim,λh=>(W h).elim,P,λh=>⟨((y h)).1,(((y h)).2).1,((((y h)).2).2).1,rfl⟩,R,O⟩
  refine Xc.cons rfl (λQ listed a X B s v KK C=>?_) ?_
  ·obtain⟨bb0,bb1,bb2,bb3,u,o,l,g,u3,u4,u5,u6,u7,u8,u9,u2,rfl,rfl,x,D,r⟩:=B;have b:=LH r;clear r;have a4:o=false:=s;have a5:bb0=true:=v ⟨0,.data⟩ AE rfl;have a7:bb2=true:=v ⟨2,.data⟩ AE rfl;have a8:bb3=true:=v ⟨3,.data⟩ AE rfl;have ap:u=true:=v ⟨4,.data⟩ AE rfl;have q:g=false:=by cases h:g with | false=>rfl | true=>exact absurd ((b.out.2.2.2.2.2.2.2.2.2.1 ((b.out.2.2.2.2.2.2.2.2.2.2 h)))) (by rw[a4];exact DB)
   have m:=x q;obtain rfl:=b.out.1 a5;obtain⟨T,rfl,ak,aa⟩:=b.out.2.2.1 a7 q;obtain⟨L,rfl,ab,ag,bx⟩:=b.out.2.2.2.1 a8 q;obtain⟨M,rfl,ad,ah⟩:=b.out.2.2.2.2.1 ap q;have W:l=true->False:=λh=>absurd ((b.out.2.2.2.2.2.2.2.2.2.1 h)) (by rw[a4];exact DB);clear s v;go_simp;obtain⟨F,H,I,J,E,U,V,P,y,R,O⟩:=b.out;exact C _ _ ⟨bb0,bb1,bb2,bb3,u,true,l,g,_,u4,_,_,_,_,u9,u2,rfl,rfl,x,D,F,H,I,J,E,λ_ _=>⟨T,L,M,rfl,ak,ab,ad,aa,ag,ah,λe=>bx ap (by rw[e])⟩,λh=>(W h).elim,P,λ_=>⟨a5,a7,a8,ap⟩,λh=>rfl,O⟩
  refine Xc.cons rfl (λQ listed a X B s v KK C=>?_) ?_
  ·obtain⟨bb0,bb1,bb2,bb3,u,o,l,g,u3,u4,u5,u6,u7,u8,u9,u2,rfl,rfl,x,D,r⟩:=B;have b:=LH r;clear r;have b2:l=false:=s;have a9:o=true:=v ⟨5,.data⟩ AE rfl;have q:g=false:=by cases h:g with | false=>rfl | true=>exact absurd ((b.out.2.2.2.2.2.2.2.2.2.2 h)) (by rw[b2];exact DB)
   have m:=x q;obtain⟨T,L,M,rfl,ak,ab,ad,aa,ag,ah,ax⟩:=b.out.2.2.2.2.2.1 a9 q;have A:=Zy X (.cells #[Value.slice a1 n1 c1,Value.slice a2 n2 c2,Value.slice a3 n3 c3,Value.int .i64 G.start,Value.slice (some ⟨T,0,none⟩) n2 n2,Value.map (some L),Value.map (some M)] 141);have bo:=Blk.new X 141 #[Value.slice a1 n1 c1,Value.slice a2 n2 c2,Value.slice a3 n3 c3,Value.int .i64 G.start,Value.slice (some ⟨T,0,none⟩) n2 n2,Value.map (some L),Value.map (some M)];clear s v;go_simp;obtain⟨F,H,I,J,E,U,V,P,y,R⟩:=b.out;exact C _ _ ⟨bb0,bb1,bb2,bb3,u,o,true,g,u3,u4,u5,u6,u7,_,_,u2,rfl,rfl,λ_=>Zz m A,λh=>absurd h (by rw[q];exact DB),F,H,λh1 z=>(I h1 z).elim λj d=>⟨j,d.1,d.2.1,Blk.ext d.2.2 A⟩,λh1 z=>(J h1 z).elim λj d=>⟨j,d.1,d.2.1,d.2.2.1.below A,d.2.2.2⟩,λh1 z=>(E h1 z).elim λj d=>⟨j,d.1,d.2.1,d.2.2.below A⟩,λ_ _=>⟨T,L,M,rfl,ak,ab,ad,Blk.ext aa A,ag.below A,ah.below A,ax⟩,λ_ _=>⟨⟨X,T,L,M⟩,rfl,bo,Blk.ext aa A,ag.below A,ah.below A,ax,ab,ad⟩,P,y,λ_=>a9,λh=>rfl⟩
  refine Xc.cons rfl (λQ listed a X B s v KK C=>?_) ?_
  ·obtain⟨bb0,bb1,bb2,bb3,u,o,l,g,u3,u4,u5,u6,u7,u8,u9,u2,rfl,rfl,x,D,r⟩:=B;have b:=LH r;clear r;have b3:g=false:=s;have ba:l=true:=v ⟨6,.data⟩ AE rfl;have q:g=false:=b3;have m:=x q;obtain⟨k,rfl,al,ae,af,bt,bu,bv,bw⟩:=b.out.2.2.2.2.2.2.1 ba q;have ar:=Zz Z.out m;have bb:=LH (And.intro ar (cnt_new (h:=⟨a1,n1,c1,a2,n2,c2,a3,n3,c3⟩) ar al ae af bt bu (BD Z.out.size bv) (BD Z.out.size bw)));clear s v;go_simp;exact C _ _ ⟨bb0,bb1,bb2,bb3,u,o,l,true,u3,u4,u5,u6,u7,u8,_,_,rfl,rfl,nofun,λ_=>⟨k,rfl,bb.out⟩,b.out.1,b.out.2.1,λ_=>nofun,λ_=>nofun,λ_=>nofun,λ_=>nofun,λ_=>nofun,b.out.2.2.2.2.2.2.2.1,b.out.2.2.2.2.2.2.2.2.1,b.out.2.2.2.2.2.2.2.2.2.1,λ_=>ba⟩
  exact Xc.nil
 rintro listed a W9⟨bb0,bb1,bb2,bb3,u,o,l,g,u3,u4,u5,u6,u7,u8,u9,u2,rfl,rfl,x,D,b⟩ au;have bq:=D (au 7 AC);clear x D au b;obtain⟨k,al,ae,af⟩:=bq;subst al;have bd:=LH ae;have be:=LH af;clear ae af;go_wp2_with fail;go_ret;exact⟨bd.out,k,rfl,be.out⟩
theorem two_new(w:World)(t:TypeId)(c1 c2:Array Value):Below w w ((w.alloc (.cells c1 t)).alloc (.cells c2 t))/\Blk ((w.alloc (.cells c1 t)).alloc (.cells c2 t)) w t c1/\Blk ((w.alloc (.cells c1 t)).alloc (.cells c2 t)) (w.heap.size+1) t c2:=by
 have h1:=Blk.new w t c1;have b:=Blk.new (w.alloc (.cells c1 t)) t c2;have c:=Zy w (.cells c1 t);have a:=Zy (w.alloc (.cells c1 t)) (.cells c2 t);rw[Zl] at b;exact⟨Zz c a,h1.ext a,b⟩
theorem tr_rules(At:Option Addr)(d:Nat)(t:Rul)(c:Option Addr)(f:Nat)(u:Rul)(w:World)(h1:Za .i64 w At t.right.length d t.right)(o:Za .i64 w c u.right.length f u.right):
 Calls prog 145 #[.agg #[.int .i64 t.left,.slice At t.right.length d,.int .i64 t.prec],.agg #[.int .i64 u.left,.slice c u.right.length f,.int .i64 u.prec]] w λe w'=>∃b,e = .returned (.bool b)/\(b=true↔t=u)/\Below w w w':=by
 obtain⟨l,j,k⟩:=two_new w 52 #[.int .i64 t.left,.slice At t.right.length d,.int .i64 t.prec] #[.int .i64 u.left,.slice c u.right.length f,.int .i64 u.prec];have q:=LH (tr_EqualI At t.right.length d t.right c u.right.length f u.right _ (h1.below l) (o.below l));clear h1 o;go_enter func145,ntmps145;go_upto_region 1 with fail;generalize (w.alloc (.cells #[.int .i64 t.left,.slice At t.right.length d,.int .i64 t.prec] 52)).alloc (.cells #[.int .i64 u.left,.slice c u.right.length f,.int .i64 u.prec] 52)=W at *;have m:=LH l;have A:W.cell? ⟨w,0,none⟩=some (.int .i64 t.left):=j.cell 0;have a1:W.cell? ⟨w,1,none⟩=some (.slice At t.right.length d):=j.cell 1;have a2:W.cell? ⟨w,2,none⟩=some (.int .i64 t.prec):=j.cell 2;have b0:W.cell? ⟨w+1,0,none⟩=some (.int .i64 u.left):=k.cell 0;have C:W.cell? ⟨w+1,1,none⟩=some (.slice c u.right.length f):=k.cell 1;have D:W.cell? ⟨w+1,2,none⟩=some (.int .i64 u.prec):=k.cell 2;have B:=j.lt;have E:=k.lt;clear j k l;by_cases a:t.left=u.left
 case neg =>
  have y:(t.left==u.left)=false:=by rw[AQ];exact a
  have n:Hid (t≠u):=LH λe=>a (by rw[e]);clear a;go_wp2_with fail;go_ret;exact⟨false,rfl,⟨λh=>(by cases h),λh=>absurd h n.out⟩,m.out⟩
 have y:(t.left==u.left)=true:=by rw[BO];exact a
 by_cases g:t.prec=u.prec
 case neg =>
  have z:(t.prec==u.prec)=false:=by rw[AQ];exact g
  have n:Hid (t≠u):=LH λe=>g (by rw[e]);clear a g;go_wp2_with fail;go_ret;exact⟨false,rfl,⟨λh=>(by cases h),λh=>absurd h n.out⟩,m.out⟩
 have z:(t.prec==u.prec)=true:=by rw[BO];exact g
 have r:=LH a;have s:=LH g;clear a g;go_wp2_with (go_at_call 195;(with_reducible refine q.out.mono ?_);rintro e F⟨v,rfl,p,x⟩);go_ret;refine⟨v,AE,⟨λh=>Zwu.1 (by unfold rulB;rw[r.out,s.out,p.1 h];simp),λh=>p.2 (by rw[h])⟩,Zz m.out x⟩
theorem tr_EqualF(z:Option Addr)(n c1:Nat)(xs:List Rul)(A:Option Addr)(m c2:Nat)(ys:List Rul)(w:World)(h1:Dv w z n c1 xs)(c:Dv w A m c2 ys):
 Calls prog 144 #[.slice z n c1,.slice A m c2,.func (.func 145) #[] #[]] w λe w'=>∃b,e = .returned (.bool b)/\(b=true↔xs=ys)/\Below w w w':=by
 have v:=h1.len;have x:=c.len;have k1:=h1.cap;have k2:=c.cap;have T:=LH h1;have U:=LH c;clear h1 c;by_cases I:n=m
 case neg =>
  have hi:((n:Int) != (m:Int))=true:=by rw[BM];omega
  have J:xs≠ys:=by rintro rfl;omega
  have Z:=LH J;clear J I v x;go_enter func144,ntmps144;go_wp2_with fail;go_ret;exact⟨false,rfl,⟨λh=>(by cases h),λh=>absurd h Z.out⟩,AL _ _⟩
 have hi:((n:Int) != (m:Int))=false:=by rw[BQ];omega
 obtain rfl:n=m:=I;have L1:=LH v;have L2:=LH x;clear v x;go_enter func144,ntmps144;go_wp2_with fail;clear hi;go_loopw [17] (λi wr=>∃q:Nat,q<=n/\i = .int .i64 (q:Int)/\Hid (xs.take q=ys.take q)/\Hid (Below w w wr)) (λi _=>n-(intOf i).toNat)
 case atStart=>exact⟨0,AV _,rfl,LH rfl,LH (AL _ _)⟩
 obtain⟨q,hq,rfl,D,k⟩:=hrel;by_cases L:q<n
 case pos =>
  obtain⟨tb,ax,t,At,a,rfl,ar,E,p0,p1,p2,M⟩:=(T.out.below k.out).get L;obtain⟨s,y,u,j,l,rfl,r,F,O,P,R,N⟩:=(U.out.below k.out).get L;obtain⟨o,f,g⟩:=two_new wr 52 #[.int .i64 t.left,.slice At t.right.length a,.int .i64 t.prec] #[.int .i64 u.left,.slice j u.right.length l,.int .i64 u.prec];have d:=Zy wr (.cells #[.int .i64 t.left,.slice At t.right.length a,.int .i64 t.prec] 52);have S:=LH (tr_rules At a t j l u _ (M.below o) (N.below o));have V:=LH (Zz k.out o);have s0:=(d.cell (p:=⟨s,y+q*3,none⟩) r).trans O;have s1:=(d.cell (p:=⟨s,y+q*3+1,none⟩) r).trans P;have s2:=(d.cell (p:=⟨s,y+q*3+2,none⟩) r).trans R;have af:s<(wr.alloc (.cells #[.int .i64 t.left,.slice At t.right.length a,.int .i64 t.prec] 52)).heap.size:=AK r d.size;clear M N;go_upto_region 7 with fail;generalize (wr.alloc (.cells #[.int .i64 t.left,.slice At t.right.length a,.int .i64 t.prec] 52)).alloc (.cells #[.int .i64 u.left,.slice j u.right.length l,.int .i64 u.prec] 52)=W at *;have a0:W.cell? ⟨wr,0,none⟩=some (.int .i64 t.left):=f.cell 0;have a1:W.cell? ⟨wr,1,none⟩=some (.slice At t.right.length a):=f.cell 1;have a2:W.cell? ⟨wr,2,none⟩=some (.int .i64 t.prec):=f.cell 2;have b0:W.cell? ⟨wr+1,0,none⟩=some (.int .i64 u.left):=g.cell 0;have b1:W.cell? ⟨wr+1,1,none⟩=some (.slice j u.right.length l):=g.cell 1;have b2:W.cell? ⟨wr+1,2,none⟩=some (.int .i64 u.prec):=g.cell 2;have al:=f.lt;have ap:=g.lt;clear f g o d p0 p1 p2 O P R s0 s1 s2 af;go_wp2_with fail;(with_reducible refine S.out.mono ?_);rintro e w6⟨bq,rfl,H,G⟩;have B:=LH (Zz V.out G);have C:=LH H;clear H G;cases bq
  case false =>
   have Y:Hid (xs≠ys):=LH (λe=>by
    have h1:=E.out;rw[e,F.out] at h1;have c:t=u:=by simpa using h1.symm
    have:=C.out.2 c;cases this)
   go_wp2_with fail;go_ret;exact⟨false,rfl,⟨λh=>(by cases h),λh=>absurd h Y.out⟩,B.out⟩
  have aa:Hid (t=u):=C.out.1 rfl;go_wp2_with fail;go_roundw
  case rel=>exact⟨q+1,AA,AF,LH (Qc D.out E.out (by rw[F.out,aa.out])),B⟩
  simp[intOf];omega
 obtain rfl:q=n:=AA
 have X:Hid (xs=ys):=LH (by have:=D.out;rwa [AR (by rw[L1.out];exact AJ _),AR (by rw[L2.out];exact AJ _)] at this);go_wp2_with fail;go_ret;exact⟨true,rfl,⟨λ_=>X.out,λ_=>rfl⟩,k.out⟩
theorem tr_Same(h k:GH)(A B:Gr)(w:World)(T:Yf w h A)(U:Yf w k B):
 Calls prog 85 #[GV h A.start,GV k B.start] w λe w'=>e = .returned (.bool (eqG A B))/\Below w w w':=by
 obtain⟨a1,n1,c1,a2,n2,c2,a3,n3,c3⟩:=h;obtain⟨j,u,n,l,v,o,m,x,p⟩:=k;have y:=LH T;have z:=LH U;have ad:=Y1.new w 26 ⟨a1,n1,c1,a2,n2,c2,a3,n3,c3⟩ A.start;have t:=Y1.new (w.alloc (.cells #[.slice a1 n1 c1,.slice a2 n2 c2,.slice a3 n3 c3,.int .i64 A.start] 26)) 26 ⟨j,u,n,l,v,o,m,x,p⟩ B.start;have X:=Zy w (.cells #[.slice a1 n1 c1,.slice a2 n2 c2,.slice a3 n3 c3,.int .i64 A.start] 26);have M:=Zy (w.alloc (.cells #[.slice a1 n1 c1,.slice a2 n2 c2,.slice a3 n3 c3,.int .i64 A.start] 26)) (.cells #[.slice j u n,.slice l v o,.slice m x p,.int .i64 B.start] 26);have ab:(w.alloc (.cells #[.slice a1 n1 c1,.slice a2 n2 c2,.slice a3 n3 c3,.int .i64 A.start] 26)).heap.size=w.heap.size+1:=Zl _ _;have L:=ad.below M;have V:=Zz X M;clear T U ad X M;go_enter func85,ntmps85;go_upto_region 1 with fail;generalize (w.alloc (.cells #[.slice a1 n1 c1,.slice a2 n2 c2,.slice a3 n3 c3,.int .i64 A.start] 26)).alloc (.cells #[.slice j u n,.slice l v o,.slice m x p,.int .i64 B.start] 26)=W at *;rw[ab] at t;have R:=LH L;have S:=LH t;have f:=LH V;have⟨y5,y0,y1,y2,y3⟩:=L;simp only[] at y0 y1 y2 y3;have⟨z5,z0,z1,z2,z3⟩:=t;simp only[] at z0 z1 z2 z3;clear L t ab V;have g:Hid (A≠B->eqG A B=false):=LH λh=>eqG_no h;have N:=LH (tr_EqualT a1 n1 c1 A.terms j u n B.terms W (y.out.below f.out).terms (z.out.below f.out).terms);go_wp2_with fail;(with_reducible refine N.out.mono ?_);rintro e W2⟨q1,rfl,Y,q⟩;have H:=LH Y;have c:=LH (Zz f.out q);have D:=LH (R.out.below q);have F:=LH (S.out.below q);clear y0 y1 y2 y3 y5 z0 z1 z2 z3 z5 Y q N R S f;have⟨y5,y0,y1,y2,y3⟩:=D.out;simp only[] at y0 y1 y2 y3;have⟨z5,z0,z1,z2,z3⟩:=F.out;simp only[] at z0 z1 z2 z3;cases q1
 case false =>
  have a:Hid (eqG A B=false):=LH (g.out λe=>by have:=H.out.2 (by rw[e]);cases this);go_wp2_with fail;go_ret;exact⟨by rw[a.out];rfl,c.out⟩
 have H1:Hid (A.terms=B.terms):=H.out.1 rfl;have O:=LH (tr_EqualS a2 n2 c2 A.nons l v o B.nons W2 (y.out.below c.out).nons (z.out.below c.out).nons);clear H;go_wp2_with fail;(with_reducible refine O.out.mono ?_);rintro e W3⟨q2,rfl,Z,r⟩;have I:=LH Z;have d:=LH (Zz c.out r);have E:=LH (D.out.below r);have G:=LH (F.out.below r);clear y0 y1 y2 y3 y5 z0 z1 z2 z3 z5 Z r O D F c;have⟨y5,y0,y1,y2,y3⟩:=E.out;simp only[] at y0 y1 y2 y3;have⟨z5,z0,z1,z2,z3⟩:=G.out;simp only[] at z0 z1 z2 z3;cases q2
 case false =>
  have a:Hid (eqG A B=false):=LH (g.out λe=>by have:=I.out.2 (by rw[e]);cases this);go_wp2_with fail;go_ret;exact⟨by rw[a.out];rfl,d.out⟩
 have H2:Hid (A.nons=B.nons):=I.out.1 rfl;have P:=LH (tr_EqualF a3 n3 c3 A.rules m x p B.rules W3 (y.out.below d.out).rules (z.out.below d.out).rules);clear I;go_wp2_with fail;(with_reducible refine P.out.mono ?_);rintro e W4⟨q3,rfl,aa,s⟩;have J:=LH aa;have C:=LH (Zz d.out s);have ah:=LH (E.out.below s);have ai:=LH (G.out.below s);clear y0 y1 y2 y3 y5 z0 z1 z2 z3 z5 aa s P E G d;have⟨y5,y0,y1,y2,y3⟩:=ah.out;simp only[] at y0 y1 y2 y3;have⟨z5,z0,z1,z2,z3⟩:=ai.out;simp only[] at z0 z1 z2 z3;cases q3
 case false =>
  have a:Hid (eqG A B=false):=LH (g.out λe=>by have:=J.out.2 (by rw[e]);cases this);go_wp2_with fail;go_ret;exact⟨by rw[a.out];rfl,C.out⟩
 have H3:Hid (A.rules=B.rules):=J.out.1 rfl;clear J;by_cases b:A.start=B.start
 case neg =>
  have i4:(A.start==B.start)=false:=by rw[AQ];exact b
  have a:Hid (eqG A B=false):=g.out λe=>b (by rw[e]);clear b;go_wp2_with fail;go_ret;exact⟨by rw[a.out];rfl,C.out⟩
 have i4:(A.start==B.start)=true:=by rw[BO];exact b
 have a:Hid (eqG A B=true):=eqG_yes H1.out H2.out H3.out b;clear b;go_wp2_with fail;go_ret;exact⟨by rw[a.out];rfl,C.out⟩
theorem tr_Cycles(l:B5)(h:GH)(G:Gr)(w:World)(d:Yf w h G)(C:∀t∈G.terms,t.name.size<=maxLen)(u:Q2 w)(h1:h.n1<=100)(h2:h.n2<=100)(h3:h.n3<=100):
 Calls prog 47 #[GV h G.start] w λe w'=>Below w w w'/\e = .returned (.int .u32 ((Vh G:Nat):Int)):=by
 obtain⟨a1,n1,c1,a2,n2,c2,a3,n3,c3⟩:=h;have q:G.nons.length=n2:=d.nons.len;have k2:=d.nons.cap;simp only[] at h1 h2 h3 k2;have N:=LH u;unfold B5 at l;have L:=LH l;have k:=Zy w (.cells #[.slice a1 n1 c1,.slice a2 n2 c2,.slice a3 n3 c3,.int .i64 G.start] 26);have A:=Y1.new w 26 ⟨a1,n1,c1,a2,n2,c2,a3,n3,c3⟩ G.start;have P:=LH d;have U:=LH C;clear d C u l;go_enter func47,ntmps47;have⟨z5,z0,z1,z2,z3⟩:=A;simp only[] at z0 z1 z2 z3;go_wp2_with fail;generalize w.alloc (.cells #[.slice a1 n1 c1,.slice a2 n2 c2,.slice a3 n3 c3,.int .i64 G.start] 26)=Z at *;(with_reducible refine (L.out ⟨a1,n1,c1,a2,n2,c2,a3,n3,c3⟩ G Z (P.out.below k) U.out (by simp only[];omega) (by simp only[];omega) (by simp only[];omega)).mono ?_);rintro e p⟨y,aj⟩;have f:=LH (Zz k y);clear z0 z1 z2 z3 z5 A k y;rcases aj with ⟨a,rfl⟩ | ⟨a,gS,ag,rfl,r⟩
 ·have g:Hid (Vh G=0):=LH (by unfold Vh;rw[a];rfl);clear a;go_wp2_with fail;go_loop [2,9] (λs i=>s = .int .u32 0/\i = .int .i64 0) (λs i=>0)
  case atStart=>exact⟨rfl,rfl⟩
  obtain⟨rfl,rfl⟩:=hrel;go_wp2_with fail;go_ret;exact⟨f.out,by rw[g.out];rfl⟩
 have m:=Gr.fits a;have T:=m.n2.2;rw[q] at T;have B:=Au G m;have n:(Yz G).length=n2:=by rw[Wh];exact q
 have o:=Ks G;have g:Hid (Vh G=Jb (λi=>Yw (Yz G) i i) n2):=LH (by unfold Vh cycS;rw[a,n];rfl);have M:=LH r;generalize Yz G=S at *;have R:=LH B;have W:=LH n;have Y:=LH o;have O:=LH (Lv o);clear m a r ag o B n;go_wp2_with fail;go_loopw [2,9] (λs i wr=>∃j:Nat,j<=n2/\i = .int .i64 (j:Int)/\s = .int .u32 ((Jb (λi=>Yw S i i) j:Nat):Int)/\Hid (Below p p wr)) (λs i _=>n2-(intOf i).toNat)
 case atStart=>exact⟨0,AV _,rfl,rfl,LH (AL _ _)⟩
 obtain⟨j,hj,rfl,rfl,b⟩:=hrel;by_cases ah:j<n2
 case neg =>
  obtain rfl:j=n2:=AA
  go_wp2_with fail;go_ret;exact⟨Zz f.out b.out,by rw[g.out];rfl⟩
 have J:=LH (tr_reach gS n2 j S wr (Blk.ext M.out b.out) W.out AA ah Y.out R.out (N.out.below (Zz f.out b.out)));have I:=LH λX=>tr_one (j:Int) X;have c:=O.out.get j;have am:=and32 ((Xu S).getD j 0) (Y6 (j:Int)) c (Ua _);have x:=and_one _ c j;have H:((Xu S).getD j 0).testBit j=Yw S j j:=rfl;have E:=Mp (λi=>Yw S i i) j;have ai:=or32 (Jb (λi=>Yw S i i) j) ((Xu S).getD j 0 &&& Y6 (j:Int)) (Jg _ _) (Ev Nat.and_le_left c);have F:Jb (λi=>Yw S i i) j ||| ((Xu S).getD j 0 &&& Y6 (j:Int))=Jb (λi=>Yw S i i) (j+1):=by
  rw[E,x,H];cases Yw S j j
  ·simp
  rfl
 rw[F] at ai;generalize D:Jb (λi=>Yw S i i) (j+1)=s1 at *;have V:=LH D;clear D;generalize Jb (λi=>Yw S i i) j=s0 at *;generalize (Xu S).getD j 0 &&& Y6 (j:Int)=z at *;generalize (Xu S).getD j 0=v at *;generalize Y6 (j:Int)=bj at *;clear x H E F c;go_wp2_with (first
  | (go_at_call 89;(with_reducible refine J.out.mono ?_);rintro e w2⟨rfl,ae⟩)
  | (go_at_call 90;(with_reducible refine (I.out _).mono ?_);rintro e w3⟨rfl,af⟩))
 go_roundw
 case rel=>exact⟨j+1,AA,AF,by rw[V.out],LH (Zz (Zz b.out ae) af)⟩
 simp[intOf];omega
theorem tr_Steps(h:GH)(G:Gr)(w:World)(hg:Yf w h G)(hs:∀t∈G.terms,t.name.size<=maxLen)(h1:h.n1<=100)(h2:h.n2<=100)(h3:h.n3<=100):
 Calls prog 88 #[GV h G.start] w λe w'=>Below w.heap.size w w' /\
  ((G.right=false/\e = .returned (.slice none 0 0))\/(G.right=true/\∃g,w.heap.size<=g/\e = .returned (.slice (some ⟨g,0,none⟩) h.n2 h.n2)/\V0 w' g (Yz G))):=by
 obtain⟨a1,n1,c1,a2,n2,c2,a3,n3,c3⟩:=h;have e2:G.nons.length=n2:=hg.nons.len;have e3:G.rules.length=n3:=hg.rules.len;have k3:=hg.rules.cap;have k2:=hg.nons.cap;simp only[] at h1 h2 h3 k3 k2;have Hg:=LH hg;have Hs:=LH hs;have cm:=Zy w (.cells #[.slice a1 n1 c1,.slice a2 n2 c2,.slice a3 n3 c3,.int .i64 G.start] 26);have ct:=Y1.new w 26 ⟨a1,n1,c1,a2,n2,c2,a3,n3,c3⟩ G.start;have gf:=Zvx n2 AA;clear hg hs;go_enter func88,ntmps88;have⟨z5,z0,z1,z2,z3⟩:=ct;simp only[] at z0 z1 z2 z3;go_wp2_with fail;generalize w.alloc (.cells #[.slice a1 n1 c1,.slice a2 n2 c2,.slice a3 n3 c3,.int .i64 G.start] 26)=W0 at *;(with_reducible refine (J4 ⟨a1,n1,c1,a2,n2,c2,a3,n3,c3⟩ G W0 (Hg.out.below cm) Hs.out (by simp only[];omega) (by simp only[];omega)).mono ?_);rintro e W⟨rfl,cq⟩;have a4:=Zz cm cq;have cu:=ct.below cq;clear z0 z1 z2 z3 z5 ct;have⟨y5,y0,y1,y2,y3⟩:=cu;simp only[] at y0 y1 y2 y3;rcases bs:G.right with _ | _
 ·go_wp2_with fail;go_ret;exact⟨a4,.inl ⟨bs,rfl⟩⟩
 have du:=Gr.fits bs;have cg:=LH bs;have ca:=LH du;have CN:=LH λX (L:Below W.heap.size W X)=>(Zzh ⟨a1,n1,c1,a2,n2,c2,a3,n3,c3⟩ G X ((Hg.out.below a4).below L) Hs.out (by simp only[];omega) (by simp only[];omega) (by simp only[];omega)).mono λe w' c=>And.intro (Zz L c.1) (And.intro (LH c.1) (c.2.resolve_left λhc=>by rw[cg.out] at hc;cases hc.1).2);have CP:=LH λX (L:Below W.heap.size W X)=>(N4 ⟨a1,n1,c1,a2,n2,c2,a3,n3,c3⟩ G X ((Hg.out.below a4).below L) Hs.out (by simp only[];omega) (by simp only[];omega) (by simp only[];omega)).mono λe w' c=>And.intro (Zz L c.1) (And.intro (LH c.1) (c.2.resolve_left λhc=>by rw[cg.out] at hc;cases hc.1).2);have HS:Hid (∀W',Below W.heap.size W W'->W'.cell? ⟨w.heap.size,0,none⟩=some (.slice a1 n1 c1)/\W'.cell? ⟨w.heap.size,1,none⟩=some (.slice a2 n2 c2)/\W'.cell? ⟨w.heap.size,2,none⟩=some (.slice a3 n3 c3)/\W'.cell? ⟨w.heap.size,3,none⟩=some (.int .i64 G.start)/\Below W.heap.size W W'):=LH λW' L=>⟨by rw[L.cell (by exact y5)];exact y0,by rw[L.cell (by exact y5)];exact y1,by rw[L.cell (by exact y5)];exact y2,by rw[L.cell (by exact y5)];exact y3,L⟩;have fa:=LH a4;have fk:=LH cu;clear bs du a4 cu cm cq;go_upto_region 3 with fail;refine Dq (λlisted a X=>∃b0 u F y A B H:Bool,∃u3 u4 u14 u15 u16 u17:Value,listed=#[b0,u,F,y,A,B,H]/\a=(⟨(GV ⟨a1,n1,c1,a2,n2,c2,a3,n3,c3⟩ G.start::Value.pointer (some ⟨w.heap.size,0,none⟩)::Value.slice none 0 0::u3::u4::undef::undef::undef::undef::undef::undef::Value.agg #[Value.slice a1 n1 c1,Value.slice a2 n2 c2,Value.slice a3 n3 c3,Value.int .i64 G.start]::Value.bool true::Value.bool false::u14::u15::u16::u17::undef::undef::undef::undef::undef::undef::undef::undef::undef::undef::undef::undef::undef::undef::undef::undef::undef::undef::undef::undef::undef::undef::undef::undef::undef::undef::undef::undef::undef::undef::undef::undef::undef::undef::undef::undef::undef::undef::undef::undef::undef::undef::undef::undef::undef::undef::undef::undef::undef::undef::undef::undef::undef::undef::undef::undef::undef::undef::undef::undef::undef::undef::[]).toArray,[]⟩:Act)/\Below W.heap.size W X /\
  (b0=true->u14=Value.agg #[Value.slice a1 n1 c1,Value.slice a2 n2 c2,Value.slice a3 n3 c3,Value.int .i64 G.start])/\(F=true->u16=Value.agg #[Value.slice a1 n1 c1,Value.slice a2 n2 c2,Value.slice a3 n3 c3,Value.int .i64 G.start]) /\
  (u=true->∃C,W.heap.size<=C/\u15=Value.slice (some ⟨C,0,none⟩) n2 n2/\Z8 X C (Zj G)) /\
  (y=true->∃I,W.heap.size<=I/\u17=Value.slice (some ⟨I,0,none⟩) n2 n2/\Z8 X I (Zt G)) /\
  (A=true->∃q v,W.heap.size<=q/\u3=Value.pointer (some ⟨q,0,none⟩)/\Blk X q 97 #[v]/\(B=true->v=u15))/\(B=true->u=true/\A=true)/\(H=true->u4=u17/\y=true)) AB AB ?_ ?_ ?_
 ·exact⟨false,false,false,false,false,false,false,undef,undef,undef,undef,undef,undef,rfl,rfl,(AL _ _).drew,nofun,nofun,nofun,nofun,nofun,nofun,nofun⟩
 ·refine Xw.cons (λlisted a X Y M E K Z=>?_) ?_
  ·obtain⟨b0,u,F,y,A,B,H,u3,u4,u14,u15,u16,u17,rfl,rfl,D,N,P,O,R,S,U,T⟩:=Y;obtain⟨q0,q1,q2,q3,_⟩:=HS.out X D;clear M E;go_simp;exact Z _ _ ⟨true,u,F,y,A,B,H,u3,u4,_,u15,u16,u17,rfl,rfl,D,λ_=>rfl,P,O,R,S,U,T⟩
  refine Xw.cons (λlisted a X Y M E K Z=>?_) ?_
  ·obtain⟨b0,u,F,y,A,B,H,u3,u4,u14,u15,u16,u17,rfl,rfl,D,N,P,O,R,S,U,T⟩:=Y;have p0:b0=true:=E ⟨0,.data⟩ AE rfl;obtain rfl:=N p0;have n1:u=false:=M;have n5:B=true->False:=λh=>by have:=(U h).1;rw[n1] at this;cases this
   clear M E;go_simp;(with_reducible refine (CN.out _ D).mono ?_);rintro e w2⟨cn,a0,C,ar,rfl,an⟩;go_simp;exact Z _ _ ⟨b0,true,F,y,A,B,H,u3,u4,_,_,u16,u17,rfl,rfl,cn,λ_=>rfl,P,λ_=>⟨C,BD D.size ar,rfl,an⟩,λh=>(R h).imp λI c=>⟨c.1,c.2.1,Blk.ext c.2.2 a0.out⟩,λh=>(S h).imp λq c=>c.imp λv hv=>⟨hv.1,hv.2.1,Blk.ext hv.2.2.1 a0.out,λh5=>absurd h5 n5⟩,λh=>absurd h n5,T⟩
  refine Xw.cons (λlisted a X Y M E K Z=>?_) ?_
  ·obtain⟨b0,u,F,y,A,B,H,u3,u4,u14,u15,u16,u17,rfl,rfl,D,N,P,O,R,S,U,T⟩:=Y;obtain⟨q0,q1,q2,q3,_⟩:=HS.out X D;clear M E;go_simp;exact Z _ _ ⟨b0,u,true,y,A,B,H,u3,u4,u14,u15,_,u17,rfl,rfl,D,N,λ_=>rfl,O,R,S,U,T⟩
  refine Xw.cons (λlisted a X Y M E K Z=>?_) ?_
  ·obtain⟨b0,u,F,y,A,B,H,u3,u4,u14,u15,u16,u17,rfl,rfl,D,N,P,O,R,S,U,T⟩:=Y;have p2:F=true:=E ⟨2,.data⟩ AE rfl;obtain rfl:=P p2;have gq:y=false:=M;have n6:H=true->False:=λh=>by have:=(T h).2;rw[gq] at this;cases this
   clear M E;go_simp;(with_reducible refine (CP.out _ D).mono ?_);rintro e w2⟨cn,a0,I,a6,rfl,ax⟩;go_simp;exact Z _ _ ⟨b0,u,F,true,A,B,H,u3,u4,u14,u15,_,_,rfl,rfl,cn,N,λ_=>rfl,λh=>(O h).imp λC c=>⟨c.1,c.2.1,Blk.ext c.2.2 a0.out⟩,λ_=>⟨I,BD D.size a6,rfl,ax⟩,λh=>(S h).imp λq c=>c.imp λv hv=>⟨hv.1,hv.2.1,Blk.ext hv.2.2.1 a0.out,hv.2.2.2⟩,U,λh=>absurd h n6⟩
  refine Xw.cons (λlisted a X Y M E K Z=>?_) ?_
  ·obtain⟨b0,u,F,y,A,B,H,u3,u4,u14,u15,u16,u17,rfl,rfl,D,N,P,O,R,S,U,T⟩:=Y;have n4:A=false:=M;have n5:B=true->False:=λh=>by have:=(U h).2;rw[n4] at this;cases this
   clear M E;go_simp;exact Z _ _ ⟨b0,u,F,y,true,B,H,_,u4,u14,u15,u16,u17,rfl,rfl,Zo D _,N,P,λh=>(O h).imp λC c=>⟨c.1,c.2.1,Blk.ext c.2.2 (Zy _ _)⟩,λh=>(R h).imp λI c=>⟨c.1,c.2.1,Blk.ext c.2.2 (Zy _ _)⟩,λ_=>⟨_,_,D.size,rfl,Blk.new _ _ _,λh5=>absurd h5 n5⟩,λh=>absurd h n5,T⟩
  refine Xw.cons (λlisted a X Y M E K Z=>?_) ?_
  ·obtain⟨b0,u,F,y,A,B,H,u3,u4,u14,u15,u16,u17,rfl,rfl,D,N,P,O,R,S,U,T⟩:=Y;have p1:u=true:=E ⟨1,.data⟩ AE rfl;have p4:A=true:=E ⟨4,.data⟩ AE rfl;obtain⟨C,ar,rfl,an⟩:=O p1;obtain⟨q,v,br,rfl,HK,_⟩:=S p4;have cy:C≠q:=by
    rintro rfl;have h4:=an.symm.trans HK;simp at h4
   have gg:∀I,Z8 X I (Zt G)->I≠q:=by
    rintro I ax rfl;have h4:=ax.symm.trans HK;simp at h4
   have he:X.cell? ⟨q,0,none⟩=some v:=HK.cell 0;have bo:=HK.frozen 0;have hq:=HK.lt;clear M E;go_simp;exact Z _ _ ⟨b0,u,F,y,A,true,H,_,u4,u14,_,u16,u17,rfl,rfl,Zg D q 0 _ br,N,P,λ_=>⟨C,ar,rfl,Blk.other an q 0 _ cy⟩,λh=>(R h).imp λI c=>⟨c.1,c.2.1,Blk.other c.2.2 q 0 _ (gg I c.2.2)⟩,λ_=>⟨q,_,br,rfl,Blk.set HK 0 _,λ_=>rfl⟩,λ_=>⟨p1,p4⟩,T⟩
  refine Xw.cons (λlisted a X Y M E K Z=>?_) ?_
  ·obtain⟨b0,u,F,y,A,B,H,u3,u4,u14,u15,u16,u17,rfl,rfl,D,N,P,O,R,S,U,T⟩:=Y;have p3:y=true:=E ⟨3,.data⟩ AE rfl;clear M E;go_simp;exact Z _ _ ⟨b0,u,F,y,A,B,true,u3,_,u14,u15,u16,u17,rfl,rfl,D,N,P,O,R,S,U,λ_=>⟨rfl,p3⟩⟩
  exact Xw.nil
 rintro listed a w3⟨b0,u,F,y,A,B,H,u3,u4,u14,u15,u16,u17,rfl,rfl,co,N,P,O,R,S,U,T⟩ aj;obtain⟨C,ar,rfl,an⟩:=O (aj 1 AC);obtain⟨I,a6,rfl,ax⟩:=R (aj 3 AC);obtain⟨q,v,br,rfl,de,hv⟩:=S (aj 4 AC);obtain rfl:=hv (aj 5 AC);obtain⟨rfl,_⟩:=T (aj 6 AC);obtain rfl:=N (aj 0 AC);obtain rfl:=P (aj 2 AC);have db:Hid (Z8 w3 C (Zj G)):=LH an;have dc:Hid (Z8 w3 I (Zt G)):=LH ax;have da:Hid (Blk w3 q 97 #[Value.slice (some ⟨C,0,none⟩) n2 n2]):=LH de;have am:=LH (Zz fa.out co);have b9:=LH (fk.out.below co);clear N P O R S U T aj ar a6 br an ax de hv co CN CP HS y0 y1 y2 y3 y5;have⟨y5,y0,y1,y2,y3⟩:=b9.out;simp only[] at y0 y1 y2 y3;go_upto_region 5 with fail;have dl:=V0.new w3 (List.replicate n2 0);have cp:=Zy w3 (.cells (nums .u32 (List.replicate n2 0)).toArray 49);generalize w3.alloc (.cells (nums .u32 (List.replicate n2 0)).toArray 49)=W4 at *;generalize dv:w3.heap.size=f at *;have ah:=LH dv;have fi:=LH dl;have fb:=LH cp;have dr:=b9.out.below (by rw[ah.out];exact cp);clear dv dl cp y0 y1 y2 y3 y5 gf;have⟨y5,y0,y1,y2,y3⟩:=dr;simp only[] at y0 y1 y2 y3;clear dr;go_wp2_with fail;clear y0 y1 y2 y3 y5;go_loopw [25] (λi wr=>∃j:Nat,j<=n3/\i = .int .i64 (j:Int)/\Hid (Below f w3 wr)/\Hid (V0 wr f (Wo (Zj G) (Zt G) (G.rules.take j) (List.replicate n2 0)))) (λi _=>n3-(intOf i).toNat)
 case atStart=>exact⟨0,AV _,rfl,fb,LH (by simpa [Wo] using fi.out)⟩
 obtain⟨j,hj,rfl,HB,V⟩:=hrel;have cv:w3.heap.size=f:=ah.out;have be:=LH (am.out.trans (HB.out.mono (by rw[<-cv];exact am.out.size)));have fw:=b9.out.below (by rw[cv];exact HB.out);clear cv fw;by_cases f8:j<n3
 case neg =>
  obtain rfl:j=n3:=AA
  have Hf:Hid (V0 wr f (Yz G)):=LH (by have:=V.out;rw[AR AA] at this;unfold Yz;rw[e2];exact this);go_wp2_with fail;go_ret;exact⟨be.out,.inr ⟨cg.out,f,by rw[<-ah.out];exact am.out.size,rfl,Hf.out⟩⟩
 obtain⟨bb,hy,r,Ar,cr,rfl,dn,Hr,q0,q1,q2,d0⟩:=Hg.out.rules.get f8;rw[<-be.out.cell (by exact dn)] at q0 q1 q2;have L:bb<wr.heap.size:=AK dn be.out.size;have cf:=LH d0;have bp:=AM Hr.out;have fo:Hid (Wo (Zj G) (Zt G) (G.rules.take (j+1)) (List.replicate n2 0)=Y2 (Zj G) (Zt G) r r.right.length (Wo (Zj G) (Zt G) (G.rules.take j) (List.replicate n2 0))):=LH (by rw[Ya Hr.out,Zz0]);have ds:(Wo (Zj G) (Zt G) (G.rules.take j) (List.replicate n2 0)).length=n2:=by rw[De];simp
 have dt:=Lm (Zj G) (Zt G) (G.rules.take j) (We.zero n2);generalize Wo (Zj G) (Zt G) (G.rules.take j) (List.replicate n2 0)=l at *;obtain⟨l1,l2⟩:=ca.out.left r bp;obtain⟨d,dx⟩:∃d:Nat,r.left=(d:Int):=⟨r.left.toNat,AA⟩;have f9:d<n2:=AA
 have fn:Hid (r.left.toNat=d):=LH AA;have hp:=ca.out.len r bp;have c5:=ca.out.symB bp;rw[e2] at c5;rw[dx] at q0;have dh:=LH c5;have fl:=LH ds;have fm:=LH dt;have cs:=Zy wr (.cells #[.int .i64 (d:Int),.slice Ar r.right.length cr,.int .i64 r.prec] 52);have dk:=Blk.new wr 52 #[.int .i64 (d:Int),.slice Ar r.right.length cr,.int .i64 r.prec];have au:f<wr.heap.size:=V.out.lt;clear d0 c5 ds dt l1 l2 dx bp;go_upto_region 8 with fail;have dd:Hid (V0 (wr.alloc (.cells #[.int .i64 (d:Int),.slice Ar r.right.length cr,.int .i64 r.prec] 52)) f l):=LH (Blk.ext V.out cs);have bd:=LH (HB.out.trans (cs.mono (DN au)));have bg:=LH dk;have hl:f<wr.heap.size:=au;generalize wr.alloc (.cells #[.int .i64 (d:Int),.slice Ar r.right.length cr,.int .i64 r.prec] 52)=WA at *;generalize wr.heap.size=gR at *;clear cs dk q0 q1 q2 V HB be L;have gd:f<WA.heap.size:=dd.out.lt;have fu:=bg.out.lt;have r0:WA.cell? ⟨gR,0,none⟩=some (.int .i64 (d:Int)):=bg.out.cell 0;have r1:WA.cell? ⟨gR,1,none⟩=some (.slice Ar r.right.length cr):=bg.out.cell 1;have fc:=LH (am.out.trans (bd.out.mono (by rw[<-ah.out];exact am.out.size)));have ar:C<f:=by have:=db.out.lt;rw[ah.out] at this;exact this
 have a6:I<f:=by have:=dc.out.lt;rw[ah.out] at this;exact this
 have f7:q<f:=by have:=da.out.lt;rw[ah.out] at this;exact this
 have CC:=LH (Zxu Ar r.right.length cr r.right WA (cf.out.below fc.out) AA);have ff:Hid ((Zj G).length=n2):=LH (by rw[Qe,Qq];exact e2);have CD:=LH λX v' (hB:Below WA.heap.size WA X) (bq:X.ownsRow WA.heap.size 3 1 v' r.right.length (ints .i64 r.right))=>(tr_Del WA.heap.size q C n2 r.right.length (Zj G) r.right v' X bq
  ⟨by rw[(hB.cell (p:=⟨q,0,none⟩) (by show q<_;omega)).trans ((bd.out.cell (p:=⟨q,0,none⟩) f7))];exact da.out.cell 0,λi hi=>by rw[(hB.cell (p:=⟨C,i,none⟩) (by show C<_;omega)).trans ((bd.out.cell (p:=⟨C,i,none⟩) ar))];exact db.out.at (by rw[ff.out];exact hi)⟩ AA AA hB.size AA dh.out).mono λe w' c=>And.intro c.1 (hB.trans c.2)
 go_wp2_with (first
  | (go_at_call 70;(with_reducible refine CC.out.mono ?_);rintro e wc⟨v',rfl,bq,di⟩)
  | (go_at_call 146;(with_reducible refine (CD.out _ _ di bq).mono ?_);rintro e wd⟨⟨Ab,cb,rfl,dp⟩,a5⟩;have gy:=(a5.cell (p:=⟨gR,1,none⟩) fu).trans r1))
 have fd:=LH (bd.out.trans (a5.mono (DN gd)));have fh:=LH (Blk.ext bg.out a5);have b7:Hid (V0 wd f l):=LH (Blk.ext dd.out a5);have b8:=LH dp;have ge:f<wd.heap.size:=b7.out.lt;have hd:=cf.out.cap;clear bq di a5 dp gy r0 r1 CC CD;go_loopw [37] (λi wz=>∃kk:Nat,kk<=r.right.length/\i = .int .i64 (kk:Int)/\Hid (V0 wz f (Y2 (Zj G) (Zt G) r kk l))/\Hid (wd.grownBy wz (some f))) (λi _=>r.right.length-(intOf i).toNat)
 case atStart=>exact⟨0,AV _,rfl,b7,LH (Jl _ _)⟩
 obtain⟨kk,ho,rfl,V,ad⟩:=hrel;have fv:gR≠f:=AA
 have bn:=fh.out.grown ad.out (by intro e;injection e with e;exact fv e);have r0:wr.cell? ⟨gR,0,none⟩=some (.int .i64 (d:Int)):=bn.cell 0;have g9:gR<wr.heap.size:=bn.lt;have bx:=LH (fd.out.trans (Zn ad.out (DN ge) (AJ _)));have fe:=LH (am.out.trans (bx.out.mono (by rw[<-ah.out];exact am.out.size)));have al:(Y2 (Zj G) (Zt G) r kk l).length=n2:=by rw[Kb];exact fl.out
 have af:=N1 (Zj G) (Zt G) r fm.out kk;have fp:=LH (cf.out.below fe.out);have au:f<wr.heap.size:=V.out.lt;by_cases gc:kk<r.right.length
 case neg =>
  obtain rfl:kk=r.right.length:=AA
  clear al af bn;go_wp2_with fail;go_roundw
  case rel=>exact⟨j+1,AA,AF,bx,LH (by rw[fo.out];exact V.out)⟩
  simp[intOf];omega
 obtain⟨sb,so,s,rfl,hr,Hs,qs⟩:=fp.out.get gc;have gj:=dh.out s (AM Hs.out);have dz:=Uk (Zj G) (Zt G) r kk l;have dw:Um (Zj G) (Zt G) r kk (Y2 (Zj G) (Zt G) r kk l)=if Xk (Zj G) (Zt G) r.right kk s then addAt d (Y6 (-1-s)) (Y2 (Zj G) (Zt G) r kk l) else Y2 (Zj G) (Zt G) r kk l:=by unfold Um;rw[Hs.out];simp only[fn.out]
 have cd:=LH (dz.trans dw);have dm:=V.out.at (i:=d) (by rw[al];exact f9);have dj:Z8 wr I (Zt G):=Blk.below dc.out bx.out a6;have fg:Hid ((Zt G).length=n2):=LH (by rw[Vx];exact e2);have c4:=(stands_eq (null_prod G) Hs.out).symm;unfold Zyn at c4;have dq:∀k,k<(Vo (Zj G) r.right).length->∃b o x,Ab=some ⟨b,o,none⟩/\b<wr.heap.size/\Hid ((Vo (Zj G) r.right)[k]? = some x)/\wr.cell? ⟨b,o+k,none⟩=some (.int .i64 x):=λk hk=>by
  obtain⟨b,o,x,e,L,Hx,hc⟩:=b8.out.get hk;have cy:b≠f:=by
   rintro rfl;have h2:=b7.out.cell (o+k);rw[hc] at h2;have h3:((nums .u32 l).toArray)[o+k]? = some (Value.int .i64 x):=h2.symm;simp[nums] at h3
  exact⟨b,o,x,e,AK L ad.out.size,Hx,(Kx ad.out L cy).trans hc⟩
 have ha:=b8.out.cap;have aa:=LH c4;have fj:=LH dq;clear dz dw c4 bn dq b8;generalize Vo (Zj G) r.right=lb at *;have bi:Hid (Xk (Zj G) (Zt G) r.right kk s=false->Hid (V0 wr f (Y2 (Zj G) (Zt G) r (kk+1) l))):=LH λhf=>LH (by rw[cd.out,hf];exact V.out);by_cases h0:0<=s
 ·have Hf:=bi.out (by rw[aa.out,show decide (s<0)=false by rw[BA];omega];rfl);clear al af;go_wp2_with fail;go_roundw
  case rel=>exact⟨kk+1,AA,AF,Hf,ad⟩
  simp[intOf];omega
 have gh:decide (s<0)=true:=by rw[BB];omega
 obtain⟨J,ga,dy,hw⟩:=Vy (s:=s) (n:=n2) AA gj.1 AA;have c0:=Z8.at dj (i:=J) (by rw[fg.out];exact ga);have cc:=LH dy;have dg:Hid (Xk (Zj G) (Zt G) r.right kk s=((true&&(Zt G).getD J false)&&(decide (lb.length=0) || (decide (lb.length=1)&&decide (lb[0]? = some s))))):=LH (by rw[aa.out,gh,cc.out]);clear dy dj aa;have aa:=dg;clear dg;generalize (Zt G).getD J false=pv at *;rcases pv with _ | _
 ·have Hf:=bi.out (by rw[aa.out];rfl);clear al af;go_wp2_with fail;go_roundw
  case rel=>exact⟨kk+1,AA,AF,Hf,ad⟩
  simp[intOf];omega
 rcases (AA:lb.length=0\/lb.length=1\/2<=lb.length) with hm | hm | hm
 ·have Hm:=LH hm;rw[hm] at aa;generalize lb.length=m at *;subst hm;have a7:Xk (Zj G) (Zt G) r.right kk s=true:=by rw[aa.out];rfl
  have ao:Hid (Y2 (Zj G) (Zt G) r (kk+1) l=addAt d (Y6 (-1-s)) (Y2 (Zj G) (Zt G) r kk l)):=LH (by rw[cd.out,a7];rfl);have cz:-1-s=(J:Int):=by have:=cc.out;unfold Zp at this;omega
  rw[cz] at ao;have cx:=af.get d;have cw:=Ua (J:Int);have gi:=or32 ((Y2 (Zj G) (Zt G) r kk l).getD d 0) (Y6 (J:Int)) cx cw;have ce:=LH λx:Ext wr=>V0.put (Blk.ext V.out (Zr wr x):V0 (bl wr x) f (Y2 (Zj G) (Zt G) r kk l)) d ((Y2 (Zj G) (Zt G) r kk l).getD d 0 ||| Y6 (J:Int));have bo:=Blk.frozen V.out d;have CB:=LH λx:Ext wr=>tr_one (J:Int) (bl wr x);unfold addAt at ao;generalize (Y2 (Zj G) (Zt G) r kk l).getD d 0 ||| Y6 (J:Int)=z at *
  generalize (Y2 (Zj G) (Zt G) r kk l).getD d 0=gt at *;generalize Y6 (J:Int)=bv at *;have bc:=Yt wr;have bf:=Kh wr;clear a7 al af;go_upto_region 13 with fail;refine Yx 10 AB AB ?_;simp only[List.take_succ_cons,List.take_zero,List.drop_succ_cons,Ee];repeat (go_big_quiet_step ((go_at_call 90;with_reducible exact Ve (CB.out _))))
  refine BK ?_;rintro _⟨x,rfl⟩;have fx:=(bc x f d au).trans dm;have fz:=(bf x f d au).trans bo;have gk:=Lb wr x;go_wp2_with fail;go_roundw
  case rel=>exact⟨kk+1,AA,AF,LH (by rw[ao.out];exact ce.out x),LH (Zc (Zc ad.out (Xz _ (Zr wr x))) (Zd _ _ _ _))⟩
  simp[intOf];omega
 ·obtain⟨xb,xo,x,rfl,hx,Hx,qx⟩:=fj.out 0 AA;have fq:Hid (decide (lb[0]? = some s)=decide (x=s)):=LH (by rw[Hx.out];simp);rw[hm,fq.out] at aa;have hu:wr.cell? ⟨xb,xo,none⟩=some (.int .i64 x):=qx;generalize lb.length=m at *;subst hm;clear qx;by_cases d2:x=s
  ·subst d2;have a7:Xk (Zj G) (Zt G) r.right kk x=true:=by rw[aa.out];simp
   have ao:Hid (Y2 (Zj G) (Zt G) r (kk+1) l=addAt d (Y6 (-1-x)) (Y2 (Zj G) (Zt G) r kk l)):=LH (by rw[cd.out,a7];rfl);have cz:-1-x=(J:Int):=by have:=cc.out;unfold Zp at this;omega
   rw[cz] at ao;have cx:=af.get d;have cw:=Ua (J:Int);have gi:=or32 ((Y2 (Zj G) (Zt G) r kk l).getD d 0) (Y6 (J:Int)) cx cw;have ce:=LH λx:Ext wr=>V0.put (Blk.ext V.out (Zr wr x):V0 (bl wr x) f (Y2 (Zj G) (Zt G) r kk l)) d ((Y2 (Zj G) (Zt G) r kk l).getD d 0 ||| Y6 (J:Int));have bo:=Blk.frozen V.out d;have CB:=LH λx:Ext wr=>tr_one (J:Int) (bl wr x);unfold addAt at ao;generalize (Y2 (Zj G) (Zt G) r kk l).getD d 0 ||| Y6 (J:Int)=z at *
   generalize (Y2 (Zj G) (Zt G) r kk l).getD d 0=gt at *;generalize Y6 (J:Int)=bv at *;have bc:=Yt wr;have bf:=Kh wr;clear a7 al af;go_upto_region 13 with fail;refine Yx 10 AB AB ?_;simp only[List.take_succ_cons,List.take_zero,List.drop_succ_cons,Ee];repeat (go_big_quiet_step ((go_at_call 90;with_reducible exact Ve (CB.out _))))
   refine BK ?_;rintro _⟨x,rfl⟩;have fx:=(bc x f d au).trans dm;have fz:=(bf x f d au).trans bo;have gk:=Lb wr x;go_wp2_with fail;go_roundw
   case rel=>exact⟨kk+1,AA,AF,LH (by rw[ao.out];exact ce.out x),LH (Zc (Zc ad.out (Xz _ (Zr wr x))) (Zd _ _ _ _))⟩
   simp[intOf];omega
  have Hf:=bi.out (by rw[aa.out,show decide (x=s)=false by rw[BA];exact d2];rfl);clear al af;go_wp2_with fail;go_roundw
  case rel=>exact⟨kk+1,AA,AF,Hf,ad⟩
  simp[intOf];omega
 have Hf:=bi.out (by rw[aa.out,show decide (lb.length=0)=false by rw[BA];omega,show decide (lb.length=1)=false by rw[BA];omega];rfl);have g0:¬((lb.length:Int)=0):=AA
 have g1:¬((lb.length:Int)=1):=AA
 generalize lb.length=m at *;clear al af;go_wp2_with fail;go_roundw
 case rel=>exact⟨kk+1,AA,AF,Hf,ad⟩
 simp[intOf];omega
theorem stepsSaid:B5:=tr_Steps
theorem of_told{G:Gr}(a:Xp G=true)(hi:Zi G=G)(f:Vh G=0){j:List Nat}(o:chkO G j=true)(q:chkT G j tab n=true)(A:n<=10)(y:l.length<=6)(r:(l.all λs=>G.has s)=true){m:Nat}(z:m<=n):Wi G l (m:Int)=Xm (Zx (Yk tab) l m):=by
 have g:G.right=true/\(Zt G).getD G.start.toNat false=true:=by unfold Xp at a;rw[AS] at a;exact a
 obtain⟨c,_,_⟩:=U7 g.1 g.2 hi f;have p:=Bt c.fits o;have u:=Zt9 c p q;have d:=BG.1 r;unfold Wi;rw[if_neg,if_neg (by rw[f];exact λh=>h rfl),DC]
 ·congr 1;refine (Wp λs b k x=>?_).symm;by_cases h0:0<=s
  ·rw[Xb G h0];unfold Yk;rw[if_pos h0]
  have v:=H7 (d s b);have t:Zp s<G.nons.length:=by unfold Zp;omega
  unfold Yk;rw[if_neg h0,u k AA _ t];congr 1;unfold Zp;omega
 rintro (h | h | h | h | ⟨s,b,h⟩)
 ·rw[Zzn.2 ⟨a,hi⟩] at h;cases h
 ·omega
 ·omega
 ·omega
 rw[d s b] at h;cases h
section
open Go.Maps (Keyed IsMap Tidy)
theorem Wd.below{c w w':World}{k:BkH}{h:GH}{G:Gr}{S:Nat->Prop}(C:Wd c k h G S w)(a:Below w w w'):Wd c k h G S w' :=
 C.move (P:=λ_=>False) (Off.of_below a) (.of_below a) λb a=>a.elim
theorem Wd.more{j w w':World}{k:BkH}{h:GH}{G:Gr}{S:Nat->Prop}(C:Wd j k h G S w)(c:Below w w w')(l:w.heap.size<=g):Wd j k h G (λb=>S b\/b=g) w':=by
 have f:=C.below c;refine⟨f.base,f.box,f.low,?_⟩;obtain⟨ts,a⟩:=C.known;refine⟨ts,a.map.below c,a.key,λp d=>⟨(a.val p d).1.kept (.of_below c) (c.block _ (a.val p d).1.lt),?_⟩⟩;rintro (h1 | h1)
 ·exact (a.val p d).2 h1
 have:=(a.val p d).1.lt;omega
theorem Gk.look{w:World}{G:Gr}{S:Nat->Prop}(h:Gk w g G S ts)(a:J1 l n):
 (∃b,(∀x:Ext w,(Instr.lookup 168 (.map (some g)) (kB l n) false).run prog (bl w x) = .ok (.pointer (some ⟨b,0,none⟩)) (bl w x))/\Fx w b (Zx (Zv G) l n)/\¬S b) \/
 (∀x:Ext w,(Instr.lookup 168 (.map (some g)) (kB l n) false).run prog (bl w x) = .ok (.pointer none) (bl w x)):=by
 have m:∀w,(zeroValue 224).run prog w = .ok (.pointer none) w:=λw=>AB
 have s:U4 prog 223 (kB l n):=Zs6 (by have:=a.len;omega) (by have:=a.n;omega);by_cases j:kB l n∈(ts.map λp=>(kB p.1.1 p.1.2,p.2)).map (·.1)
 ·left;obtain⟨b,f,r⟩:=h.map.look Tryz.keyKB j;obtain⟨p,k,c⟩:=CV.1 f;injection c with c hpb;obtain⟨o,q⟩:=kB_inj (h.key p k).sym a.sym c;have d:=h.val p k;rw[o,q,hpb] at d;exact⟨b,λx=>(h.map.below (Zr w x)).look_at Tryz.keyKB underlying168 (m _) f r,d.1,d.2⟩
 exact .inr λx=>(h.map.below (Zr w x)).look_none Tryz.keyKB underlying168 (m _) s j
theorem Gk.there{w:World}{b0:Nat}{G:Gr}{S:Nat->Prop}(h:Gk w g G S ts)(f:((l,n),b0)∈ts):
 ∃b,(∀x:Ext w,(Instr.lookup 168 (.map (some g)) (kB l n) false).run prog (bl w x) = .ok (.pointer (some ⟨b,0,none⟩)) (bl w x))/\Fx w b (Zx (Zv G) l n)/\¬S b:=by
 have s:∀w,(zeroValue 224).run prog w = .ok (.pointer none) w:=λw=>AB
 have r:=h.key _ f;have q:kB l n∈(ts.map λp=>(kB p.1.1 p.1.2,p.2)).map (·.1):=CV.2 ⟨_,CV.2 ⟨_,f,rfl⟩,rfl⟩;obtain⟨b,d,o⟩:=h.map.look Tryz.keyKB q;obtain⟨p,j,a⟩:=CV.1 d;injection a with a hpb;obtain⟨k,m⟩:=kB_inj (h.key p j).sym r.sym a;have c:=h.val p j;rw[k,m,hpb] at c;exact⟨b,λx=>(h.map.below (Zr w x)).look_at Tryz.keyKB underlying168 (s _) d o,c.1,c.2⟩
end
section
open Go.Maps (Keyed IsMap Tidy)
open Go.Maps (Keyed IsMap Tidy)
variable {W0:World} {k:BkH} {h:GH} {G:Gr} {S':Nat->Prop} {w:World} {gR:Nat} {b:Nat->Bool} {u:Nat->Value} {X:World}
theorem PM.made(H:PM W0 k h G S' w gR b u X)(i:Nat)(hi:i=12/\b 14=false\/i=13/\b 15=false):PM W0 k h G S' w gR (Mz b i) (upd u i (.pointer (some ⟨X,0,none⟩))) (X.alloc (.cells #[.slice none 0 0,.bool false] 174)):=by
 obtain⟨⟨l,a1,a2,a3,o,p⟩,A,r,J⟩:=H;have m:=Zy X (.cells #[.slice none 0 0,.bool false] 174);have s:=Blk.new X 174 #[.slice none 0 0,.bool false];have L:=s.lt;have C:=r.lt;have D:4≠i:=AA
 have E:11≠i:=AA
 have F:14≠i:=AA
 have I:15≠i:=AA
 have y:∀(a:Bool) (d:Value),a=false->Cel (λq=>l q\/q=X.heap.size) gR (X.alloc (.cells #[.slice none 0 0,.bool false] 174)) (.pointer (some ⟨X,0,none⟩)) a d:=λa d e=>⟨_,_,_,_,_,rfl,C,.inr rfl,s,λh=>by rw[e] at h;cases h⟩;have z:∀{v:Value} {a:Bool} {d:Value},Cel l gR X v a d->Cel (λq=>l q\/q=X.heap.size) gR (X.alloc (.cells #[.slice none 0 0,.bool false] 174)) v a d:=λn=>n.mono (λq=>Or.inl) λg t cs _ B=>B.ext m;have x:∀{v:Value} {a:Bool} {d:Value},Cel l gR X v a d->v ≠ .pointer (some ⟨X,0,none⟩):=λn e=>by
  subst e;have:=n.lt;omega
 refine⟨⟨_,a1.more m (AJ _),λq f => .inl (a2 q f),λq f=>?_,?_,?_⟩,A.map_trans (Off.of_below m),r.ext m,?_⟩
 ·rcases f with f | rfl
  ·have:=a3 q f;omega
  omega
 ·rw[Ys F,Yj D];rcases hi with ⟨rfl,c⟩ | ⟨rfl,c⟩
  ·rw[D1];exact λ_=>y _ _ c
  rw[Ys AA,Yj AA];exact λh=>z (o h)
 ·rw[Ys I,Yj E];rcases hi with ⟨rfl,c⟩ | ⟨rfl,c⟩
  ·rw[Ys AA,Yj AA];exact λh=>z (p h)
  rw[D1];exact λ_=>y _ _ c
 rcases hi with ⟨rfl,c⟩ | ⟨rfl,c⟩
 ·rw[D1,Ys (j:=13) AA,Yj AA];exact λ_ h=>(x (p h)).symm
 rw[D1,Ys (j:=12) AA,Yj AA];exact λh _=>x (o h)
end
section
variable {W0:World} {k:BkH} {h:GH} {G:Gr} {mk:Nat} {cs:List Nat} {S:Nat->Prop} {A:Option Addr} {c:Nat} {W:World}
theorem Me.off(M:Me W0 k h G mk cs S A c W)(C:Wd W0 k h G S a)(b:Off k.map W a):Me W0 k h G mk cs S A c a :=
 ⟨C,b.blk M.box (M.bk.not_map M.box),M.row.off b λg f=>by
   obtain⟨_,_,q,d⟩:=M.row.blk f;exact M.bk.not_map d,M.own,λq d=>AK (M.lt q d) b.size,M.low,M.few⟩
theorem Me.below(M:Me W0 k h G mk cs S A c W)(b:Below W W a):Me W0 k h G mk cs S A c a:=M.off (M.bk.below b) (Off.of_below b)
theorem Me.push{n b:World}{i:Nat}(M:Me W0 k h G mk cs S A c W)(u:Below W W n)(r:M4 b W0 f (cs.length+1) g (cs.map (λi:Nat=>(i:Int))++[(i:Int)]))(E:n.grownBy b (Value.slice A cs.length c).ownBlock)(L:cs.length≠300):
 Blk b mk 116 #[.pointer (some ⟨k.c,0,none⟩),.slice A cs.length c]/\MkAt W0 k h G mk (cs++[i]) (b.setCell ⟨mk,1,none⟩ (.slice f (cs.length+1) g))/\Zu W (b.setCell ⟨mk,1,none⟩ (.slice f (cs.length+1) g)):=by
 have d:=M.below u;have p:Off (λq=>(Value.slice A cs.length c).ownBlock=some q) n b:=Off.of_grown E;have y:Zu n b:=Zu.of_off p λq a=>d.row.no32 q a;have F:(Value.slice A cs.length c).ownBlock≠some mk:=λe=>by
  obtain⟨_,_,v,j⟩:=d.row.blk e;exact absurd (j.same_ty d.box) AC
 have s:=d.bk.moveN p y λq a=>by
  obtain⟨J,N,v,j⟩:=d.row.blk a;refine⟨d.own.2 q a,J,λe=>?_,d.bk.not_map j⟩;have h1:=d.bk.box;rw[<-e] at h1;exact absurd (h1.same_ty j) AC
 have l:=p.blk d.box F;have m:=Off.of_set b mk 1 (.slice f (cs.length+1) g);have H:∀o z,b.cell? ⟨mk,o,none⟩≠some (Value.int .u32 z):=λo z x=>by
  rw[l.cell o] at x;rcases o with _ | _ | o <;> cases x
 have B:Zu b (b.setCell ⟨mk,1,none⟩ (.slice f (cs.length+1) g)):=Zu.of_off m λq a o z=>by rw[a];exact H o z
 have C:(Value.slice f (cs.length+1) g).ownBlock≠some mk:=λe=>by
  obtain⟨_,_,v,j⟩:=r.blk e;exact absurd (j.same_ty l) AC
 have D:=(s.moveN m B λq a=>by
  subst a;exact⟨M.own.1,M.low,M.ne_c,s.not_map l⟩).wide (P:=λq=>(Value.slice f (cs.length+1) g).ownBlock=some q) λq a v j=>by
   obtain⟨_,_,O,I⟩:=(r.off m λq a e=>C (by rw[a,e])).blk a;exact absurd (j.same_ty I) AC
 have t:=r.off m λq a e=>C (by rw[a,e]);refine⟨l,⟨_,f,g,D,?_,?_,⟨.inl M.own.1,λq a => .inr ?_⟩,λq a=>?_,M.low,?_⟩,((Zu.of_below u).trans y).trans B⟩
 ·rw[AU];exact l.set 1 _
 ·rw[AU,DF];exact t
 ·rw[AU] at a;exact a
 ·rcases a with a | a
  ·exact AK (d.lt q a) (BD p.size m.size)
  exact (t.blk a).2.1
 have:=M.few;rw[AU,CU];omega
end
section
variable {W0:World} {k:BkH} {h:GH} {G:Gr} {tk:Nat} {z:List Int} {S:Nat->Prop} {A:Option Addr} {c:Nat} {W:World}
theorem Cc.off(M:Cc W0 k h G tk z S A c W)(C:Wd W0 k h G S a)(b:Off k.map W a):Cc W0 k h G tk z S A c a :=
 ⟨C,b.blk M.box (M.bk.not_map M.box),M.row.kept (M.bk.keep b),M.own,λq d=>AK (M.lt q d) b.size,M.low⟩
theorem Cc.below(M:Cc W0 k h G tk z S A c W)(b:Below W W a):Cc W0 k h G tk z S A c a:=M.off (M.bk.below b) (Off.of_below b)
end
theorem tr_open(h:GH)(G:Gr)(w:World):
 Calls prog 72 #[GV h G.start] w λe w'=>∃gc k,e = .returned (.pointer (some ⟨gc,0,none⟩))/\Wd w ⟨gc,k⟩ h G (λ_=>False) w'/\w.heap.size<=gc/\gc<w'.heap.size:=by
 obtain⟨a1,n1,c1,a2,n2,c2,a3,n3,c3⟩:=h;have g:=Zy w (.cells #[.slice a1 n1 c1,.slice a2 n2 c2,.slice a3 n3 c3,.int .i64 G.start] 26);have b:=Blk.new w 26 #[.slice a1 n1 c1,.slice a2 n2 c2,.slice a3 n3 c3,.int .i64 G.start];have o:=@run_makeMap prog;go_enter func72,ntmps72;go_upto_region 1 with fail;generalize w.alloc (.cells #[.slice a1 n1 c1,.slice a2 n2 c2,.slice a3 n3 c3,.int .i64 G.start] 26)=a at *;have q:a.cell? ⟨w,0,none⟩=some (.slice a1 n1 c1):=b.cell 0;have r:a.cell? ⟨w,1,none⟩=some (.slice a2 n2 c2):=b.cell 1;have s:a.cell? ⟨w,2,none⟩=some (.slice a3 n3 c3):=b.cell 2;have t:a.cell? ⟨w,3,none⟩=some (.int .i64 G.start):=b.cell 3;have u:=b.lt;have c:=LH g;clear g b;go_wp2_with fail;go_ret;have m:=Vv.made a prog 223;have l:=Zy a (.map #[] 0);have n:(a.alloc (.map #[] 0)).heap.size=a.heap.size+1:=AE
 have j:=Zy (a.alloc (.map #[] 0)) (.cells #[.slice a1 n1 c1,.slice a2 n2 c2,.slice a3 n3 c3,.int .i64 G.start,.map (some a)] 170);have d:=Blk.new (a.alloc (.map #[] 0)) 170 #[.slice a1 n1 c1,.slice a2 n2 c2,.slice a3 n3 c3,.int .i64 G.start,.map (some a)];rw[n] at d;refine⟨a+1,a.heap.size,rfl,⟨Zz (Zz c.out l) j,d,c.out.size,[],m.below j,λp f=>(by cases f),λp f=>(by cases f)⟩,by have:=c.out.size;omega,d.lt⟩
