/- the cycles: the reference's, walked. -/
import Derived.Test.YtaagompdgiobeaaGreatDoorV11
import Derived.Test.YtaagompdgiobeaaGreatDoorV12
import Derived.Test.YtaagompdgiobeaaGreatDoorV13
import Derived.Test.YtaagompdgiobeaaGreatDoorV14
set_option linter.all false
set_option maxHeartbeats 1500000
set_option maxRecDepth 100000
namespace Go.Proofs.YtaagompdgiobeaaGreatDoor
open Go.RowKit Go.Proofs.Tryz
variable{g r i c base n:Nat}{s:Int}{S:Nat->Prop}{ts:List ((List Int × Nat) × Nat)}{a w':World}{j t:List Nat}{A At:Option Addr}{xs l:List Int}
theorem order_next(G:Gr)(b:G.right=true)(c:endG G=false)(f:Qx (U2 (Yz G) (Qm G) g) G.nons.length=none):Ck (Qm G) g=0:=by
 have d:=Gr.fits b;rw[<-Wh] at f;refine order_goes (use_closed G d) (λi hi=>?_) (λi hi=>?_) f
 ·rw[Gl G d] at hi;rw[Wh];rcases BD i G.nons.length with a | a
  ·exact a
  have h1:=hi.1;rw[AP,BE (by rw[Vx];exact a)] at h1;cases h1
 cases j:Yw (Yz G) i i
 ·rfl
 exfalso;have h:=Ztx (Jg _ _) hi;have l:i<(Yz G).length:=by
  unfold Qm at hi;rw[J3] at hi;simp only[AU,decide_eq_true_eq] at hi;rw[Wh];exact hi.2.1
 have k:(Vh G).testBit i=true:=by
  unfold Vh cycS;rw[if_pos b,J3,j];simp[h,l]
 have m:(Gy G).testBit i=true:=by
  unfold Gy;rw[if_pos b];exact hi
 have n:Vh G &&& Gy G=0:=by
  unfold endG at c;simpa using c
 have:=Nat.testBit_and (Vh G) (Gy G) i;rw[n,k,m,Nat.zero_testBit] at this;cases this
theorem order_serves{G:Gr}(h:G.right=true)(n:∀i,i<G.nons.length->(Qm G).testBit i=true)(l:endG G=false):Ni G (Y4 (Yz G) (Qm G) G.nons.length G.nons.length).1:=by
 have m:=Gr.fits h;have k:Qm G<4294967296:=Jg _ _;have g:=Zy3 (Yz G) (Qm G) G.nons.length G.nons.length;have r:=order_next G h l (orderS_end (Yz G) G.nons.length k);have q:=(Dl (Yz G) G.nons.length k G.nons.length).mem;generalize Y4 (Yz G) (Qm G) G.nons.length G.nons.length=b at *;have f:∀i∈b.1,i<G.nons.length:=λi hi=>by
  obtain⟨p,s⟩:=BU hi;exact (g.2 p i s).1
 have v:=m.n2;refine⟨f,λp i hi t u=>?_,λi hi=>?_⟩
 ·have h1:=(g.2 p i hi).2;unfold U2 at h1;simp only[AU,BW] at h1;have a:=Nu ((Yz G).getD i 0) (My (b.1.take p)) t;rw[h1.2,Nat.zero_testBit,u,Bool.true_and] at a;have c:(My (b.1.take p)).testBit t=true:=by
   cases d:(My (b.1.take p)).testBit t
   ·rw[d] at a;cases a
   rfl
  exact (thereL_bit _ t λj o=>by have:=f j (List.mem_of_mem_take o);omega).1 c
 have a:=Nu (Qm G) b.2 i;rw[r,Nat.zero_testBit,n i hi,Bool.true_and] at a;have c:b.2.testBit i=true:=by
  cases d:b.2.testBit i
  ·rw[d] at a;cases a
  rfl
 exact (q i).1 c
open Go.Lib Go.Sort in
theorem tr_Del(B f g a n:Nat)(N:List Bool)(ss:List Int)(v:Value)(w:World)(O:w.ownsRow B 3 1 v n (ints .i64 ss))(z:Zwl w f g a N)(W:f<B)(U:g<B)(C:B<=w.heap.size)(y:a<=1000)(P:∀s∈ss,-(a:Int)<=s/\s<=1000):
 Calls prog 198 #[v,.func (.func 199) #[] #[.pointer (some ⟨f,0,none⟩)]] w λe w'=>(∃A c,e = .returned (.slice A (Vo N ss).length c)/\Za .i64 w' A (Vo N ss).length c (Vo N ss))/\Below B w w':=by
 obtain⟨r,⟨rfl,rfl⟩ | ⟨b,cap,o,rfl,E,I,T,u,X,S⟩⟩:=O
 ·have R:ss=[]:=by
   rw[Y9] at r;exact List.length_eq_zero_iff.1 AA
  subst R;refine (tr_Del_nil _ w).mono ?_;rintro e w'⟨rfl,rfl⟩;exact⟨⟨none,0,rfl,Za.nil _ _ _ _ AC⟩,AL _ _⟩
 obtain⟨ds,l⟩:=sb_list ss P;have h:Blk w b 3 o:=I;have t:ds.length=n:=by
  rw[Y9] at r;rw[<-BI (λs:Sb a=>s.1),l];omega
 have p:Holds (encB a) w b 0 ds.toArray:=λj d=>by
  have J:j<ds.length:=by simpa using d
  refine⟨?_,Blk.frozen h _⟩;rw[BF,Blk.cell h j];have h1:o[j]? = (ints .i64 ss)[j]? := by
   rw[<-S,Ej,List.getElem?_take_of_lt AA,Array.getElem?_toList]
  rw[h1,<-l];rw[getElem!_pos ds.toArray j d];simp[ints,encB,J]
 have M:ds.toArray.size=n:=by simpa using t
 have m:=bare_map N ds;rw[l] at m;have k:=Tryz.slices_DeleteFunc (encB a) (λ_=>rfl) (λs=>Xg N s.1) 199 #[.pointer (some ⟨f,0,none⟩)] enters_bare (⟨0,AA,AA⟩:Sb a) (λw=>AB) b 0 cap ds.toArray w
  (pred_bare z AA AA y) (over_bare z AA AA y 0 ds.toArray.size AA AA) p (by simp[maxLen] at u;omega) AA
 rw[M] at k;refine k.mono ?_;clear k;have D:(Vo N ss).length=(ds.filter λx=>!Xg N x.1).length:=by rw[<-m,BI]
 have V:(ds.filter λx=>!Xg N x.1).length<=n:=by rw[<-t];exact List.length_filter_le _ _
 have G:=h.lt;simp only[List.toList_toArray];rw[D,<-m];generalize (ds.filter λx=>!Xg N x.1)=F at *;rintro e w'⟨rfl,q,rfl⟩;refine⟨⟨_,_,rfl,?_⟩,Zn (put_grown w q b 0 _) C E⟩;have H:=holds_putRow (encB a) (Sort.ahead w q) b 0 ds.toArray (F++List.replicate (n-F.length) (⟨0,AA,AA⟩:Sb a)).toArray p AG;refine⟨by simp[ints],AA,by simp[maxLen] at u;omega,λ_=>⟨b,0,rfl,by simpa using G,λj d=>?_⟩⟩;have L:j<F.length:=by simpa [ints] using d
 rw[(H j AG).1];rw[getElem!_pos _ j AG];simp[ints,encB,L]
theorem tr_Cycles(l:B5)(h:GH)(G:Gr)(w:World)(d:Yf w h G)(C:∀t∈G.terms,t.name.size<=maxLen)(u:Q2 w)(h1:h.n1<=100)(h2:h.n2<=100)(h3:h.n3<=100):
 Calls prog 97 #[GV h G.start] w λe w'=>Below w w w'/\e = .returned (.int .u32 ((Vh G:Nat):Int)):=by
 obtain⟨a1,n1,c1,a2,n2,c2,a3,n3,c3⟩:=h;have q:G.nons.length=n2:=d.nons.len;have k2:=d.nons.cap;simp only[] at h1 h2 h3 k2;have N:=LH u;unfold B5 at l;have L:=LH l;have k:=Zy w (.cells #[.slice a1 n1 c1,.slice a2 n2 c2,.slice a3 n3 c3,.int .i64 G.start] 26);have A:=Y1.new w 26 ⟨a1,n1,c1,a2,n2,c2,a3,n3,c3⟩ G.start;have P:=LH d;have U:=LH C;clear d C u l;go_enter func97,ntmps97;have⟨z5,z0,z1,z2,z3⟩:=A;simp only[] at z0 z1 z2 z3;go_wp2_with fail;generalize w.alloc (.cells #[.slice a1 n1 c1,.slice a2 n2 c2,.slice a3 n3 c3,.int .i64 G.start] 26)=Z at *;(with_reducible refine (L.out ⟨a1,n1,c1,a2,n2,c2,a3,n3,c3⟩ G Z (P.out.below k) U.out (by simp only[];omega) (by simp only[];omega) (by simp only[];omega)).mono ?_);rintro e p⟨y,aj⟩;have f:=LH (Zz k y);clear z0 z1 z2 z3 z5 A k y;rcases aj with ⟨a,rfl⟩ | ⟨a,gS,ag,rfl,r⟩
 ·have g:Hid (Vh G=0):=LH (by unfold Vh;rw[a];rfl);clear a;go_wp2_with fail;go_loop [2,9] (λs i=>s = .int .u32 0/\i = .int .i64 0) (λs i=>0)
  case atStart=>exact⟨rfl,rfl⟩
  obtain⟨rfl,rfl⟩:=hrel;go_wp2_with fail;go_ret;exact⟨f.out,by rw[g.out];rfl⟩
 have m:=Gr.fits a;have T:=m.n2.2;rw[q] at T;have B:=Au G m;have n:(Yz G).length=n2:=by rw[Wh];exact q
 have o:=Ks G;have g:Hid (Vh G=Jb (λi=>Yw (Yz G) i i) n2):=LH (by unfold Vh cycS;rw[a,n];rfl);have M:=LH r;generalize Yz G=S at *;have R:=LH B;have W:=LH n;have Y:=LH o;have O:=LH (Lv o);clear m a r ag o B n;go_wp2_with fail;go_loopw [2,9] (λs i wr=>∃j:Nat,j<=n2/\i = .int .i64 (j:Int)/\s = .int .u32 ((Jb (λi=>Yw S i i) j:Nat):Int)/\Hid (Below p p wr)) (λs i _=>n2-(intOf i).toNat)
 case atStart=>exact⟨0,AS _,rfl,rfl,LH (AL _ _)⟩
 obtain⟨j,hj,rfl,rfl,b⟩:=hrel;by_cases ah:j<n2
 case neg =>
  obtain rfl:j=n2:=AA
  go_wp2_with fail;go_ret;exact⟨Zz f.out b.out,by rw[g.out];rfl⟩
 have J:=LH (tr_reach gS n2 j S wr (Blk.ext M.out b.out) W.out AA ah Y.out R.out (N.out.below (Zz f.out b.out)));have I:=LH λX=>tr_one (j:Int) X;have c:=O.out.get j;have am:=and32 ((Xu S).getD j 0) (Y6 (j:Int)) c (Ua _);have x:=and_one _ c j;have H:((Xu S).getD j 0).testBit j=Yw S j j:=rfl;have E:=Mp (λi=>Yw S i i) j;have ai:=or32 (Jb (λi=>Yw S i i) j) ((Xu S).getD j 0 &&& Y6 (j:Int)) (Jg _ _) (En Nat.and_le_left c);have F:Jb (λi=>Yw S i i) j ||| ((Xu S).getD j 0 &&& Y6 (j:Int))=Jb (λi=>Yw S i i) (j+1):=by
  rw[E,x,H];cases Yw S j j
  ·simp
  rfl
 rw[F] at ai;generalize D:Jb (λi=>Yw S i i) (j+1)=s1 at *;have V:=LH D;clear D;generalize Jb (λi=>Yw S i i) j=s0 at *;generalize (Xu S).getD j 0 &&& Y6 (j:Int)=z at *;generalize (Xu S).getD j 0=v at *;generalize Y6 (j:Int)=bj at *;clear x H E F c;go_wp2_with (first
  | (go_at_call 156;(with_reducible refine J.out.mono ?_);rintro e w2⟨rfl,ae⟩)
  | (go_at_call 157;(with_reducible refine (I.out _).mono ?_);rintro e w3⟨rfl,af⟩))
 go_roundw
 case rel=>exact⟨j+1,AA,AF,by rw[V.out],LH (Zz (Zz b.out ae) af)⟩
 simp[intOf];omega
section
variable {G:Gr}
theorem Ztf(a:G.Fits){r:Rul}(b:r∈Yh G)(c:s∈r.right):(Xd (Ze G) s<0↔s<0)/\(s<0->Zp (Xd (Ze G) s)=sig G (Zp s)):=by
 refine⟨Mk s (Qz a b c),λh0=>?_⟩;have h1:=G8 h0 (Qz a b c h0);have d:=(C8 (Qz a b c h0)).1;omega
theorem Zxa(c:G.Fits)(m:(Zi G).Fits)(hi:i∈Ze G):(Zt (Zi G)).getD (sig G i) false=true:=by
 have:=Zz2 (b:=true) (G:=G) (λi=>(Zt G).getD i false=true/\(i∈Ze G->(Zt (Zi G)).getD (sig G i) false=true)) (λr g f=>?_) ((N0 c).1 hi).1
 ·exact this.2 hi
 have h:Xj true (Zt G) r.right=true:=U8.2 λs a=>⟨(f s a).1,λh0=>((f s a).2 h0).1⟩;have n:=c.left r g;refine⟨Ue (b:=true) g AA h,λj=>?_⟩;have d:=Zub c g j h;rw[<-Zyb d];refine Ue (b:=true) (G:=Zi G) (Zs8.2 ⟨r,d,rfl⟩) ?_ (U8.2 λo l=>⟨λ_=>rfl,λk=>?_⟩)
 ·rw[Zsw,Zyb d];exact (C8 j).2.1
 obtain⟨s,a,rfl⟩:=CW.1 l;have h1:=Ztf c d a;have h0:=h1.1.1 k;rw[h1.2 h0];exact ((f s a).2 h0).2 (Qz c d a h0)
theorem red_reach(a:G.Fits)(d:(Zi G).Fits)(j:(Zt G).getD G.start.toNat false=true)(hi:i∈Ze G):(Z5 (Zi G)).getD (sig G i) false=true:=by
 have:=reach_least (G:=G) (λi=>i∈Ze G/\(Z5 (Zi G)).getD (sig G i) false=true) ⟨Jm a j,by have:=Zz1 d;rwa [Zuo a j] at this⟩ (λr m h l s f h0=>?_) ((N0 a).1 hi).2
 ·exact this.2
 have b:=Zub a m h.1 l;have h1:=Ztf a b f;refine⟨Qz a b f h0,?_⟩;rw[<-h1.2 h0];refine C9 d (Zs8.2 ⟨r,b,rfl⟩) (by rw[Zyb b];exact h.2) (U8.2 λo n=>⟨λ_=>rfl,λg=>?_⟩) (CW.2 ⟨s,f,rfl⟩) (h1.1.2 h0);obtain⟨q,k,rfl⟩:=CW.1 n;have c:=Ztf a b k;rw[c.2 (c.1.1 g)];exact Zxa a d (Qz a b k (c.1.1 g))
end
section
open Go.Maps (Keyed IsMap Tidy)
theorem As(A:Option Addr)(n c:Nat)(xs:List Nat)(w:World)(h:Zq .u32 w A n c xs)(g:Lim xs):
 Calls prog 168 #[.slice A n c] w (Xr w (Xm (val xs))):=by
 have a:=Zs4 xs g;by_cases d:(Xx xs).length<=32
 ·rw[if_pos d] at a;have b:=LH a;clear a;go_enter func168,ntmps168;go_wp2_with (go_at_call 31;refine (G6 _ _ _ _ _ h).mono ?_;rintro e w'⟨rfl,f,rfl⟩);go_ret2;rw[<-b];exact⟨_,_,rfl,AH,AL _ _⟩
 rw[if_neg d] at a;have b:=LH a;clear a;go_enter func168,ntmps168;go_wp2_with (go_at_call 31;refine (G6 _ _ _ _ _ h).mono ?_;rintro e w'⟨rfl,f,rfl⟩);go_ret2;rw[<-b];exact⟨none,0,rfl,Zq.nil _ _ _ _ AE,AL _ _⟩
theorem Zu0(j:Option Addr)(n c1:Nat)(xs:List Nat)(l:Option Addr)(m c2:Nat)(ys:List Nat)(w:World)(h1:Zq .u32 w j n c1 xs)(c:Zq .u32 w l m c2 ys)(d:Lim xs)(f:Lim ys):
 Calls prog 125 #[.slice j n c1,.slice l m c2] w (Xr w (Mu xs ys)):=by
 by_cases g:Zm xs=true
 case neg =>
  have R:Zm xs=false:=by simpa using g
  have a:Mu xs ys=([],1):=by simp[Mu,R]
  rw[a];clear a g;go_enter func125,ntmps125;go_wp2_with (first
   | (go_at_call 35;(with_reducible refine (Z4 _ _ _ _ _ h1).mono ?_);rintro e w'⟨rfl,rfl⟩)
   | (go_at_call 35;(with_reducible refine (Z4 _ _ _ _ _ c).mono ?_);rintro e w'⟨rfl,rfl⟩))
  go_ret2;exact⟨none,0,rfl,Zq.nil _ _ _ _ AE,AL _ _⟩
 by_cases h:Zm ys=true
 case neg =>
  have S:Zm ys=false:=by simpa using h
  have a:Mu xs ys=([],1):=by simp[Mu,S]
  rw[a];clear a h;go_enter func125,ntmps125;go_wp2_with (first
   | (go_at_call 35;(with_reducible refine (Z4 _ _ _ _ _ h1).mono ?_);rintro e w'⟨rfl,rfl⟩)
   | (go_at_call 35;(with_reducible refine (Z4 _ _ _ _ _ c).mono ?_);rintro e w'⟨rfl,rfl⟩))
  go_ret2;exact⟨none,0,rfl,Zq.nil _ _ _ _ AE,AL _ _⟩
 have L:=Ut xs g;have J:=Ut ys h;have a:Mu xs ys=Xm (val xs+val ys):=by simp[Mu,g,h]
 rw[a];clear a;go_enter func125,ntmps125;go_wp2_with (first
  | (go_at_call 35;(with_reducible refine (Z4 _ _ _ _ _ h1).mono ?_);rintro e w'⟨rfl,rfl⟩)
  | (go_at_call 35;(with_reducible refine (Z4 _ _ _ _ _ c).mono ?_);rintro e w'⟨rfl,rfl⟩))
 go_loopw [6,7,8] (RAddRel w xs ys) (λ_ _ i _=>(33-intOf i).toNat)
 case atStart=>exact⟨0,none,0,AS _,rfl,rfl,rfl,BN _ _ _ _,AL _ _⟩
 obtain⟨k,A,E,U,rfl,rfl,rfl,r,b⟩:=hrel;have T:=Lg xs ys d f k;have H:=b.size;by_cases V:k<33
 ·have O:=d.getD k;have P:=f.getD k;obtain⟨x,Hx⟩:∃x,Hid (xs.getD k 0=x):=⟨_,LH rfl⟩;obtain⟨y,o⟩:∃y,Hid (ys.getD k 0=y):=⟨_,LH rfl⟩;have p:=Ww j n c1 xs k wr (h1.below b) d;have q:=Ww l m c2 ys k wr (c.below b) f;rw[Hx.out] at p O;rw[o.out] at q P;have v:=LH p;have z:=LH q;clear p q;go_wp2_with (first
   | (go_at_call 76;(with_reducible refine v.out.mono ?_);rintro e w'⟨rfl,rfl⟩)
   | (go_at_call 76;(with_reducible refine z.out.mono ?_);rintro e w'⟨rfl,rfl⟩)
   | (at_builtin;refine Vc (w:=wr) rfl _ _ 44 rfl w 41 (.int .u32 0) 4 underlying44 Tryz.info34 rfl _ k _ _ rfl r (.int .u32 (((x:Int)+(y:Int)+((V4 xs ys k).2:Int)) % 4294967296)) rfl rfl AA AA AA ?_;intro u D W N I))
  go_roundw
  case rel =>
   refine⟨k+1,u,D,AA,AF,?_,rfl,?_,X6 b I r H⟩
   ·simp only[V4,Hx.out,o.out];go_num
   simp only[V4,Hx.out,o.out,Mi];simpa using N
  simp[intOf];omega
 obtain rfl:k=33:=AA
 have s:=addP_full xs ys d f 32 L J;have B:=LH s;clear s;have M:Zq .u32 wr A 33 E (V4 xs ys 33).1:=Yl r;go_wp2_with (go_at_call 168;(with_reducible refine (As _ _ _ _ _ M (Zxn xs ys 33)).mono ?_);rintro e w'⟨t,C,rfl,G,F⟩);go_ret2;rw[<-B.out];exact⟨t,C,rfl,G,Zz b F⟩
end
theorem ref_mul(I:Option Addr)(n c1:Nat)(xs:List Nat)(l:Option Addr)(m c2:Nat)(ys:List Nat)(w:World)(h1:Zq .u32 w I n c1 xs)(h:Zq .u32 w l m c2 ys)(U:Lim xs)(s:Lim ys):
 Calls prog 175 #[.slice I n c1,.slice l m c2] w (Xr w (N9 xs ys)):=by
 by_cases t:Zm xs=true
 case neg =>
  have ar:Zm xs=false:=by simpa using t
  have f:N9 xs ys=([],1):=by simp[N9,ar]
  rw[f];clear f t;go_enter func175,ntmps175;go_wp2_with (first
   | (go_at_call 35;(with_reducible refine (Z4 _ _ _ _ _ h1).mono ?_);rintro e w'⟨rfl,rfl⟩)
   | (go_at_call 35;(with_reducible refine (Z4 _ _ _ _ _ h).mono ?_);rintro e w'⟨rfl,rfl⟩))
  go_ret2;exact⟨none,0,rfl,Zq.nil _ _ _ _ AE,AL _ _⟩
 by_cases u:Zm ys=true
 case neg =>
  have au:Zm ys=false:=by simpa using u
  have f:N9 xs ys=([],1):=by simp[N9,au]
  rw[f];clear f u;go_enter func175,ntmps175;go_wp2_with (first
   | (go_at_call 35;(with_reducible refine (Z4 _ _ _ _ _ h1).mono ?_);rintro e w'⟨rfl,rfl⟩)
   | (go_at_call 35;(with_reducible refine (Z4 _ _ _ _ _ h).mono ?_);rintro e w'⟨rfl,rfl⟩))
  go_ret2;exact⟨none,0,rfl,Zq.nil _ _ _ _ AE,AL _ _⟩
 have an:=Ut xs t;have am:=Ut ys u;obtain rfl:=h1.len;obtain rfl:=h.len;have N:=Wm (P:=prog) 44 41 .u32 4 underlying44 Tryz.info34 64 AA AA;have O:∀w:World,(Instr.makeSlice 44 (.int .i64 64) (.int .i64 64)).run prog w = .ok (.slice (some ⟨w,0,none⟩) 64 64) (w.alloc (.cells (nums .u32 (List.replicate 64 0)).toArray 41)):=N;clear N;obtain⟨aw,p⟩:∃zs,Hid (List.replicate 64 0=zs):=⟨_,LH rfl⟩;rw[p.out] at O;have f:N9 xs ys=Xm (val xs*val ys):=by simp[N9,t,u]
 rw[f];clear f;go_enter func175,ntmps175;go_wp2_with (first
  | (go_at_call 35;(with_reducible refine (Z4 _ _ _ _ _ h1).mono ?_);rintro e w'⟨rfl,rfl⟩)
  | (go_at_call 35;(with_reducible refine (Z4 _ _ _ _ _ h).mono ?_);rintro e w'⟨rfl,rfl⟩))
 go_loopw [7] (RMulRel w xs ys) (λi _=>xs.length-(intOf i).toNat)
 case atStart =>
  refine⟨0,aw,AS _,rfl,?_,?_,?_,Own.new _ _ _ _,(AL _ _).alloc (AJ _) _⟩
  ·rw[<-p.out];rfl
  ·rw[<-p.out];exact zeros_lim 64
  rw[<-p.out,zeros_val];simp[val]
 obtain⟨i,a,hi,rfl,J,r,L,g,d⟩:=hrel;have b:=LH J;have v:=LH L;clear J L O;by_cases F:i<xs.length
 ·obtain⟨x,Hx⟩:∃x,Hid (xs[i]? = some x):=⟨_,LH (AM F)⟩;have S:=U.of_get Hx.out;have E:=mul_fits xs ys U s an am i F;rw[Yg Hx.out] at E;have W:=LH E;clear E;go_wp2;obtain⟨V,rfl⟩:∃V:World,V=wr:=⟨_,rfl⟩;go_loopw [8,9] (RMulRel2 w x ys a i) (λ_ q _=>(64-intOf q).toNat)
  case atStart=>exact⟨0,AA,rfl,rfl,by rw[Zz7];exact g,d⟩
  clear g d;obtain⟨k,hk,rfl,rfl,g,d⟩:=hrel;have al:=Zy8 x ys (a.drop i) S s (r.drop _) k;by_cases a5:i+k<64
  ·obtain⟨b1,o1,x',rfl,az,ad,a0⟩:=(h1.below d).get (j:=i) F;obtain rfl:x=x':=by have h1:=Hx.out;rw[ad.out] at h1;injection h1 with h1;exact h1.symm
   have T:=s.getD k;obtain⟨y,o⟩:∃y,Hid (ys.getD k 0=y):=⟨_,LH rfl⟩;have Y:=LH (Nq x ys a i k (by rw[b.out];omega));obtain⟨z,Hz,a1⟩:=g.cell (i:=i+k) (by rw[Y.out,b.out];omega);have a2:=g.frozen (i+k);have B:Hid (a[i+k]? = some z):=LH (by rw[<-Zwa x ys a i k (by rw[b.out];omega)];exact Hz.out);have aq:=r.of_get B.out;rw[o.out] at T;have hb:=Ag S T aq al;have a6:(0:Int)<=(x:Int)*(y:Int):=by rw[<-Int.natCast_mul];omega
   have a7:(x:Int)*(y:Int)+(z:Int)+((Vn x ys (a.drop i) k).2:Int)<18446744073709551616:=by rw[<-Int.natCast_mul];omega
   have a8:(z:Int)+(x:Int)*(y:Int)+((Vn x ys (a.drop i) k).2:Int)<18446744073709551616:=AA
   have aa:=LH (Zze x ys a i k (by rw[b.out];omega));have M:∀q,Calls prog 76 #[.slice l ys.length c2,.int .i64 (k:Int)] (wr.drewN q) λe w'=>e = .returned (.int .u64 (y:Int))/\wr.drewN q=w':=λq=>by
    have:=Ww l ys.length c2 ys k (wr.drewN q) ((h.below d).drewN q) s;rw[o.out] at this;exact this
   have X:=LH M;clear hb M;have j1:(0:Int)<=(i:Int)+(k:Int):=AA
   have j2:(i:Int)+(k:Int)<64:=AA
   have j3:(0:Int)<=(i:Int):=AA
   have j4:(i:Int)<(xs.length:Int):=AA
   have C:IntKind.i64.wrap ((i:Int)+(k:Int))=(i:Int)+(k:Int):=i64w AA AA;have D:((i:Int)+(k:Int)).toNat=i+k:=AA
   have e3:IntKind.u64.wrap ((x:Int)*(y:Int))=(x:Int)*(y:Int):=u64w AA AA;have e4:IntKind.u64.wrap ((z:Int)+(x:Int)*(y:Int))=(z:Int)+(x:Int)*(y:Int):=u64w AA AA;have e5:IntKind.u64.wrap ((z:Int)+(x:Int)*(y:Int)+((Vn x ys (a.drop i) k).2:Int))=(z:Int)+(x:Int)*(y:Int)+((Vn x ys (a.drop i) k).2:Int):=u64w AA AA;go_wp2;go_quiet ((go_at_call 76;exact Lk (X.out _)))
   clear C D e3 e4 e5;go_wp2;go_roundw
   case rel =>
    refine⟨k+1,AA,AF,?_,?_,(Fp d _).setCell AE _⟩
    ·have ap:=B.out;simp only[Vn,o.out];rw[show (a.drop i).getD k 0=z from by simp[DY,ap]];go_num
    have:=(g.drewN nq).set_ (i+k) ((x*y+z+(Vn x ys (a.drop i) k).2) % 4294967296);have R:=aa.out;rw[o.out,Yg B.out] at R;rw[R] at this;rw[show ((z:Int)+(x:Int)*(y:Int)+((Vn x ys (a.drop i) k).2:Int))=(x:Int)*(y:Int)+(z:Int)+((Vn x ys (a.drop i) k).2:Int) from by omega];simpa using this
   simp[intOf] <;> omega
  obtain rfl:k=64-i:=AA
  have G:=mul_row_full x ys a i (by rw[b.out];omega) (by rw[v.out,b.out];exact W.out) (by rw[b.out];omega);rw[b.out] at G;have Z:=LH G;have a3:¬(i:Int)+((64-i:Nat):Int)<64:=AA
  clear G;go_wp2;go_roundw
  case rel =>
   obtain⟨C,D⟩:=Z.out;refine⟨i+1,_,AA,AF,D,Zx0 x ys a i _ r,?_,g,d⟩;rw[C,v.out,Y5,Yg Hx.out,Nat.add_mul,DU]
  simp[intOf] <;> omega
 obtain rfl:i=xs.length:=AA
 have H:=v.out;rw[List.take_length] at H;have ao:=g.nums (n:=64) (c:=64) b.out (AJ _) AA;have ab:=LH H;clear H;go_wp2_with (go_at_call 168;(with_reducible refine (As _ _ _ _ _ ao r).mono ?_);rintro e w'⟨A,c,rfl,hN,hB⟩);go_ret2;rw[<-ab.out];exact⟨A,c,rfl,hN,Zz d hB⟩
theorem Zuc(a:Option Addr)(n1 c1:Nat)(b:Bool)(x:Nat)(f:Option Addr)(n2 c2:Nat)(g:Bool)(y:Nat)(w:World)(h1:Z1 w a n1 c1 b x)(v:Z1 w f n2 c2 g y):
 Calls prog 67 #[.agg #[.slice a n1 c1,.bool b],.agg #[.slice f n2 c2,.bool g]] w (RetV w (x+y)):=by
 have k1:=h1.cases;have k2:=v.cases;have z1:=h1.none_iff;have z2:=v.none_iff;have T:=LH h1.2;have U:=LH v.2;clear h1 v;have N:=Zy w (.cells #[.slice a n1 c1,.bool b] 110);have E:=Zy (w.alloc (.cells #[.slice a n1 c1,.bool b] 110)) (.cells #[.slice f n2 c2,.bool g] 110);have h:=Zy ((w.alloc (.cells #[.slice a n1 c1,.bool b] 110)).alloc (.cells #[.slice f n2 c2,.bool g] 110)) (.cells #[.slice none 0 0,.bool false] 110);have R:=(Blk.new w 110 #[.slice a n1 c1,.bool b]);have S:=(Blk.new (w.alloc (.cells #[.slice a n1 c1,.bool b] 110)) 110 #[.slice f n2 c2,.bool g]);have A:=(Blk.new ((w.alloc (.cells #[.slice a n1 c1,.bool b] 110)).alloc (.cells #[.slice f n2 c2,.bool g] 110)) 110 #[.slice none 0 0,.bool false]);have D:(w.alloc (.cells #[.slice a n1 c1,.bool b] 110)).heap.size=w.heap.size+1:=Zl _ _;have M:((w.alloc (.cells #[.slice a n1 c1,.bool b] 110)).alloc (.cells #[.slice f n2 c2,.bool g] 110)).heap.size=w.heap.size+2:=by rw[Zl,D]
 have q:=Blk.ext (Blk.ext R E) h;have o:=Blk.ext S h;have z:=Zz (Zz N E) h;rw[D] at o;rw[M] at A;go_enter func67,ntmps67;go_upto_region 1 with fail;generalize ((w.alloc (.cells #[.slice a n1 c1,.bool b] 110)).alloc (.cells #[.slice f n2 c2,.bool g] 110)).alloc (.cells #[.slice none 0 0,.bool false] 110)=W at *;clear R S D M N E h;have l1:=q.lt;have l2:=o.lt;have l3:=A.lt;have ad:W.cell? ⟨w.heap.size,0,none⟩=some (.slice a n1 c1):=q.cell 0;have J:W.cell? ⟨w.heap.size,1,none⟩=some (.bool b):=q.cell 1;have ae:W.cell? ⟨w.heap.size+1,0,none⟩=some (.slice f n2 c2):=o.cell 0;have L:W.cell? ⟨w.heap.size+1,1,none⟩=some (.bool g):=o.cell 1;have CA:=LH (Zu0 a n1 c1 (Vk x).1 f n2 c2 (Vk y).1 W (T.out.below z) (U.out.below z) (Wx x) (Wx y));have Y:=LH q;have Z:=LH o;have aa:=LH A;have V:=LH z;clear q o A z z1 z2;go_wp2_with fail;(with_reducible refine CA.out.mono ?_);rintro e t⟨H,c3,rfl,O,h⟩;clear ad J ae L CA;have B:=Y.out.ext h;have C:=Z.out.ext h;have n:=aa.out.ext h;have X:=LH (Zz V.out h);have J:t.cell? ⟨w.heap.size,1,none⟩=some (.bool b):=B.cell 1;have L:t.cell? ⟨w.heap.size+1,1,none⟩=some (.bool g):=C.cell 1;have al:t.cell? ⟨w.heap.size+2,0,none⟩=some (.slice none 0 0):=n.cell 0;have am:t.cell? ⟨w.heap.size+2,1,none⟩=some (.bool false):=n.cell 1;have an:=n.frozen 0;have ao:=n.frozen 1;have m1:=B.lt;have m2:=C.lt;have m3:=n.lt;have I:=LH O;have s:=LH (Vb n X.out (DF _ _));clear B C n O h;generalize P:Mu (Vk x).1 (Vk y).1=p at *;obtain⟨zs,er⟩:=p;simp only[] at I;have Hp:=LH P;clear P;rcases k1 with ⟨F,rfl,ex⟩ | ⟨F,rfl,ex⟩;rcases k2 with ⟨G,rfl,u⟩ | ⟨G,rfl,u⟩
 ·have k:Xm (x+y)=(zs,er):=by rw[<-Hp.out,ex,u,Nz x y F G]
  by_cases r:x+y<big
  ·unfold Xm at k;rw[if_pos r] at k;obtain⟨rfl,rfl⟩:=Prod.mk.inj k;obtain⟨c,d⟩:=s.out H (limbs (x+y)).length c3 false;have l:=LH c;have j:=LH d;have m:=LH r;clear c d k ex u r F G;go_wp2_with fail;refine AW (AX (p:=4) AB _ _ (w.heap.size+2) 110 #[.slice H (limbs (x+y)).length c3,.bool false] (0,0) _ rfl j.out.1 underlying110 rfl AB) rfl ?_;refine⟨l.out,_,_,_,_,rfl,?_⟩;unfold Z1;rw[Z7 m.out];exact⟨rfl,I.out.kept j.out.2⟩
  unfold Xm at k;rw[if_neg r] at k;obtain⟨rfl,rfl⟩:=Prod.mk.inj k;clear k ex u;obtain⟨c,d⟩:=s.out none 0 0 true;have l:=LH c;have j:=LH d;have m:Hid (¬x+y<big):=LH (by exact r);clear c d;go_wp2_with fail;refine AW (AX (p:=4) AB _ _ (w.heap.size+2) 110 #[.slice none 0 0,.bool true] (0,0) _ rfl j.out.1 underlying110 rfl AB) rfl ?_;exact⟨l.out,_,_,_,_,rfl,Z1.over _ m.out⟩
 ·obtain⟨c,d⟩:=s.out none 0 0 true;have l:=LH c;have j:=LH d;have m:Hid (¬x+y<big):=LH AA;clear c d;go_wp2_with fail;refine AW (AX (p:=4) AB _ _ (w.heap.size+2) 110 #[.slice none 0 0,.bool true] (0,0) _ rfl j.out.1 underlying110 rfl AB) rfl ?_;exact⟨l.out,_,_,_,_,rfl,Z1.over _ m.out⟩
 obtain⟨c,d⟩:=s.out none 0 0 true;have l:=LH c;have j:=LH d;have m:Hid (¬x+y<big):=LH AA;clear c d;go_wp2_with fail;refine AW (AX (p:=4) AB _ _ (w.heap.size+2) 110 #[.slice none 0 0,.bool true] (0,0) _ rfl j.out.1 underlying110 rfl AB) rfl ?_;exact⟨l.out,_,_,_,_,rfl,Z1.over _ m.out⟩
theorem Aa(c:Option Addr)(c1 a:Nat)(d:Option Addr)(c2 b:Nat)(w:World)(h1:Zq .u32 w c (limbs a).length c1 (limbs a))(f:Zq .u32 w d (limbs b).length c2 (limbs b))(g:a<big)(h:b<big):
 Calls prog 125 #[.slice c (limbs a).length c1,.slice d (limbs b).length c2] w (Xr w (Xm (a+b))):=by
 rw[<-Nz a b g h];exact Zu0 c _ c1 _ d _ c2 _ w h1 f (Z9 _) (Z9 _)
section
open Go.Maps (Keyed IsMap Tidy)
open Go.Maps (Keyed IsMap Tidy)
theorem Gt(d:Option Addr)(n1 c1:Nat)(b:Bool)(x:Nat)(g:Option Addr)(n2 c2:Nat)(k:Bool)(y:Nat)(w:World)(h1:Z1 w d n1 c1 b x)(E:Z1 w g n2 c2 k y):
 Calls prog 124 #[.agg #[.slice d n1 c1,.bool b],.agg #[.slice g n2 c2,.bool k]] w (RetV w (x*y)):=by
 have U:=h1.cases;have V:=E.cases;have v:=h1.none_iff;have B:=E.none_iff;have H1:=LH h1.2;have H2:=LH E.2;clear h1 E;have ae:=Zy w (.cells #[.slice d n1 c1,.bool b] 110);have P:=Zy (w.alloc (.cells #[.slice d n1 c1,.bool b] 110)) (.cells #[.slice g n2 c2,.bool k] 110);have l:=Zy ((w.alloc (.cells #[.slice d n1 c1,.bool b] 110)).alloc (.cells #[.slice g n2 c2,.bool k] 110)) (.cells #[.slice none 0 0,.bool false] 110);have ak:=(Blk.new w 110 #[.slice d n1 c1,.bool b]);have al:=(Blk.new (w.alloc (.cells #[.slice d n1 c1,.bool b] 110)) 110 #[.slice g n2 c2,.bool k]);have q:=(Blk.new ((w.alloc (.cells #[.slice d n1 c1,.bool b] 110)).alloc (.cells #[.slice g n2 c2,.bool k] 110)) 110 #[.slice none 0 0,.bool false]);have N:(w.alloc (.cells #[.slice d n1 c1,.bool b] 110)).heap.size=w.heap.size+1:=Zl _ _;have e2:((w.alloc (.cells #[.slice d n1 c1,.bool b] 110)).alloc (.cells #[.slice g n2 c2,.bool k] 110)).heap.size=w.heap.size+2:=by rw[Zl,N]
 have A:=Blk.ext (Blk.ext ak P) l;have t:=Blk.ext al l;have z:=Zz (Zz ae P) l;rw[N] at t;rw[e2] at q;go_enter func124,ntmps124;go_upto_region 1 with fail;generalize ((w.alloc (.cells #[.slice d n1 c1,.bool b] 110)).alloc (.cells #[.slice g n2 c2,.bool k] 110)).alloc (.cells #[.slice none 0 0,.bool false] 110)=W at *;clear ak al N e2 ae P l;have l1:=A.lt;have l2:=t.lt;have l3:=q.lt;have ba:W.cell? ⟨w.heap.size,0,none⟩=some (.slice d n1 c1):=A.cell 0;have az:W.cell? ⟨w.heap.size,1,none⟩=some (.bool b):=A.cell 1;have bb:W.cell? ⟨w.heap.size+1,0,none⟩=some (.slice g n2 c2):=t.cell 0;have a0:W.cell? ⟨w.heap.size+1,1,none⟩=some (.bool k):=t.cell 1;have a1:W.cell? ⟨w.heap.size+2,0,none⟩=some (.slice none 0 0):=q.cell 0;have a2:W.cell? ⟨w.heap.size+2,1,none⟩=some (.bool false):=q.cell 1;have a3:=q.frozen 0;have a4:=q.frozen 1;have J:=LH (Vb q z (DF _ _));have CM:=LH (ref_mul d n1 c1 (Vk x).1 g n2 c2 (Vk y).1 W (H1.out.below z) (H2.out.below z) (Wx x) (Wx y));have au:=LH A;have av:=LH t;have aw:=LH q;have HB:=LH z;clear A t q z;by_cases F:x=0
 ·obtain⟨rfl,rfl⟩:=v.2 F;clear U V v B;obtain⟨a,c⟩:=J.out none 0 0 false;have m:=LH a;have j:=LH c;have n:Hid (x*y=0):=LH (by rw[F,Nat.zero_mul]);clear a c;go_wp2_with fail;refine AW (AX (p:=4) AB _ _ (w.heap.size+2) 110 #[.slice none 0 0,.bool false] (0,0) _ rfl j.out.1 underlying110 rfl AB) rfl ?_;refine⟨m.out,_,_,_,_,rfl,?_⟩;rw[n.out];exact Z1.zero _ _ _ AA
 by_cases T:y=0
 ·obtain⟨rfl,rfl⟩:=B.2 T;have u:b=false->((n1:Int)==0)=false:=λa=>by rw[AQ];intro h;exact F (v.1 ⟨a,AA⟩)
  clear U V v B;rcases b with _ | _;all_goals
   first
    | (have a6:=u rfl
       clear u)
    | clear u
   obtain⟨a,c⟩:=J.out none 0 0 false;have m:=LH a;have j:=LH c;have n:Hid (x*y=0):=LH (by rw[T,Nat.mul_zero]);clear a c;go_wp2_with fail;refine AW (AX (p:=4) AB _ _ (w.heap.size+2) 110 #[.slice none 0 0,.bool false] (0,0) _ rfl j.out.1 underlying110 rfl AB) rfl ?_;refine⟨m.out,_,_,_,_,rfl,?_⟩;rw[n.out];exact Z1.zero _ _ _ AA
 have u:b=false->((n1:Int)==0)=false:=λa=>by rw[AQ];intro h;exact F (v.1 ⟨a,AA⟩)
 have ai:k=false->((n2:Int)==0)=false:=λa=>by rw[AQ];intro h;exact T (B.1 ⟨a,AA⟩)
 have ag:x<=x*y:=Nat.le_mul_of_pos_right x AA;have ah:y<=x*y:=Nat.le_mul_of_pos_left y AA;have ax:=LH ag;have ay:=LH ah;clear v B J ag ah;rcases U with ⟨R,rfl,ex⟩ | ⟨R,rfl,ex⟩;all_goals
  rcases V with ⟨S,rfl,O⟩ | ⟨S,rfl,O⟩;all_goals
   try (have a6:=u rfl)
   try (have bc:=ai rfl)
   have aa:=LH R;have ab:=LH S;have Ex:=LH ex;have Ey:=LH O;clear u ai R S ex O;go_upto_region 4 with (first
    | (go_at_call 175;(with_reducible refine CM.out.mono ?_);rintro e C⟨X,c3,rfl,af,l⟩))
   have L:=au.out.ext l;have M:=av.out.ext l;have r:=aw.out.ext l;have ar:=LH (Zz HB.out l);have az:C.cell? ⟨w.heap.size,1,none⟩=_:=L.cell 1;have a0:C.cell? ⟨w.heap.size+1,1,none⟩=_:=M.cell 1;have a1:C.cell? ⟨w.heap.size+2,0,none⟩=some (.slice none 0 0):=r.cell 0;have a2:C.cell? ⟨w.heap.size+2,1,none⟩=some (.bool false):=r.cell 1;have a3:=r.frozen 0;have a4:=r.frozen 1;have m1:=L.lt;have m2:=M.lt;have m3:=r.lt;have Y:=LH af;have I:=LH (Vb r ar.out (DF _ _));clear L M r af l;generalize hp:N9 (Vk x).1 (Vk y).1=p at *;obtain⟨zs,D⟩:=p;simp only[] at Y;have Z:=LH hp;clear hp;have a7:(¬x*y<big)\/(x*y<big/\x<big/\y<big):=by
    by_cases f:x*y<big
    ·exact .inr ⟨f,by have:=ax.out;omega,by have:=ay.out;omega⟩
    exact .inl f
   rcases a7 with f | ⟨f,G,H⟩
   ·have a5:(λ(_:Unit)=>D) ()=D:=rfl;clear a5;by_cases s:x<big/\y<big
    ·have o:Xm (x*y)=(zs,D):=by rw[<-Z.out,<-Nw x y s.1 s.2,Z7 s.1,Z7 s.2]
     unfold Xm at o;rw[if_neg f] at o;obtain⟨rfl,rfl⟩:=Prod.mk.inj o;clear o;obtain⟨a,c⟩:=I.out none 0 0 true;have m:=LH a;have j:=LH c;have n:=LH f;clear a c f s;go_wp2_with fail;refine AW (AX (p:=4) AB _ _ (w.heap.size+2) 110 #[.slice none 0 0,.bool true] (0,0) _ rfl j.out.1 underlying110 rfl AB) rfl ?_;exact⟨m.out,_,_,_,_,rfl,Z1.over _ n.out⟩
    first
     | exact absurd (And.intro aa.out ab.out) s
     | (obtain⟨a,c⟩:=I.out none 0 0 true
        have m:=LH a;have j:=LH c;have n:=LH f;clear a c f s;go_wp2_with fail;refine AW (AX (p:=4) AB _ _ (w.heap.size+2) 110 #[.slice none 0 0,.bool true] (0,0) _ rfl j.out.1 underlying110 rfl AB) rfl ?_;exact⟨m.out,_,_,_,_,rfl,Z1.over _ n.out⟩)
   first
    | exact absurd G aa.out
    | exact absurd H ab.out
    | (have o:Xm (x*y)=(zs,D):=by rw[<-Z.out,<-Nw x y G H,Z7 G,Z7 H]
       unfold Xm at o;rw[if_pos f] at o;obtain⟨rfl,rfl⟩:=Prod.mk.inj o;obtain⟨a,c⟩:=I.out X (limbs (x*y)).length c3 false;have m:=LH a;have j:=LH c;have n:=LH f;clear a c o f G H;go_wp2_with fail;refine AW (AX (p:=4) AB _ _ (w.heap.size+2) 110 #[.slice X (limbs (x*y)).length c3,.bool false] (0,0) _ rfl j.out.1 underlying110 rfl AB) rfl ?_;refine⟨m.out,_,_,_,_,rfl,?_⟩;unfold Z1;rw[Z7 n.out];exact⟨rfl,Y.out.kept j.out.2⟩)
end
section
open Ieee
open Go.Maps (Keyed IsMap Tidy)
theorem Gk.few{w:World}{G:Gr}(h:Gk w g G S ts):Maps.size (Np prog 220 (ts.map λp=>(kB p.1.1 p.1.2,p.2)))<maxLen:=by
 obtain⟨L,h1,j,r⟩:=F1 Tryz.keyKB _ h.map.good;have k:∀v∈L,∃p∈ts,v=kB p.1.1 p.1.2:=λv z=>by
  obtain⟨q,m,e⟩:=CW.1 (j v z);obtain⟨p,f,rfl⟩:=CW.1 m;exact⟨p,f,e.symm⟩
 have:=Gq codeB 100000000000000 h1 (λx o y A e=>by
  obtain⟨p,f,rfl⟩:=k x o;obtain⟨q,m,rfl⟩:=k y A;have a:=h.key p f;have b:=h.key q m;rw[Zx6 a.sym,Zx6 b.sym] at e;have B:=a.n;have C:=b.n;have s:Ds (Vr p.1.1)=Ds (Vr q.1.1):=AA
  have t:p.1.2=q.1.2:=AA
  have u:=Zwi a.sym b.sym (Zsb (λc d=>by have:=Dy a.sym c d;omega) (λc d=>by have:=Dy b.sym c d;omega) s);rw[u,t]) (λx o=>by
  obtain⟨p,f,rfl⟩:=k x o;have a:=h.key p f;rw[Zx6 a.sym];have h1:=encT_lt (l:=Vr p.1.1) λc d=>by have:=Dy a.sym c d;omega
  have j:(Vr p.1.1).length<=6:=by unfold Vr;rw[BI];exact a.len
  have r:64 ^ (Vr p.1.1).length<=64 ^ 6:=CV AA j;have D:=a.n;have E:64 ^ 6=68719476736:=AC
  omega)
 rw[r];unfold maxLen;omega
theorem Wd.map_noInt{w:World}{k:BkH}{h:GH}{G:Gr}(C:Wd a k h G S w):Qf w k.t:=by
 obtain⟨ts,b⟩:=C.known;exact b.map.noInt
theorem Wd.keep{w:World}{k:BkH}{h:GH}{G:Gr}(C:Wd a k h G S w)(c:Off k.map w w'):Zf w w':=Zf.of_off c λg b=>by rw[b];exact C.map_noInt
theorem Wd.map_lt{w:World}{k:BkH}{h:GH}{G:Gr}(C:Wd a k h G S w):k.t<w.heap.size:=by
 obtain⟨ts,b⟩:=C.known;exact b.map.lt
theorem Wd.move{g w:World}{k:BkH}{h:GH}{G:Gr}{P:Nat->Prop}(C:Wd g k h G S w)(f:Off P w w')(l:Zf w w')(h1:∀b,P b->S b/\g.heap.size<=b/\b≠k.c/\b≠k.t):Wd g k h G S w':=by
 have m:=C.map_lt;refine⟨C.base.trans (f.is_below C.base.size λb j=>(h1 b j).2.1),f.blk C.box λa=>(h1 _ a).2.2.1 rfl,C.low,?_⟩;obtain⟨ts,d⟩:=C.known;exact⟨ts,d.map.block (f.keep _ m λa=>(h1 _ a).2.2.2 rfl),d.key,λp a=>⟨(d.val p a).1.kept l (f.keep _ (d.val p a).1.lt λj=>(d.val p a).2 (h1 _ j).1),(d.val p a).2⟩⟩
theorem Wd.below{c w:World}{k:BkH}{h:GH}{G:Gr}(C:Wd c k h G S w)(a:Below w w w'):Wd c k h G S w' :=
 C.move (P:=λ_=>False) (Off.of_below a) (.of_below a) λb a=>a.elim
theorem Wd.more{j w:World}{k:BkH}{h:GH}{G:Gr}(C:Wd j k h G S w)(c:Below w w w')(l:w.heap.size<=g):Wd j k h G (λb=>S b\/b=g) w':=by
 have f:=C.below c;refine⟨f.base,f.box,f.low,?_⟩;obtain⟨ts,a⟩:=C.known;refine⟨ts,a.map.below c,a.key,λp d=>⟨(a.val p d).1.kept (.of_below c) (c.block _ (a.val p d).1.lt),?_⟩⟩;rintro (h1 | h1)
 ·exact (a.val p d).2 h1
 have:=(a.val p d).1.lt;omega
end
section
variable {W0:World} {k:BkH} {h:GH} {G:Gr} {S':Nat->Prop} {w:World} {gR:Nat} {b:Nat->Bool} {u:Nat->Value} {X:World}
theorem PM.made(H:PM W0 k h G S' w gR b u X)(i:Nat)(hi:i=12/\b 14=false\/i=13/\b 15=false):PM W0 k h G S' w gR (Mz b i) (upd u i (.pointer (some ⟨X,0,none⟩))) (X.alloc (.cells #[.slice none 0 0,.bool false] 168)):=by
 obtain⟨⟨l,a1,a2,a3,o,p⟩,A,r,J⟩:=H;have m:=Zy X (.cells #[.slice none 0 0,.bool false] 168);have s:=Blk.new X 168 #[.slice none 0 0,.bool false];have M:=s.lt;have C:=r.lt;have D:4≠i:=AA
 have E:11≠i:=AA
 have F:14≠i:=AA
 have I:15≠i:=AA
 have y:∀(a:Bool) (d:Value),a=false->Cel (λq=>l q\/q=X.heap.size) gR (X.alloc (.cells #[.slice none 0 0,.bool false] 168)) (.pointer (some ⟨X,0,none⟩)) a d:=λa d e=>⟨_,_,_,_,_,rfl,C,.inr rfl,s,λh=>by rw[e] at h;cases h⟩;have z:∀{v:Value} {a:Bool} {d:Value},Cel l gR X v a d->Cel (λq=>l q\/q=X.heap.size) gR (X.alloc (.cells #[.slice none 0 0,.bool false] 168)) v a d:=λn=>n.mono (λq=>Or.inl) λg t L _ B=>B.ext m;have x:∀{v:Value} {a:Bool} {d:Value},Cel l gR X v a d->v ≠ .pointer (some ⟨X,0,none⟩):=λn e=>by
  subst e;have:=n.lt;omega
 refine⟨⟨_,a1.more m (AJ _),λq f => .inl (a2 q f),λq f=>?_,?_,?_⟩,A.map_trans (Off.of_below m),r.ext m,?_⟩
 ·rcases f with f | rfl
  ·have:=a3 q f;omega
  omega
 ·rw[Ys F,Yj D];rcases hi with ⟨rfl,c⟩ | ⟨rfl,c⟩
  ·rw[D1];exact λ_=>y _ _ c
  rw[Ys AA,Yj AA];exact λh=>z (o h)
 ·rw[Ys I,Yj E];rcases hi with ⟨rfl,c⟩ | ⟨rfl,c⟩
  ·rw[Ys AA,Yj AA];exact λh=>z (p h)
  rw[D1];exact λ_=>y _ _ c
 rcases hi with ⟨rfl,c⟩ | ⟨rfl,c⟩
 ·rw[D1,Ys (j:=13) AA,Yj AA];exact λ_ h=>(x (p h)).symm
 rw[D1,Ys (j:=12) AA,Yj AA];exact λh _=>x (o h)
theorem Zu.of_off{w:World}(h:Off S w w')(a:∀g,S g->∀o z,w.cell? ⟨g,o,none⟩≠some (Value.int .u32 z)):Zu w w':=⟨h.size,λb c ⟨o,z,d⟩=>h.keep b c λf=>a b f o z d⟩
theorem M4.off{w:World}(h:M4 w base A n c xs)(f:Off S w w')(d:∀g,(Value.slice A n c).ownBlock=some g->¬S g):M4 w' base A n c xs :=
 ⟨f.row h.1 d,λg b o v j=>h.2 g b o v ((DH (a:=⟨g,o,none⟩) (f.keep g (h.1.lt g b).2 (d g b))).symm.trans j)⟩
theorem UnL.lt{G:Gr}(b:Xq G)(h:UnL G l n r t)(a:InG G l):r<Zx (Zv G) l n:=by
 induction h with
 | nil=>exact Nat.one_pos
 | @term s l n r t h0 _ j =>
   have h1:=j a.tail;rw[<-Jn];refine AK ?_ (Wz (Zv G) s l (n+1) (k:=2) AA);rw[Xy,Xb G h0];show r<_+K0 1*_;unfold K0;rw[if_pos rfl,Nat.one_mul];exact AK h1 (Nat.le_add_left _ _)
 | @non s l n k i q r x p u h0 c g _ _ m o =>
   have h1:=m (InG.at b.fits c);have d:=o a.tail;have f:Z0 (Zv G) G.rules (Zp s) i k+q<Zv G s k:=by
    rw[Uu b h0 (a s (By ..) h0)];refine AK (Nat.add_lt_add_left h1 _) ?_;have:=Y3 (Zv G) c (Zp s) k;rw[if_pos g] at this;rw[<-this];exact Kj _ _ _ _ _
   rw[<-Jn,DZ];refine AK (Nat.add_lt_add_left (Lc f d) _) ?_;have e:=Xy (Zv G) s l (k+n) k;rw[Nat.add_sub_cancel_left] at e;rw[<-e];exact Wz _ _ _ _ AA
theorem UnT.lt{G:Gr}(a:Xq G)(h0:s<0)(c:Zp s<G.nons.length)(h:UnT G (Zp s) n r t):r<Zv G s n:=by
 obtain⟨i,x,q,g,b,f,d,rfl,_⟩:=h;rw[Uu a h0 c];refine AK (Nat.add_lt_add_left (d.lt a (InG.at a.fits b)) _) ?_;have:=Y3 (Zv G) b (Zp s) n;rw[if_pos f] at this;rw[<-this];exact Kj _ _ _ _ _
theorem UnL.one{G:Gr}(a:Xq G)(h:UnL G l n r t)(f:InG G l):∀{c:Nat} {o:List Nat},UnL G l n c o->r=c->t=o:=by
 induction h with
 | nil=>intro c o b _;cases b;rfl
 | @term s l n r t h0 _ L =>
   intro c o b d;generalize y:n+1=m at b;cases b with
   | term _ F =>
     obtain rfl:=Nat.succ.inj y;exact L f.tail F d
   | non h1=>exact absurd h1 AA
 | @non s l n k i q r x R U h0 g z u1 u2 M N =>
   intro c o b d;generalize y:k+n=m at b d;cases b with
   | term h1=>exact absurd h1 AA
   | @non _ _ p B J O c T S V _ j A u C =>
     have v:=f s (By ..) h0;have a1:=u2.lt a f.tail;have a2:=C.lt a f.tail;have D:=UnT.lt a h0 v ⟨i,x,q,R,g,z,u1,rfl,rfl⟩;have E:=UnT.lt a h0 v ⟨J,T,O,S,j,A,u,rfl,rfl⟩;have c1:=Lc D a1;have c2:=Lc E a2;rw[DZ,DZ] at d;obtain⟨rfl,I⟩:=ahead_one (n:=B+p) (by rw[show B+p-k=n by omega];exact c1) (by rw[Nat.add_sub_cancel_left];exact c2) d;obtain rfl:n=p:=AA
     obtain⟨H,rfl⟩:=quo_one a1 a2 I;obtain⟨rfl,rfl⟩:=Zso g j z A (u1.lt a (InG.at a.fits g)) (u.lt a (InG.at a.fits j)) H;rw[g] at j;obtain rfl:=BH j;rw[M (InG.at a.fits g) u rfl,N f.tail C rfl]
theorem UnT.one{G:Gr}(b:Xq G){a:Nat}(h:UnT G a n r t)(k:UnT G a n r j):t=j:=by
 obtain⟨i,x,q,u,c,m,f,rfl,rfl⟩:=h;obtain⟨p,y,s,v,d,o,g,l,rfl⟩:=k;obtain⟨rfl,rfl⟩:=Zso c d m o (f.lt b (InG.at b.fits c)) (g.lt b (InG.at b.fits d)) l;rw[c] at d;obtain rfl:=BH d;rw[f.one b (InG.at b.fits c) g rfl]
theorem M4.blk{w:World}(h:M4 w base A n c xs)(a:(Value.slice A n c).ownBlock=some g):base<=g/\g<w.heap.size/\∃b,Blk w g 3 b:=by
 refine⟨(h.1.lt g a).1,(h.1.lt g a).2,?_⟩;rcases h.1.2 with ⟨e,_⟩ | ⟨j,cap,d,e,_,f,_⟩
 ·rw[e] at a;cases a
 rw[e] at a;injection a with a;subst a;exact⟨d,f⟩
theorem UnL.parts{G:Gr}(d:Xq G)(h:UnL G (s::l) n r t)(f:InG G (s::l)):∃k q g a b,k<=n/\r=Yv (Zv G) s l n k+(q*Zx (Zv G) l (n-k)+g)/\g<Zx (Zv G) l (n-k)/\q<Zv G s k/\UnL G l (n-k) g b/\t=a++b/\(0<=s->a=[]/\q=0/\k=1)/\(s<0->UnT G (Zp s) k q a):=by
 cases h with
 | @term _ _ n r t h0 h1 =>
   refine⟨1,0,r,[],t,AA,?_,?_,?_,h1,rfl,λ_=>⟨rfl,rfl,rfl⟩,λh=>AA⟩
   ·rw[Xy,Ug,Xb G h0];simp[K0]
   ·exact h1.lt d f.tail
   ·rw[Xb G h0];simp[K0]
 | @non _ _ n k i q r x a b h0 m o u1 u2 =>
   have j:UnT G (Zp s) k (Z0 (Zv G) G.rules (Zp s) i k+q) (i::a):=⟨i,x,q,a,m,o,u1,rfl,rfl⟩;refine⟨k,Z0 (Zv G) G.rules (Zp s) i k+q,r,i::a,b,AA,?_,?_,?_,?_,rfl,λh=>AA,λ_=>j⟩
   ·rw[Nat.add_sub_cancel_left,DZ]
   ·rw[Nat.add_sub_cancel_left];exact u2.lt d f.tail
   ·exact j.lt d h0 (f s (By ..) h0)
   rw[Nat.add_sub_cancel_left];exact u2
end
theorem Own.below{w:World}{B:Nat}{t:TypeId}{k:IntKind}{a:List Nat}(h:Own w g t k a)(b:Below B w w')(c:g<B):Own w' g t k a:=(b.block g c).trans h
theorem Zw4(A:Option Addr)(n c:Nat)(xs:List Nat)(w:World)(h:Zq .u32 w A n c xs)(p:n<=1000000):
 Calls prog 102 #[.slice A n c] w (RetOwn w xs):=by
 have j:=h.len;subst j;have q:∀(A:Option Addr) (n c:Nat) (w:World),(binOp .eql 44 (.slice A n c) (.slice none 0 0)).run prog w = .ok (.bool A.isNone) w:=λA n c w=>Lib.run_eql_slice_nil w _ _ _ _ _ _ _ underlying44;rcases A with _ | m
 ·have h0:xs.length=0:=by
   rcases BY xs.length with h0 | h0
   ·exact h0
   obtain⟨b,r,f,_⟩:=h.at_ h0;cases f
  obtain rfl:=BJ h0;go_enter func102,ntmps102;go_wp2;go_ret;exact⟨none,0,rfl,BN _ _ _ _,AL _ _⟩
 have d:=Zt0 w 41 0 [] rfl AA;have k:=h.sl.below ((AL _ _).alloc (AJ _) (.cells #[] 41));go_enter func102,ntmps102;go_wp2_with (at_builtin;refine Zxz rfl _ _ 44 rfl w 41 (.int .u32 0) 4 underlying44 Tryz.info34 rfl _ 0 0 [] rfl d _ xs.length c (nums .u32 xs) rfl k (Zq2 _ _) AA AA AE ?_;intro l o w' a g);go_ret;simp only[BF,DA] at a;exact⟨_,_,rfl,a,X6 ((AL _ _).alloc (AJ _) _) g d AE⟩
theorem nat_sub_ok(v:Option Addr)(n c1:Nat)(xs:List Nat)(z:Option Addr)(m c2:Nat)(P:List Nat)(w:World)(h1:Zq .u32 w v n c1 xs)(d:Zq .u32 w z m c2 P)(r:Lim xs)(s:Lim P)(t:Zm xs=true)(N:Zm P=true)(R:val P<=val xs)(U:m<=n):
 Calls prog 103 #[.slice v n c1,.slice z m c2] w (Xr w (Mw xs P)):=by
 obtain rfl:=h1.len;obtain rfl:=d.len;have ai:xs.length<=32:=by simp[Zm] at t;omega
 have ab:decide (Vq xs P<0)=false:=by
  simp only[Vq,t,N,Bool.and_self,if_true,Vm];rw[if_neg AA];split <;> simp
 have G:Mw xs P=(limbs (val xs-val P),0):=by simp[Mw,t,N];omega
 rw[G];clear G;go_enter func103,ntmps103;go_wp2_with (first
  | (go_at_call 42;(with_reducible refine (Zb _ _ _ _ _ h1).mono ?_);rintro e w'⟨rfl,rfl⟩)
  | (go_at_call 42;(with_reducible refine (Zb _ _ _ _ _ d).mono ?_);rintro e w'⟨rfl,rfl⟩)
  | (go_at_call 47;(with_reducible refine (Zym _ _ _ _ _ _ _ _ _ h1 d r s).mono ?_);rintro e w1⟨rfl,b⟩)
  | (go_at_call 102;(with_reducible refine (Zw4 _ _ _ _ _ (h1.same b) AA).mono ?_);rintro e Y⟨A,c,rfl,a,q⟩))
 have I:=Bv a (base':=w.heap.size) (by rw[b.size];exact AJ _);have E:Below w w Y:=(b.below _).trans (q.mono (by rw[b.size];exact AJ _));clear a q b;go_loopw [7,28] (SubRel w A xs.length c xs P) (λ_ i _=>xs.length-(intOf i).toNat)
 case atStart=>exact⟨0,AS _,rfl,rfl,I,E⟩
 clear I E;obtain⟨k,hk,rfl,rfl,a,f⟩:=hrel;have F:=Qi xs P k;have o:=LH (Mj xs P k);by_cases h:k<xs.length
 ·obtain⟨g,u,rfl,H,ag,O,ad,af⟩:=Gh a h;obtain⟨x,Hx⟩:∃x,Hid (xs[k]? = some x):=⟨_,LH (AM h)⟩;have W:u = .int .u32 (x:Int):=by
   obtain⟨x',l,rfl⟩:=Zrz _ _ _ _ O.out;rw[Zsa _ _ _ _ o.out Hx.out] at l;injection l with l;rw[l]
  subst W;have L:=r.of_get Hx.out;by_cases S:k<P.length
  ·obtain⟨b2,o2,y,rfl,q,p,ae⟩:=(d.below f).get (j:=k) S;have X:=s.of_get p.out;go_wp2_with (go_at_call 161;(with_reducible refine (Dj x y _ _ L X F).mono ?_);rintro e w'⟨rfl,rfl⟩);go_roundw
   case rel =>
    refine⟨k+1,AA,AF,?_,?_,f.setCell H _⟩
    ·simp only[Xn,Yn Hx.out,Yn p.out]
    have:=Lt a k (.int .u32 (((4294967296+x-y-(Xn xs P k).2) % 4294967296:Nat):Int));rw[<-Be,Md _ xs k _ o.out h] at this;simpa [Xn,Hx.out,p.out] using this
   simp[intOf];omega
  have C:=LH (K8 (xs:=P) (j:=k) AA);go_wp2_with (go_at_call 161;(with_reducible refine (L7 x _ _ L F).mono ?_);rintro e w'⟨rfl,rfl⟩);go_roundw
  case rel =>
   refine⟨k+1,AA,AF,?_,?_,f.setCell H _⟩
   ·simp only[Xn,Yn Hx.out,C.out,Nat.sub_zero]
   have:=Lt a k (.int .u32 (((4294967296+x-0-(Xn xs P k).2) % 4294967296:Nat):Int));rw[<-Be,Md _ xs k _ o.out h] at this;have M:=C.out;rw[AP] at M;simpa [Xn,Hx.out,M] using this
  simp[intOf];omega
 obtain rfl:k=xs.length:=AA
 rw[List.drop_length,DK] at a;have V:Zq .u32 wr A xs.length c (Xn xs P xs.length).1:=Yl a;have J:=Zyj xs P r s xs.length (AJ _) U R;have T:=Gv xs P xs.length;have B:=LH (Vg _ T);rw[J] at B;have Z:=LH (Mj xs P xs.length);clear J;go_wp2_with (go_at_call 162;(with_reducible refine (Q3 _ _ _ _ _ V).mono ?_);rintro e w'⟨rfl,D,rfl⟩);go_ret2;rw[B.out] at D ⊢;exact⟨_,_,rfl,D,f⟩
theorem nat_sub(f:Option Addr)(n c1:Nat)(xs:List Nat)(g:Option Addr)(m c2:Nat)(t:List Nat)(w:World)(h1:Zq .u32 w f n c1 xs)(b:Zq .u32 w g m c2 t)(h:Lim xs)(j:Lim t):
 Calls prog 103 #[.slice f n c1,.slice g m c2] w (Xr w (Mw xs t)):=by
 by_cases d:Zm xs=true
 case neg =>
  have q:Zm xs=false:=by simpa using d
  have a:Mw xs t=([],1):=by simp[Mw,q]
  rw[a];clear a d;go_enter func103,ntmps103;go_wp2_with (first
   | (go_at_call 42;(with_reducible refine (Zb _ _ _ _ _ h1).mono ?_);rintro e w'⟨rfl,rfl⟩)
   | (go_at_call 42;(with_reducible refine (Zb _ _ _ _ _ b).mono ?_);rintro e w'⟨rfl,rfl⟩))
  go_ret2;exact⟨none,0,rfl,Zq.nil _ _ _ _ AE,AL _ _⟩
 by_cases c:Zm t=true
 case neg =>
  have r:Zm t=false:=by simpa using c
  have a:Mw xs t=([],1):=by simp[Mw,r]
  rw[a];clear a c;go_enter func103,ntmps103;go_wp2_with (first
   | (go_at_call 42;(with_reducible refine (Zb _ _ _ _ _ h1).mono ?_);rintro e w'⟨rfl,rfl⟩)
   | (go_at_call 42;(with_reducible refine (Zb _ _ _ _ _ b).mono ?_);rintro e w'⟨rfl,rfl⟩))
  go_ret2;exact⟨none,0,rfl,Zq.nil _ _ _ _ AE,AL _ _⟩
 by_cases k:val t<=val xs
 ·refine nat_sub_ok f n c1 xs g m c2 t w h1 b h j d c k ?_;rcases BD n m with o | l
  ·have:=Qu xs t h j (X8 t c) (by rw[h1.len,b.len];exact o);omega
  exact l
 have s:decide (Vq xs t<0)=true:=by
  simp only[Vq,d,c,Bool.and_self,if_true,Vm];rw[if_pos AA];simp
 have a:Mw xs t=([],11):=by simp[Mw,d,c];omega
 rw[a];clear a;go_enter func103,ntmps103;go_wp2_with (first
  | (go_at_call 42;(with_reducible refine (Zb _ _ _ _ _ h1).mono ?_);rintro e w'⟨rfl,rfl⟩)
  | (go_at_call 42;(with_reducible refine (Zb _ _ _ _ _ b).mono ?_);rintro e w'⟨rfl,rfl⟩)
  | (go_at_call 47;(with_reducible refine (Zym _ _ _ _ _ _ _ _ _ h1 b h j).mono ?_);rintro e w1⟨rfl,p⟩))
 go_ret2;exact⟨none,0,rfl,Zq.nil _ _ _ _ AE,p.below _⟩
theorem nat_take(q:Option Addr)(n c1:Nat)(xs:List Nat)(r:Option Addr)(m c2:Nat)(P:List Nat)(w:World)(h1:Zq .u32 w q n c1 xs)(z:Zq .u32 w r m c2 P)(U:Lim xs)(V:Lim P)(hn:n<=1000):
 Calls prog 211 #[.slice q n c1,.slice r m c2] w (RetTake w xs P):=by
 obtain rfl:=h1.len;obtain rfl:=z.len;go_enter func211,ntmps211;go_wp2_with (go_at_call 102;(with_reducible refine (Zw4 _ _ _ _ _ h1 AA).mono ?_);rintro e w2⟨A,c,rfl,F,B⟩);go_loopw [7,14] (SubRel w A xs.length c xs P) (λ_ i _=>xs.length-(intOf i).toNat)
 case atStart=>exact⟨0,AS _,rfl,rfl,F,B⟩
 clear F B;obtain⟨k,hk,rfl,rfl,d,b⟩:=hrel;have C:=Qi xs P k;have l:=LH (Mj xs P k);by_cases f:k<xs.length
 ·obtain⟨g,u,rfl,D,ae,J,aa,ad⟩:=Gh d f;obtain⟨x,Hx⟩:∃x,Hid (xs[k]? = some x):=⟨_,LH (AM f)⟩;have R:u = .int .u32 (x:Int):=by
   obtain⟨x',h,rfl⟩:=Zrz _ _ _ _ J.out;rw[Zsa _ _ _ _ l.out Hx.out] at h;injection h with h;rw[h]
  subst R;have G:=U.of_get Hx.out;by_cases O:k<P.length
  ·obtain⟨X,o2,y,rfl,Z,o,ab⟩:=(z.below b).get (j:=k) O;have T:=V.of_get o.out;go_wp2_with (go_at_call 161;(with_reducible refine (Dj x y _ _ G T C).mono ?_);rintro e w'⟨rfl,rfl⟩);go_roundw
   case rel =>
    refine⟨k+1,AA,AF,?_,?_,b.setCell D _⟩
    ·simp only[Xn,Yn Hx.out,Yn o.out]
    have:=Lt d k (.int .u32 (((4294967296+x-y-(Xn xs P k).2) % 4294967296:Nat):Int));rw[<-Be,Md _ xs k _ l.out f] at this;simpa [Xn,Hx.out,o.out] using this
   simp[intOf];omega
  have s:=LH (K8 (xs:=P) (j:=k) AA);go_wp2_with (go_at_call 161;(with_reducible refine (L7 x _ _ G C).mono ?_);rintro e w'⟨rfl,rfl⟩);go_roundw
  case rel =>
   refine⟨k+1,AA,AF,?_,?_,b.setCell D _⟩
   ·simp only[Xn,Yn Hx.out,s.out,Nat.sub_zero]
   have:=Lt d k (.int .u32 (((4294967296+x-0-(Xn xs P k).2) % 4294967296:Nat):Int));rw[<-Be,Md _ xs k _ l.out f] at this;have I:=s.out;rw[AP] at I;simpa [Xn,Hx.out,I] using this
  simp[intOf];omega
 obtain rfl:k=xs.length:=AA
 rw[List.drop_length,DK] at d;have p:Zq .u32 wr A xs.length c (Xn xs P xs.length).1:=Yl d;have N:=Zv3 d;have H:∀v:Bool,v=decide ((Xn xs P xs.length).2=0/\P.length<=xs.length)->
  ∀w',Zq .u32 w' A (Xx (Xn xs P xs.length).1).length (Xx (Xn xs P xs.length).1).length (Xx (Xn xs P xs.length).1)->Below w w w'->
  RetTake w xs P (.returned (.tuple #[.slice A (Xx (Xn xs P xs.length).1).length (Xx (Xn xs P xs.length).1).length,.bool v])) w':=by
  intro v S w' a L;subst S;unfold RetTake;exact⟨_,_,rfl,a,L,N⟩
 have W:=LH (Mj xs P xs.length);generalize M:(Xn xs P xs.length).2=t at *;clear M;by_cases h0:t=0
 ·subst h0;by_cases E:P.length<=xs.length
  ·have hd:decide ((xs.length:Int) ≥ (P.length:Int))=true:=AG
   go_wp2_with (go_at_call 162;(with_reducible refine (Q3 _ _ _ _ _ p).mono ?_);rintro e w'⟨rfl,a,rfl⟩);go_ret2;exact H _ (by simp[E]) _ a b
  have hd:decide ((xs.length:Int) ≥ (P.length:Int))=false:=AG
  go_wp2_with (go_at_call 162;(with_reducible refine (Q3 _ _ _ _ _ p).mono ?_);rintro e w'⟨rfl,a,rfl⟩);go_ret2;exact H _ (by simp[E]) _ a b
 have Y:((t:Int)==0)=false:=by simp[h0]
 go_wp2_with (go_at_call 162;(with_reducible refine (Q3 _ _ _ _ _ p).mono ?_);rintro e w'⟨rfl,a,rfl⟩);go_ret2;exact H _ (by simp[h0]) _ a b
theorem nat_tk(f:Option Addr)(n c1:Nat)(xs:List Nat)(g:Option Addr)(m c2:Nat)(r:List Nat)(w:World)(h1:Zq .u32 w f n c1 xs)(j:Zq .u32 w g m c2 r)(a:Lim xs)(b:Lim r)(ty:Mo r)(q:n<=1000):
 Calls prog 211 #[.slice f n c1,.slice g m c2] w (RetTk w (val xs) (val r)):=by
 refine (nat_take _ _ _ _ _ _ _ _ _ h1 j a b q).mono ?_;intro e w' h;unfold RetTake at h;unfold RetTk;obtain⟨A,c,rfl,k,l,o⟩:=h;refine⟨A,c,_,?_,k,l,o,?_⟩
 ·have hd:decide ((Xn xs r xs.length).2=0/\r.length<=xs.length)=decide (val r<=val xs):=?_
  ·rw[hd]
  rw[decide_eq_decide];by_cases d:r.length<=xs.length
  ·rw[Zup xs r a b _ (AJ _) d];split <;> omega
  have:=Qu xs r a b ty AA;constructor
  ·intro h;omega
  intro h;omega
 refine LH λp=>?_;have d:r.length<=xs.length:=by
  rcases BD xs.length r.length with h | h
  ·have:=Qu xs r a b ty h;omega
  exact h
 rw[Vg _ (Gv xs r _),Zyj xs r a b _ (AJ _) d p]
theorem ref_sub(l:Option Addr)(n c1:Nat)(xs:List Nat)(o:Option Addr)(m c2:Nat)(P:List Nat)(w:World)(h1:Zq .u32 w l n c1 xs)(c:Zq .u32 w o m c2 P)(f:Lim xs)(h:Lim P):
 Calls prog 111 #[.slice l n c1,.slice o m c2] w (Xr w (Mw xs P)):=by
 by_cases b:Zm xs=true
 case neg =>
  have aa:Zm xs=false:=by simpa using b
  have a:Mw xs P=([],1):=by simp[Mw,aa]
  rw[a];clear a b;go_enter func111,ntmps111;go_wp2_with (first
   | (go_at_call 35;(with_reducible refine (Z4 _ _ _ _ _ h1).mono ?_);rintro e w'⟨rfl,rfl⟩)
   | (go_at_call 35;(with_reducible refine (Z4 _ _ _ _ _ c).mono ?_);rintro e w'⟨rfl,rfl⟩))
  go_ret2;exact⟨none,0,rfl,Zq.nil _ _ _ _ AE,AL _ _⟩
 by_cases d:Zm P=true
 case neg =>
  have ab:Zm P=false:=by simpa using d
  have a:Mw xs P=([],1):=by simp[Mw,ab]
  rw[a];clear a d;go_enter func111,ntmps111;go_wp2_with (first
   | (go_at_call 35;(with_reducible refine (Z4 _ _ _ _ _ h1).mono ?_);rintro e w'⟨rfl,rfl⟩)
   | (go_at_call 35;(with_reducible refine (Z4 _ _ _ _ _ c).mono ?_);rintro e w'⟨rfl,rfl⟩))
  go_ret2;exact⟨none,0,rfl,Zq.nil _ _ _ _ AE,AL _ _⟩
 have W:=Ut xs b;have V:=Ut P d;by_cases U:val P<=val xs
 case neg =>
  have S:decide (Vq xs P<0)=true:=by
   simp only[Vq,b,d,Bool.and_self,if_true,Vm];rw[if_pos AA];simp
  have a:Mw xs P=([],11):=by simp[Mw,b,d];omega
  rw[a];clear a;go_enter func111,ntmps111;go_wp2_with (first
   | (go_at_call 35;(with_reducible refine (Z4 _ _ _ _ _ h1).mono ?_);rintro e w'⟨rfl,rfl⟩)
   | (go_at_call 35;(with_reducible refine (Z4 _ _ _ _ _ c).mono ?_);rintro e w'⟨rfl,rfl⟩)
   | (go_at_call 36;(with_reducible refine (Le _ _ _ _ _ _ _ _ _ h1 c f h).mono ?_);rintro e w1⟨rfl,j⟩))
  go_ret2;exact⟨none,0,rfl,Zq.nil _ _ _ _ AE,j.below _⟩
 have S:decide (Vq xs P<0)=false:=by
  simp only[Vq,b,d,Bool.and_self,if_true,Vm];rw[if_neg AA];split <;> simp
 have a:Mw xs P=(limbs (val xs-val P),0):=by simp[Mw,b,d];omega
 rw[a];clear a;go_enter func111,ntmps111;go_wp2_with (first
  | (go_at_call 35;(with_reducible refine (Z4 _ _ _ _ _ h1).mono ?_);rintro e w'⟨rfl,rfl⟩)
  | (go_at_call 35;(with_reducible refine (Z4 _ _ _ _ _ c).mono ?_);rintro e w'⟨rfl,rfl⟩)
  | (go_at_call 36;(with_reducible refine (Le _ _ _ _ _ _ _ _ _ h1 c f h).mono ?_);rintro e w1⟨rfl,j⟩))
 go_loopw [6,7,8] (RSubRel w xs P) (λ_ _ i _=>(32-intOf i).toNat)
 case atStart=>exact⟨0,none,0,AS _,rfl,rfl,rfl,BN _ _ _ _,j.below _⟩
 clear j;obtain⟨k,A,M,hk,rfl,rfl,rfl,s,g⟩:=hrel;have ad:=Qi xs P k;have R:=g.size;by_cases af:k<32
 ·have Y:=f.getD k;have Z:=h.getD k;obtain⟨x,Hx⟩:∃x,Hid (xs.getD k 0=x):=⟨_,LH rfl⟩;obtain⟨y,p⟩:∃y,Hid (P.getD k 0=y):=⟨_,LH rfl⟩;have q:=Ww l n c1 xs k wr (h1.below g) f;have r:=Ww o m c2 P k wr (c.below g) h;rw[Hx.out] at q Y;rw[p.out] at r Z;have F:=LH q;have G:=LH r;have u:Hid (4294967296+(x:Int)-(y:Int)-((Xn xs P k).2:Int)=((4294967296+x-y-(Xn xs P k).2:Nat):Int)):=LH AA;clear q r;go_wp2_with (first
   | (go_at_call 76;(with_reducible refine F.out.mono ?_);rintro e w'⟨rfl,rfl⟩)
   | (go_at_call 76;(with_reducible refine G.out.mono ?_);rintro e w'⟨rfl,rfl⟩)
   | (at_builtin;refine Vc (w:=wr) rfl _ _ 44 rfl w 41 (.int .u32 0) 4 underlying44 Tryz.info34 rfl _ k _ _ rfl s (.int .u32 ((4294967296+(x:Int)-(y:Int)-((Xn xs P k).2:Int)) % 4294967296)) rfl rfl AA AA AA ?_;intro D L w2 z T))
  go_roundw
  case rel =>
   refine⟨k+1,D,L,AA,AF,?_,rfl,?_,X6 g T s R⟩
   ·simp only[Xn,Hx.out,p.out];rw[u.out];go_num
   rw[u.out] at z;simp only[Xn,Hx.out,p.out,Mi];simpa using z
  simp[intOf];omega
 obtain rfl:k=32:=AA
 have B:=Zyj xs P f h 32 W V U;have v:Xm (val xs-val P)=(limbs (val xs-val P),0):=Km (by have:=(Ul xs f b).2;omega);have I:=LH B;have E:=LH v;clear B v;have X:Zq .u32 wr A 32 M (Xn xs P 32).1:=Yl s;have t:=As _ _ _ _ _ X (Gv xs P 32);rw[I.out,E.out] at t;have H:=LH t;clear t;go_wp2_with (go_at_call 168;(with_reducible refine H.out.mono ?_);rintro e w'⟨C,J,rfl,O,N⟩);go_ret2;exact⟨C,J,rfl,O,Zz g N⟩
theorem ref_less(b:Option Addr)(n c1:Nat)(xs:List Nat)(c:Option Addr)(m c2:Nat)(P:List Nat)(w:World)(h1:Zq .u32 w b n c1 xs)(C:Zq .u32 w c m c2 P)(j:Lim xs)(l:Lim P)(H:xs.length<=33)(G:P.length<=33)(F:val P<=val xs):
 Calls prog 189 #[.slice b n c1,.slice c m c2] w (Bq w (limbs (val xs-val P))):=by
 go_enter func189,ntmps189;go_wp2;go_loopw [5,6,7] (RLessRel w xs P) (λ_ _ i _=>(33-intOf i).toNat)
 case atStart=>exact⟨0,none,0,AS _,rfl,rfl,rfl,BN _ _ _ _,AL _ _⟩
 obtain⟨k,A,B,N,rfl,rfl,rfl,h,a⟩:=hrel;have M:=Qi xs P k;have D:=a.size;by_cases O:k<33
 ·have J:=j.getD k;have L:=l.getD k;obtain⟨x,Hx⟩:∃x,Hid (xs.getD k 0=x):=⟨_,LH rfl⟩;obtain⟨y,d⟩:∃y,Hid (P.getD k 0=y):=⟨_,LH rfl⟩;have f:=Ww b n c1 xs k wr (h1.below a) j;have g:=Ww c m c2 P k wr (C.below a) l;rw[Hx.out] at f J;rw[d.out] at g L;have u:=LH f;have v:=LH g;have p:Hid (4294967296+(x:Int)-(y:Int)-((Xn xs P k).2:Int)=((4294967296+x-y-(Xn xs P k).2:Nat):Int)):=LH AA;clear f g;go_wp2_with (first
   | (go_at_call 76;(with_reducible refine u.out.mono ?_);rintro e w'⟨rfl,rfl⟩)
   | (go_at_call 76;(with_reducible refine v.out.mono ?_);rintro e w'⟨rfl,rfl⟩)
   | (at_builtin;refine Vc (w:=wr) rfl _ _ 44 rfl w 41 (.int .u32 0) 4 underlying44 Tryz.info34 rfl _ k _ _ rfl h (.int .u32 ((4294967296+(x:Int)-(y:Int)-((Xn xs P k).2:Int)) % 4294967296)) rfl rfl AA AA AA ?_;intro t z R r E))
  go_roundw
  case rel =>
   refine⟨k+1,t,z,AA,AF,?_,rfl,?_,X6 a E h D⟩
   ·simp only[Xn,Hx.out,d.out];rw[p.out];go_num
   rw[p.out] at r;simp only[Xn,Hx.out,d.out,Mi];simpa using r
  simp[intOf];omega
 obtain rfl:k=33:=AA
 have s:=Zyj xs P j l 33 H G F;have I:Zq .u32 wr A 33 B (Xn xs P 33).1:=Yl h;have o:=LH (Vg _ (Gv xs P 33));rw[s] at o;clear s;go_wp2_with (go_at_call 31;(with_reducible refine (G6 _ _ _ _ _ I).mono ?_);rintro e w'⟨rfl,q,rfl⟩);go_ret;rw[o.out] at q ⊢;exact⟨_,_,rfl,q,a⟩
theorem Za.keep{w:World}{d:List Int}(h:Za .i64 w A n c d)(m:Zf w w'):Za .i64 w' A n c d:=by
 refine⟨h.1,h.2.1,h.2.2.1,λf=>?_⟩;obtain⟨b,g,e,k,l⟩:=h.2.2.2 f;have h0:=l 0 f;have hi:∃o q z,w.cell? ⟨b,o,none⟩=some (Value.int q z):=by
  have s:0<d.length:=by simpa [ints] using f
  refine⟨g+0,.i64,d[0],?_⟩;rw[h0];simp[ints,s]
 have p:=m.2 b k hi;exact⟨b,g,e,AK k m.1,λj r=>(DH (a:=⟨b,g+j,none⟩) p).trans (l j r)⟩
theorem valcell_set{l:Option Addr}{ns cs:Nat}{m:Bool}(d:Blk a g 110 #[.slice l ns cs,.bool m])(A:Option Addr)(n c:Nat)(b:Bool):
 Off (λk=>k=g) a ((a.setCell ⟨g,0,none⟩ (.slice A n c)).setCell ⟨g,1,none⟩ (.bool b)) /\
 Blk ((a.setCell ⟨g,0,none⟩ (.slice A n c)).setCell ⟨g,1,none⟩ (.bool b)) g 110 #[.slice A n c,.bool b]/\Zf a ((a.setCell ⟨g,0,none⟩ (.slice A n c)).setCell ⟨g,1,none⟩ (.bool b)):=by
 have j:Off (λk=>k=g) a ((a.setCell ⟨g,0,none⟩ (.slice A n c)).setCell ⟨g,1,none⟩ (.bool b)):=(Off.of_set a g 0 (.slice A n c)).trans (Off.of_set _ g 1 (.bool b)) λ_ _ h=>h;refine⟨j,(d.set 0 _).set 1 _,Zf.of_off j λq p=>?_⟩;rw[p];intro o k z f;rw[d.cell o] at f;rcases o with _ | _ | o <;> cases f
theorem rf_wfull{f:World}{h:GH}{G:Gr}{o k d:Nat}(Al:Option Addr)(a g:Nat)(n:Int)(Ar:Option Addr)(m cr:Nat)(w:World)(l:WkAt f h G At o k d j true w):
 Calls prog 78 #[.pointer (some ⟨d,0,none⟩),.slice Al a g,.int .i64 n,.slice Ar m cr] w λe w'=>e = .returned (.tuple #[])/\w=w':=by
 obtain⟨A,c,b⟩:=l;have p:w.cell? ⟨d,6,none⟩=some (.bool true):=b.box.cell 6;have q:=b.box.lt;by_cases h0:a=0
 case pos =>
  have h1:((a:Int)==0)=true:=by rw[h0];rfl
  go_enter func78,ntmps78;go_wp2_with fail;refine AW (results_none rfl _ _ _) rfl ?_;exact⟨rfl,rfl⟩
 have h1:((a:Int)==0)=false:=by rw[AQ];omega
 go_enter func78,ntmps78;go_wp2_with fail;refine AW (results_none rfl _ _ _) rfl ?_;exact⟨rfl,rfl⟩
