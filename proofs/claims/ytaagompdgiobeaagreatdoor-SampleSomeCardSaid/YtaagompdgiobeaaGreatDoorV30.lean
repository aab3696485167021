/- numbers: words that draw wants besides rank's. -/
import Derived.Test.YtaagompdgiobeaaGreatDoorV26
set_option linter.all false
set_option maxHeartbeats 1500000
set_option maxRecDepth 100000
namespace Go.Proofs.YtaagompdgiobeaaGreatDoor
open Go.RowKit Go.Proofs.Tryz
theorem bitLen_half(t:Nat)(h:t≠0):bitLen t=bitLen (t / 2)+1:=by
 by_cases h1:t / 2=0
 ·have a:t=1:=AA
  subst a;rfl
 have:=Go.bitLen_shift t 1 (by simpa using h1);show Go.bitLen t=Go.bitLen (t / 2)+1;rw[this,Eo]
theorem ref_bits(f:Option Addr)(n c1:Nat)(xs:List Nat)(w:World)(h1:Zq .u32 w f n c1 xs)(p:Lim xs):
 Calls prog 112 #[.slice f n c1] w λe w'=>e = .returned (.int .i64 (Zz9 xs:Int))/\w=w':=by
 obtain rfl:=h1.len;by_cases c:Zm xs=true
 case neg =>
  have A:Zm xs=false:=by simpa using c
  have b:Zz9 xs=0:=by simp[Zz9,A]
  rw[b];clear b c;go_enter func112,ntmps112;go_wp2_with (go_at_call 35;(with_reducible refine (Z4 _ _ _ _ _ h1).mono ?_);rintro e w'⟨rfl,rfl⟩);go_ret;exact⟨rfl,rfl⟩
 rcases List.eq_nil_or_concat xs with rfl | ⟨a,z,rfl⟩
 ·have b:Zz9 []=0:=AC
  rw[b];clear b;simp only[DE] at h1 ⊢;go_enter func112,ntmps112;go_wp2_with (go_at_call 35;(with_reducible refine (Z4 _ _ _ _ _ h1).mono ?_);rintro e w'⟨rfl,rfl⟩);go_ret;exact⟨rfl,rfl⟩
 rw[List.concat_eq_append] at *;have v:=X8 _ c a z rfl;have d:z<4294967296:=p z AE;have s:Lim a:=λy o=>p y (by simp[o]);have b:Zz9 (a++[z])=32*a.length+bitLen z:=by simp only[Zz9,c,if_true];exact Zql a z s v
 have q:=LH b;clear b;have k:(a++[z]).length=a.length+1:=AE
 obtain⟨B,I,x,rfl,C,Hx,E⟩:=h1.get (j:=a.length) AA;have u:x=z:=by have:=Hx.out;simp at this;omega
 subst u;have G:a.length+1<=32:=by have:=Ut _ c;omega
 have D:bitLen x<=32:=by
  rw[<-Bm x d];exact Lib.bitLenAux_le 64 x 32 d
 rw[k] at h1 ⊢;clear k;go_enter func112,ntmps112;go_wp2_with (go_at_call 35;(with_reducible refine (Z4 _ _ _ _ _ h1).mono ?_);rintro e w'⟨rfl,rfl⟩);go_loop [3,4] (λn t=>∃(m y:Nat),n = .int .i64 (m:Int)/\t = .int .u32 (y:Int)/\y<4294967296/\m+bitLen y=32*a.length+bitLen x) (λ_ t=>(intOf t).toNat)
 case atStart=>exact⟨32*a.length,x,AF,rfl,d,rfl⟩
 obtain⟨m,y,rfl,rfl,H,l⟩:=hrel;have F:m<=1024:=AA
 have g:=LH l;clear l;by_cases o:0<y
 ·have h:=bitLen_half y AA;have r:=LH h;clear h;go_wp2;go_round
  case rel=>exact⟨m+1,y / 2,AF,AF,AA,by have:=g.out;have:=r.out;omega⟩
  simp[intOf] <;> omega
 obtain rfl:y=0:=AA
 go_wp2;go_ret;rw[q.out,<-g.out];exact⟨Bo (by rw[show bitLen 0=0 from rfl];rfl),rfl⟩
theorem Zqj(a:Option Addr)(n c1:Nat)(xs:List Nat)(w:World)(h1:Zq .u32 w a n c1 xs)(x:Lim xs):
 Calls prog 52 #[.slice a n c1] w λe w'=>e = .returned (.int .i64 (Zrs xs:Int))/\Below w w w':=by
 have o:∀w' A c,Zq .u32 w' a n c1 xs->Zq .u32 w' A 1 c [1]->Calls prog 111 #[.slice a n c1,.slice A 1 c] w' (Xr w' (Mw xs (limbs 1))):=by
  intro w' A c u v;have:=ref_sub a n c1 xs A 1 c [1] w' u v x (Lim.mk AC Lim.nil);rwa [Zqh]
 have k:=LH o;have b:Below w w (w.alloc (.cells #[.int .u32 1] 41)):=(AL _ _).alloc (AJ _) _;have j:Hid (Zz9 (Mw xs (limbs 1)).1=Zrs xs):=rfl;have s:=LH (Zqc xs (limbs 1));have f:(Mw xs (limbs 1)).2≠0->(Mw xs (limbs 1)).1=[]:=by
  unfold Mw;split
  ·split
   ·intro _;rfl
   intro h;exact absurd rfl h
  intro _;rfl
 generalize Mw xs (limbs 1)=p at *;obtain⟨ps,l⟩:=p;simp only[] at *;by_cases g:l=0
 ·subst g;go_enter func52,ntmps52;go_wp2_with (first
   | (go_at_call 111;refine (k.out _ _ _ (h1.below b) (Zqr w)).mono ?_;rintro e y⟨q,t,rfl,m,d⟩)
   | (go_at_call 112;refine (ref_bits _ _ _ _ _ m s.out).mono ?_;rintro e B⟨rfl,rfl⟩;rw[j]))
  go_ret;exact⟨rfl,Zz b d⟩
 have z:((l:Int)==0)=false:=by rw[AQ];omega
 have r:Hid (Zrs xs=0):=LH (by rw[<-j,f g];decide);go_enter func52,ntmps52;go_wp2_with (go_at_call 111;refine (k.out _ _ _ (h1.below b) (Zqr w)).mono ?_;rintro e y⟨q,t,rfl,m,d⟩);go_ret;rw[r];exact⟨rfl,Zz b d⟩
theorem Zqg(a:Option Addr)(n c1:Nat)(xs:List Nat)(w:World)(h1:Zq .u32 w a n c1 xs)(b:Lim xs):
 Calls prog 50 #[.slice a n c1] w λe w'=>e = .returned (.int .i64 (B9 xs:Int))/\Below w w w':=by
 have f:=Zr5 xs b;have c:Hid (((Zrs xs:Int)+31) / 32=(B9 xs:Int)):=LH (by unfold B9;omega);go_enter func50,ntmps50;go_wp2_with (go_at_call 52;refine (Zqj _ _ _ _ _ h1 b).mono ?_;rintro e w1⟨rfl,d⟩);go_ret;exact⟨by rw[<-c];rfl,d⟩
def TryRel(w:World)(k:Nat)(b:List Nat)(o i:Value)(wr:World):Prop :=
 ∃(j:Nat) (A:Option Addr) (a:Nat),j<=b.length/\i = .int .i64 (j:Int)/\o = .slice A j a /\
  wr.ownsRow w.heap.size 41 1 (.slice A j a) j (nums .u32 (Zrx k b j))/\Below w.heap.size w wr
theorem ref2_try(G:Option Addr)(n c1:Nat)(a:List Nat)(k:Nat)(w:World)(h1:Zq .u32 w G n c1 a)(S:Lim a)(h0:0<a.length)(W:32*(a.length-1)<k)(X:k<=32*a.length)(hn:a.length<=40):
 Calls prog 51 #[.int .i64 (k:Int),.slice G n c1] w (Bq w (oneOf k a)):=by
 obtain rfl:=h1.len;have I:=LH (Zqs k a S h0 W X);go_enter func51,ntmps51;go_wp2;go_loopw [5,6] (TryRel w k a) (λ_ i _=>a.length-(intOf i).toNat)
 case atStart=>exact⟨0,none,0,AS _,rfl,rfl,BN _ _ _ _,AL _ _⟩
 obtain⟨j,A,l,hj,rfl,rfl,f,d⟩:=hrel;have J:=d.size;by_cases Z:j<a.length
 ·obtain⟨b1,o1,y,rfl,ah,B,aj⟩:=(h1.below d).get (j:=j) Z;have ab:=S.of_get B;by_cases M:k<32*j+32
  ·obtain⟨r,R⟩:∃r,r=k-32*j:=⟨_,rfl⟩;have Y:(k:Int)-32*(j:Int)=(r:Int):=AA
   have aw:r<32:=AA
   have ax:(r:Int)<=(k:Int)-32*(j:Int):=AA
   have ay:(k:Int)-32*(j:Int)<=(r:Int):=AA
   have V:=LH R;go_wp2;go_loop [9,10] (λo t=>∃q:Nat,q<=r/\t = .int .i64 (q:Int)/\o = .int .u64 ((2 ^ q:Nat):Int)) (λ_ t=>r-(intOf t).toNat)
   case atStart=>exact⟨0,AS _,rfl,rfl⟩
   obtain⟨q,O,rfl,rfl⟩:=hrel;have aq:2 ^ q<=4294967296:=by
    have:=CV (n:=2) AC (show q<=32 by omega);simpa using this
   have ar:0<2 ^ q:=Nat.two_pow_pos q;have T:Hid ((2:Nat) ^ (q+1)=2*2 ^ q):=LH (by rw[Nat.pow_succ,Ef]);generalize N:(2:Nat) ^ q=g at *;have U:=LH N;by_cases av:q<r
   ·go_wp2;go_round
    case rel=>exact⟨q+1,AA,AF,by rw[T];go_num⟩
    simp[intOf];omega
   have P:q=r:=AA
   have ao:(y:Int) % (g:Int)=((y % g:Nat):Int):=AE
   have au:((g:Int)==0)=false:=by rw[AQ];omega
   have a0:y % g<4294967296:=En (Nat.mod_le _ _) ab;have z:Hid (Zrx k a (j+1)=Zrx k a j++[y % g]):=LH (by
    rw[Zrx,if_pos M,Yn B,<-V,<-P,U])
   generalize y % g=m at *;go_wp2_with (at_builtin;refine Vc (w:=wr) rfl _ _ 44 rfl w 41 (.int .u32 0) 4 underlying44 Tryz.info34 rfl _ j _ _ rfl f (.int .u32 ((m:Int))) rfl rfl AA AA AA ?_;intro p C w2 E D);go_roundw
   case rel=>exact⟨j+1,p,C,AA,AF,rfl,by rw[z,Mi];exact E,X6 d D f J⟩
   simp[intOf];omega
  have z:Hid (Zrx k a (j+1)=Zrx k a j++[y]):=LH (by rw[Zrx,if_neg M,Yn B]);go_wp2_with (at_builtin;refine Vc (w:=wr) rfl _ _ 44 rfl w 41 (.int .u32 0) 4 underlying44 Tryz.info34 rfl _ j _ _ rfl f (.int .u32 ((y:Int))) rfl rfl AA AA AA ?_;intro p C w2 E D);go_roundw
  case rel=>exact⟨j+1,p,C,AA,AF,rfl,by rw[z,Mi];exact E,X6 d D f J⟩
  simp[intOf];omega
 obtain rfl:j=a.length:=AA
 have h:Zq .u32 wr A a.length l (Zrx k a a.length):=Yl f;have ak:=h.cap;generalize aa:Zrx k a a.length=xs at *;have hl:=h.len;go_wp2;go_loop [5] (λv=>∃q:Nat,q<=a.length/\v = .slice A q l/\Xx xs=Xx (xs.take q)) (λv=>lenOf v)
 case atStart=>exact⟨a.length,AJ _,rfl,by rw[AR AA]⟩
 obtain⟨q,O,rfl,hrel⟩:=hrel;have u:=LH hrel;by_cases an:0<q
 ·obtain⟨b,ad,x,rfl,hb,Hx,hc⟩:=h.get (j:=q-1) AA;by_cases F:x=0
  ·subst F;go_wp2;go_round
   case rel =>
    refine⟨q-1,AA,AF,?_⟩;rw[u];have:=Zws xs (q-1) AA (by simp[Hx.out]);rw[<-this,show q-1+1=q from by omega]
   simp[lenOf];omega
  have ht:((x:Int)==0)=false:=by simp[F]
  have c:=Zxp xs (q-1) AA (by simpa [Hx.out] using F);rw[show q-1+1=q from by omega,<-u] at c;have L:(Xx xs).length=q:=by rw[c];simp;omega
  have s:=LH c;have H:=LH L;go_wp2;go_ret;rw[<-I];refine⟨some ⟨b,ad,none⟩,l,by rw[H];rfl,?_,d⟩;rw[H,s];exact h.take q l O AA AA
 have c:Xx xs=[]:=by rw[u,show q=0 from by omega];simp[Xx]
 have s:=LH c;obtain rfl:q=0:=AA
 go_wp2;go_ret;rw[<-I,s];exact⟨_,_,rfl,Zq.nil _ _ _ _ AA,d⟩
def RBelRel(w:World)(b:List Nat)(v k n:Nat)(p:List Nat × Nat × Nat)(i:Value)(wr:World):Prop :=
 ∃a f:Nat,a<=b.length/\b.length-a<f/\i = .int .i64 (a:Int)/\Below w.heap.size w wr/\Hid (Zrr v k n f a (b.drop a)=p)
theorem ref2_below(J:Option Addr)(n c1:Nat)(xs:List Nat)(L:Option Addr)(m c2:Nat)(b:List Nat)(w:World)(h1:Zq .u32 w J n c1 xs)(d:Zq .u32 w L m c2 b)(o:Lim xs)(lw:Lim b):
 Calls prog 25 #[.slice J n c1,.slice L m c2] w (RetDraw w (X5 xs b)):=by
 obtain rfl:=h1.len;obtain rfl:=d.len;by_cases q:Zm xs=true
 case neg =>
  have am:Zm xs=false:=by simpa using q
  have c:X5 xs b=([],0,1):=by simp[X5,am]
  rw[c];clear c q;go_enter func25,ntmps25;go_wp2_with (go_at_call 35;(with_reducible refine (Z4 _ _ _ _ _ h1).mono ?_);rintro e w'⟨rfl,rfl⟩);go_ret3
  unfold RetDraw;exact⟨none,0,rfl,Zq.nil _ _ _ _ AE,AL _ _⟩
 by_cases l:xs.length=0
 ·have c:X5 xs b=([],0,1):=by simp[X5,l]
  rw[c];have ak:((xs.length:Int)==0)=true:=by simp[l]
  clear c l;go_enter func25,ntmps25;go_wp2_with (go_at_call 35;(with_reducible refine (Z4 _ _ _ _ _ h1).mono ?_);rintro e w'⟨rfl,rfl⟩);go_ret3
  unfold RetDraw;exact⟨none,0,rfl,Zq.nil _ _ _ _ AE,AL _ _⟩
 have ak:((xs.length:Int)==0)=false:=by rw[AQ];omega
 by_cases I:1000<b.length
 ·have c:X5 xs b=([],0,5):=by simp[X5,q,l,I]
  rw[c];clear c;go_enter func25,ntmps25;go_wp2_with (go_at_call 35;(with_reducible refine (Z4 _ _ _ _ _ h1).mono ?_);rintro e w'⟨rfl,rfl⟩);go_ret3
  unfold RetDraw;exact⟨none,0,rfl,Zq.nil _ _ _ _ AE,AL _ _⟩
 by_cases k:B9 xs=0
 ·have c:X5 xs b=([],0,0):=by simp[X5,q,l,I,k]
  rw[c];have U:((B9 xs:Int)==0)=true:=by simp[k]
  clear c k;go_enter func25,ntmps25;go_wp2_with (first
   | (go_at_call 35;(with_reducible refine (Z4 _ _ _ _ _ h1).mono ?_);rintro e w'⟨rfl,rfl⟩)
   | (go_at_call 50;(with_reducible refine (Zqg _ _ _ _ _ h1 o).mono ?_);rintro e w1⟨rfl,z⟩))
  go_ret3
  unfold RetDraw;exact⟨none,0,rfl,Zq.nil _ _ _ _ AE,z⟩
 have U:((B9 xs:Int)==0)=false:=by rw[AQ];omega
 have c:X5 xs b=Zrr (val xs) (Zrs xs) (B9 xs) (b.length+1) 0 b:=by simp[X5,q,l,I,k]
 have V:=Zr5 xs o;have ag:=Zqf xs k;have ai:B9 xs<=32:=AA
 obtain⟨N,u⟩:∃N,Hid (B9 xs=N):=⟨_,LH rfl⟩;obtain⟨K,s⟩:∃K,Hid (Zrs xs=K):=⟨_,LH rfl⟩;rw[u.out,s.out] at c;rw[u.out] at U k ai;rw[s.out] at V;rw[u.out,s.out] at ag;have Y:=LH c;generalize X5 xs b=p at *;clear c;go_enter func25,ntmps25;go_wp2_with (first
  | (go_at_call 35;(with_reducible refine (Z4 _ _ _ _ _ h1).mono ?_);rintro e w'⟨rfl,rfl⟩)
  | (go_at_call 50;(with_reducible refine (Zqg _ _ _ _ _ h1 o).mono ?_);rintro e w1⟨rfl,z⟩;rw[u.out]))
 go_loopw [8] (RBelRel w b (val xs) K N p) (λi _=>b.length+1-(intOf i).toNat)
 case atStart=>exact⟨0,b.length+1,AS _,AA,rfl,z,LH (by rw[Ed];exact Y.out.symm)⟩
 clear z;obtain⟨a,f,ha,hf,rfl,hq,X⟩:=hrel;obtain⟨f,rfl⟩:∃g,f=g+1:=⟨f-1,AA⟩;have hd:=X.out;rw[Zrr,BT] at hd;by_cases af:a+N<=b.length
 ·rw[if_pos AA] at hd;obtain⟨b2,o2,y,rfl,ad,Hy,ae⟩:=(d.below hq).get (j:=a) AA;have H:=(d.below hq).part a N (c2-a) AA (by have:=d.cap;omega) (by have:=d.cap;omega);have aj:((b.drop a).take N).length=N:=by rw[BS,BT];omega
  have W:Lim ((b.drop a).take N):=(lw.drop a).take N;obtain⟨ps,Z⟩:∃ps,Hid ((b.drop a).take N=ps):=⟨_,LH rfl⟩;rw[Z.out] at hd H aj W;have ab:K<=1024:=V;have P:Hid (oneOf K ps=limbs (val ps % 2 ^ K)):=rfl;have T:=one_big K (val ps) ab;have v:=LH (one_cmp xs q _ T);rw[List.drop_drop] at hd;obtain⟨t,Ht⟩:∃t,Hid (val ps % 2 ^ K=t):=⟨_,LH rfl⟩;rw[Ht.out] at hd P v;obtain⟨x,D⟩:∃x,Hid (Vq (limbs t) xs=x):=⟨_,LH rfl⟩;rw[D.out] at v;have r:=v.out;rw[decide_eq_decide] at r;have M:=LH hd;have O:=LH (Z9 t);clear T v;clear ae ad;have e1:IntKind.i64.wrap ((a:Int)+(N:Int))=(a:Int)+(N:Int):=i64w AA AA;have j1:(0:Int)<=(a:Int):=AA
  have j2:(0:Int)<=(a:Int)+(N:Int):=AA
  have j3:(a:Int)<=(a:Int)+(N:Int):=AA
  have j4:(a:Int)+(N:Int)<=(c2:Int):=by have:=d.cap;omega
  have j5:((a:Int)+(N:Int)).toNat=a+N:=AA
  have j6:a+N-a=N:=AA
  go_wp2;go_region_with (first
   | (go_at_call 52;(with_reducible refine (Zqj _ _ _ _ _ (h1.below hq).drew o).mono ?_);rintro e w2⟨rfl,F⟩;rw[s.out])
   | (go_at_call 51;(with_reducible refine (ref2_try _ _ _ ps K _ (H.drew.below F) W AA AA AA AA).mono ?_);rintro e w3⟨A3,c3,rfl,C,S⟩;rw[P.out] at C ⊢))
  have G:Below w w w3:=hq.drew.trans ((Zz F S).mono hq.size);have R:=h1.below G;clear F S H;by_cases B:t<val xs
  ·have ah:x<0:=r.2 B;rw[if_pos B] at hd;clear r;have E:=LH hd;clear hd;go_wp2_with (go_at_call 36;(with_reducible refine (Le _ _ _ _ _ _ _ _ _ C R O.out o).mono ?_);rintro e w5⟨rfl,A⟩;rw[D.out]);go_ret3
   unfold RetDraw;rw[<-E.out];exact⟨_,_,rfl,C.same A,G.trans (A.below _)⟩
  have ah:0<=x:=by
   have:=mt r.1 B;omega
  rw[if_neg B] at hd;clear r;have E:=LH hd;clear hd;go_wp2_with (go_at_call 36;(with_reducible refine (Le _ _ _ _ _ _ _ _ _ C R O.out o).mono ?_);rintro e w5⟨rfl,A⟩;rw[D.out]);go_roundw
  case rel=>exact⟨a+N,f,af,AA,AF,G.trans (A.below _),LH E.out⟩
  simp[intOf];omega
 rw[if_neg AA] at hd;have M:=LH hd;clear hd;go_wp2;go_ret3
 unfold RetDraw;rw[<-M.out];exact⟨none,0,rfl,Zq.nil _ _ _ _ AE,hq⟩
theorem Zq0(h:GH)(G:Gr)(n:Int)(A:Option Addr)(m c:Nat)(b:List Nat)(w:World)(Z:Yf w h G)(h1:h.n1<=100)(h2:h.n2<=100)(h3:h.n3<=100)(hw:Zq .u32 w A m c b)(lw:Lim b):
 Calls prog 10 #[GV h G.start,.int .i64 n,.slice A m c] w (Zrm G n b w):=by
 obtain⟨a1,n1,c1,a2,n2,c2,a3,n3,c3⟩:=h;simp only[] at h1 h2 h3;have S:=LH Z;have HW:=LH hw;have HL:=LH lw;have V:=Zy w (.cells #[.slice a1 n1 c1,.slice a2 n2 c2,.slice a3 n3 c3,.int .i64 G.start] 26);have J:=Y1.new w 26 ⟨a1,n1,c1,a2,n2,c2,a3,n3,c3⟩ G.start;clear Z hw lw;go_enter func10,ntmps10;have⟨z5,z0,z1,z2,z3⟩:=J;simp only[] at z0 z1 z2 z3;go_upto_region 1 with fail;generalize w.alloc (.cells #[.slice a1 n1 c1,.slice a2 n2 c2,.slice a3 n3 c3,.int .i64 G.start] 26)=W0 at *;have O:=LH V;have ao:=LH J;clear V J;have q:=Lj ⟨a1,n1,c1,a2,n2,c2,a3,n3,c3⟩ G n W0 (S.out.below O.out) (by simp only[];omega) (by simp only[];omega) (by simp only[];omega);have L:=Kg G n;obtain⟨D,M⟩:∃D,Z2 G n=D:=⟨_,rfl⟩;obtain⟨j,g⟩:=D;rw[M] at q L;have q:=LH q;have a:=LH M;have R:=LH L;clear M L;go_upto_region 2 with (go_at_call 15;(with_reducible refine q.out.mono ?_);rintro e W3⟨A3,av,rfl,aa,F⟩);have s:=LH (Zz O.out F);have al:=LH aa;have v:=ao.out.below F;clear aa F q z0 z1 z2 z3 z5;by_cases d:g=0
 case neg =>
  have ad:((g:Int) != 0)=true:=by rw[BK];omega
  have f:Hid (L3 G n b [] 0 g):=LH (.inl ⟨by rw[a.out];exact d,rfl,rfl,by rw[a.out]⟩);clear d;go_wp2_with fail;go_ret3
  exact Zrm.no s.out f.out
 subst d;by_cases y:j=[]
 case pos =>
  subst y;have f:Hid (L3 G n b [] 0 9):=LH (.inr (.inl ⟨by rw[a.out],by rw[a.out],rfl,rfl,rfl⟩));go_wp2_with fail;go_ret3
  exact Zrm.no s.out f.out
 have a5:((j.length:Int)==0)=false:=by
  rw[AQ];have:j.length≠0:=λh=>y (List.length_eq_zero_iff.1 h);omega
 have U:=LH y;clear y;have l:=ref2_below A3 j.length av j A m c b W3 al.out (HW.out.below s.out) R.out.1 HL.out;unfold RetDraw at l;have x:Lim (X5 j b).1:=by
  rcases Zr0 j b R.out.1 with ⟨e,_,h⟩ | ⟨t,k,h,_⟩
  ·rw[h];exact Lim.nil
  rw[h];exact Z9 t
 obtain⟨C,I⟩:∃C,X5 j b=C:=⟨_,rfl⟩;obtain⟨xs,u,E⟩:=C;rw[I] at l x;simp only[] at l x;have l:=LH l;have r:=LH I;have ap:=LH x;clear I x;go_upto_region 7 with (go_at_call 25;(with_reducible refine l.out.mono ?_);rintro e W4⟨A4,c4,rfl,ab,H⟩);have B:=LH (Zz s.out H);have am:=LH ab;have v:=v.below H;clear ab H l;by_cases d:E=0
 case neg =>
  have ad:((E:Int) != 0)=true:=by rw[BK];omega
  have f:Hid (L3 G n b [] 0 E):=LH (.inr (.inr (.inl ⟨by rw[a.out],by rw[a.out];exact U.out,by rw[a.out];simp only[];rw[r.out];exact d,rfl,rfl,by rw[a.out];simp only[];rw[r.out]⟩)));clear d;go_wp2_with fail;go_ret3
  exact Zrm.no B.out f.out
 subst d;have⟨z5,z0,z1,z2,z3⟩:=v;simp only[] at z0 z1 z2 z3;have N:=LH (Zqi ⟨a1,n1,c1,a2,n2,c2,a3,n3,c3⟩ G n A4 c4 xs W4 (S.out.below B.out) (by simp only[];omega) (by simp only[];omega) (by simp only[];omega) am.out ap.out);go_upto_region 10 with (go_at_call 21;(with_reducible refine N.out.mono ?_);rintro e W5⟨Y,z,p,A5,c5,rfl,W,X⟩);have P:=LH (Zz B.out Y);have aj:=LH W;have T:Hid (∀k g o,((p≠0/\o=[]/\k=0/\g=p)\/(p=0/\o=z/\k=u/\g=0))->L3 G n b o k g):=LH λk g o hh =>
  .inr (.inr (.inr ⟨by rw[a.out],by rw[a.out];exact U.out,by rw[a.out];simp only[];rw[r.out],z,p,by rw[a.out];simp only[];rw[r.out];exact X,by rw[a.out];simp only[];rw[r.out];exact hh⟩))
 clear Y W X N v z0 z1 z2 z3 z5;by_cases d:p=0
 case neg =>
  have ad:((p:Int) != 0)=true:=by rw[BK];omega
  have f:Hid (L3 G n b [] 0 p):=LH (T.out _ _ _ (.inl ⟨d,rfl,rfl,rfl⟩));clear d;go_wp2_with fail;go_ret3
  exact Zrm.no P.out f.out
 subst d;have f:Hid (L3 G n b z u 0):=LH (T.out _ _ _ (.inr ⟨rfl,rfl,rfl,rfl⟩));go_wp2_with fail;go_ret3
 exact⟨P.out,z,u,0,A5,c5,rfl,aj.out,f.out⟩
