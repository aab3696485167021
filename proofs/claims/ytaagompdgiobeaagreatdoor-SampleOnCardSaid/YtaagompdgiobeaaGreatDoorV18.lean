/- A region that draws its order: quiet in a class of worlds but for its last operations, which stand in one order: one walk serves. -/
import Derived.Test.YtaagompdgiobeaaGreatDoorV11
import Derived.Test.YtaagompdgiobeaaGreatDoorV12
import Derived.Test.YtaagompdgiobeaaGreatDoorV13
set_option linter.all false
set_option maxHeartbeats 1500000
set_option maxRecDepth 100000
namespace Go.Proofs.YtaagompdgiobeaaGreatDoor
open Go.RowKit Go.Proofs.Tryz
variable{ops:Array Oper}{rest:List Oper}{Q:Exit->Act->World->Prop}
theorem rf_one_mark(A:Option Addr)(n c i:Nat)(xs:List Nat)(w:World)(h:Zq .u8 w A n c xs)(j:∀x∈xs,x<256)(z:n<=100000)(hi:i<n)(d:Xf (xs.getD i 0)=false)(o:xs.getD i 0≠39)(q:Bz xs i [37,37]=false)(r:xs.getD i 0≠37)(f:L0 (xs.getD i 0)≠0):
 Calls prog 130 #[.slice A n c,.int .i64 (i:Int)] w λe w'=>e = .returned (.tuple #[TokV (L0 (xs.getD i 0)) [] (atP xs i),.int .i64 ((i+1:Nat):Int),.int .i64 0])/\Below w w w':=by
 obtain rfl:=h.len;have R:=h.cap;obtain⟨b,D,x,rfl,N,Hx,O⟩:=h.get hi;have B:xs.getD i 0=x:=by rw[AP,Hx];rfl
 rw[B] at d o r f ⊢;have H:=LH h;have CT:=LH λW (g:Below w w W)=>B0 (some ⟨b,D,none⟩) xs.length c xs (i:Int) W (h.below g) z;have CH:=LH λW (g:Below w w W)=>(F3 (some ⟨b,D,none⟩) xs.length c i xs [37,37] W (h.below g) j AC z AA AC);rw[q,show str [37,37]=⟨#[37,37]⟩ from rfl] at CH;have I:x<256:=j x (AN Hx);have l:=LH λW=>K6 x W I;rw[d] at l;have E:=LH λW=>rf_mark7 x W;obtain⟨F,G,t⟩:∃a b,atP xs (i:Int) = .complex .f64 a b:=by
  unfold atP PV;split
  ·exact⟨_,_,rfl⟩
  exact⟨_,_,rfl⟩
 rw[t] at CT ⊢;have J:((x:Int)==39)=false:=by rw[AQ];omega
 have L:((x:Int)==37)=false:=by rw[AQ];omega
 have M:(L0 x==0)=false:=by rw[AQ];exact f
 generalize L0 x=mk at *;clear h j d o q r f B t;have s:=Zy w (.cells #[.int .i64 0,.string ⟨#[]⟩,.complex .f64 0 0] 181);have S:∀(w:World) (a:Addr) (k:FloatKind) (x y:Nat) (m:Mode),(store a (.complex k x y) m).run prog w=stored prog w a (.complex k x y) m:=λw a k x y m=>run_store prog w a _ m rfl;go_enter func130,ntmps130;go_wp2_with (first
  | (go_at_call 129;refine (CT.out _ s).mono ?_;rintro e T⟨rfl,rfl⟩)
  | (go_at_call 170;refine (l.out _).mono ?_;rintro e U⟨rfl,rfl⟩)
  | (go_at_call 176;refine (CH.out _ (Zo s _)).mono ?_;rintro e V⟨rfl,rfl⟩)
  | (go_at_call 183;refine (E.out _).mono ?_;rintro e X⟨rfl,rfl⟩))
 refine AW (Yu (p:=4) (u:=5) (v:=6) AB _ _ w 181 #[.int .i64 mk,.string ⟨#[]⟩,.complex .f64 F G] (0,0) _ rfl (Blk.ext (Blk.new w _ _) (Zy _ _)) underlying181 rfl AB) rfl ?_;exact⟨rfl,Zo (Zy _ _) _⟩
theorem rf_one_cut(A:Option Addr)(n c i:Nat)(xs:List Nat)(w:World)(h:Zq .u8 w A n c xs)(g:∀x∈xs,x<256)(s:n<=100000)(hi:i<n)(d:Xf (xs.getD i 0)=false)(l:xs.getD i 0≠39)(o:Bz xs i [37,37]=true):
 Calls prog 130 #[.slice A n c,.int .i64 (i:Int)] w λe w'=>e = .returned (.tuple #[TokV 9 [] (atP xs i),.int .i64 ((i+2:Nat):Int),.int .i64 0])/\Below w w w':=by
 obtain rfl:=h.len;have J:=h.cap;obtain⟨b,z,x,rfl,G,Hx,I⟩:=h.get hi;have t:xs.getD i 0=x:=by rw[AP,Hx];rfl
 rw[t] at d l;have H:=LH h;have CT:=LH λW (f:Below w w W)=>B0 (some ⟨b,z,none⟩) xs.length c xs (i:Int) W (h.below f) s;have CH:=LH λW (f:Below w w W)=>(F3 (some ⟨b,z,none⟩) xs.length c i xs [37,37] W (h.below f) g AC s AA AC);rw[o,show str [37,37]=⟨#[37,37]⟩ from rfl] at CH;have E:x<256:=g x (AN Hx);have j:=LH λW=>K6 x W E;rw[d] at j;obtain⟨B,D,r⟩:∃a b,atP xs (i:Int) = .complex .f64 a b:=by
  unfold atP PV;split
  ·exact⟨_,_,rfl⟩
  exact⟨_,_,rfl⟩
 rw[r] at CT ⊢;have F:((x:Int)==39)=false:=by rw[AQ];omega
 clear h g d l o t r;have q:=Zy w (.cells #[.int .i64 0,.string ⟨#[]⟩,.complex .f64 0 0] 181);have L:∀(w:World) (a:Addr) (k:FloatKind) (x y:Nat) (m:Mode),(store a (.complex k x y) m).run prog w=stored prog w a (.complex k x y) m:=λw a k x y m=>run_store prog w a _ m rfl;go_enter func130,ntmps130;go_wp2_with (first
  | (go_at_call 129;refine (CT.out _ q).mono ?_;rintro e M⟨rfl,rfl⟩)
  | (go_at_call 170;refine (j.out _).mono ?_;rintro e N⟨rfl,rfl⟩)
  | (go_at_call 176;refine (CH.out _ (Zo q _)).mono ?_;rintro e O⟨rfl,rfl⟩))
 refine AW (Yu (p:=4) (u:=5) (v:=6) AB _ _ w 181 #[.int .i64 9,.string ⟨#[]⟩,.complex .f64 B D] (0,0) _ rfl (Blk.ext (Blk.new w _ _) (Zy _ _)) underlying181 rfl AB) rfl ?_;exact⟨rfl,Zo (Zy _ _) _⟩
theorem rf_one_name(A:Option Addr)(n c i f:Nat)(xs:List Nat)(w:World)(h:Zq .u8 w A n c xs)(I:∀x∈xs,x<256)(hn:n<=100000)(hi:i<n)(G:Xf (xs.getD i 0)=true)(ao:i<f)(ap:f<=n)(aq:f<=i+20)(S:∀k,i<k->k<f->Wa (xs.getD k 0)=true)(T:f<n->Wa (xs.getD f 0)=false):
 Calls prog 130 #[.slice A n c,.int .i64 (i:Int)] w λe w'=>e = .returned (.tuple #[TokV 1 ((xs.drop i).take (f-i)) (atP xs i),.int .i64 (f:Int),.int .i64 0])/\Below w w w':=by
 obtain rfl:=h.len;have an:=h.cap;obtain⟨b,E,x,rfl,al,Hx,hc⟩:=h.get hi;have U:xs.getD i 0=x:=by rw[AP,Hx];rfl
 rw[U] at G;have H:=LH h;have CT:=LH λW (z:Below w w W)=>B0 (some ⟨b,E,none⟩) xs.length c xs (i:Int) W (h.below z) hn;have aj:x<256:=I x (AN Hx);have N:=LH λW=>K6 x W aj;rw[G] at N;obtain⟨o,q,R⟩:∃a b,atP xs (i:Int) = .complex .f64 a b:=by
  unfold atP PV;split
  ·exact⟨_,_,rfl⟩
  exact⟨_,_,rfl⟩
 rw[R] at CT ⊢;have O:=LH I;have X:=LH S;have Y:=LH T;clear h I G U R S T;have r:=Zy w (.cells #[.int .i64 0,.string ⟨#[]⟩,.complex .f64 0 0] 181);have au:∀(w:World) (a:Addr) (k:FloatKind) (x y:Nat) (m:Mode),(store a (.complex k x y) m).run prog w=stored prog w a (.complex k x y) m:=λw a k x y m=>run_store prog w a _ m rfl;go_enter func130,ntmps130;go_wp2_with (first
  | (go_at_call 129;refine (CT.out _ r).mono ?_;rintro e w2⟨rfl,rfl⟩)
  | (go_at_call 170;refine (N.out _).mono ?_;rintro e V⟨rfl,rfl⟩))
 go_loop [9] (λv=>∃(k:Nat),i<k/\k<=f/\v = .int .i64 (k:Int)) (λv=>xs.length-(intOf v).toNat)
 case atStart=>exact⟨i+1,AA,AA,AF⟩
 obtain⟨k,ab,ar,rfl⟩:=hrel;by_cases ad:k<f
 ·obtain⟨Z,ak,y,g,_,t,aa⟩:=H.get (j:=k) AA;injection g with g;injection g with g e3;subst g e3;have D:xs.getD k 0=y:=by rw[AP,t];rfl
  have d:=X k ab ad;rw[D] at d;have s:=LH λW=>Zy7 y W (O y (AN t));rw[d] at s;have J:k<xs.length:=AA
  clear d D;go_wp2_with (go_at_call 171;refine (s.out _).mono ?_;rintro e V⟨rfl,rfl⟩);go_round
  case rel=>exact⟨k+1,AA,AA,AF⟩
  simp[intOf];omega
 obtain rfl:k=f:=AA
 by_cases J:k<xs.length
 ·obtain⟨Z,ak,y,g,_,t,aa⟩:=H.get (j:=k) J;injection g with g;injection g with g e3;subst g e3;have D:xs.getD k 0=y:=by rw[AP,t];rfl
  have d:=Y J;rw[D] at d;have s:=LH λW=>Zy7 y W (O y (AN t));rw[d] at s;clear d D;go_wp2_with (go_at_call 171;refine (s.out _).mono ?_;rintro e V⟨rfl,rfl⟩);have l:∀W,Below w w W->(convert 57 9 (.slice (some ⟨b,E+i,none⟩) (k-i) (c-i))).run prog W = .ok (.string (str ((xs.drop i).take (k-i)))) W:=λW z=>by
   have L:=(H.below z).part i (k-i) (c-i) AA AA AA;have d:((xs.drop i).take (k-i)).length=k-i:=by rw[BS,BT];omega
   have:=Ux (P:=prog) W 57 5 9 underlying57 underlying5 underlying9 (some ⟨b,E+i,none⟩) (c-i) _ (by rw[d];exact L);rwa [d] at this
  have af:=l _ (Zo r (.cells #[.int .i64 0,.string ⟨#[]⟩,.complex .f64 o q] 181));have ag:=l _ (Zo r (.cells #[.int .i64 0,.string ⟨#[]⟩,.complex .f64 o q] 181)).drew;have ah:=l _ (Zo r (.cells #[.int .i64 1,.string ⟨#[]⟩,.complex .f64 o q] 181));have ai:=l _ (Zo r (.cells #[.int .i64 1,.string ⟨#[]⟩,.complex .f64 o q] 181)).drew;generalize B:str ((xs.drop i).take (k-i))=M at *;have F:=LH B;clear l B;go_region_with (fail)
  all_goals
   go_wp2_with fail;refine AW (Yu (p:=4) (u:=5) (v:=6) AB _ _ w 181 #[.int .i64 1,.string M,.complex .f64 o q] (0,0) _ rfl (Blk.drew (Blk.ext (Blk.new w _ _) (Zy _ _))) underlying181 rfl AB) rfl ?_;exact⟨by unfold TokV;rw[F];rfl,(Zo (Zy _ _) _).drew⟩
 go_wp2_with fail;have l:∀W,Below w w W->(convert 57 9 (.slice (some ⟨b,E+i,none⟩) (k-i) (c-i))).run prog W = .ok (.string (str ((xs.drop i).take (k-i)))) W:=λW z=>by
  have L:=(H.below z).part i (k-i) (c-i) AA AA AA;have d:((xs.drop i).take (k-i)).length=k-i:=by rw[BS,BT];omega
  have:=Ux (P:=prog) W 57 5 9 underlying57 underlying5 underlying9 (some ⟨b,E+i,none⟩) (c-i) _ (by rw[d];exact L);rwa [d] at this
 have af:=l _ (Zo r (.cells #[.int .i64 0,.string ⟨#[]⟩,.complex .f64 o q] 181));have ag:=l _ (Zo r (.cells #[.int .i64 0,.string ⟨#[]⟩,.complex .f64 o q] 181)).drew;have ah:=l _ (Zo r (.cells #[.int .i64 1,.string ⟨#[]⟩,.complex .f64 o q] 181));have ai:=l _ (Zo r (.cells #[.int .i64 1,.string ⟨#[]⟩,.complex .f64 o q] 181)).drew;generalize B:str ((xs.drop i).take (k-i))=M at *;have F:=LH B;clear l B;go_region_with (fail)
 all_goals
  go_wp2_with fail;refine AW (Yu (p:=4) (u:=5) (v:=6) AB _ _ w 181 #[.int .i64 1,.string M,.complex .f64 o q] (0,0) _ rfl (Blk.drew (Blk.ext (Blk.new w _ _) (Zy _ _))) underlying181 rfl AB) rfl ?_;exact⟨by unfold TokV;rw[F];rfl,(Zo (Zy _ _) _).drew⟩
theorem rf_one_lit(A:Option Addr)(n c i:Nat)(xs:List Nat)(w:World)(h:Zq .u8 w A n c xs)(q:∀x∈xs,x<256)(N:n<=100000)(hi:i+3<=n)(z:xs.getD i 0=39)(B:H5 ((xs.drop i).take 3)=true):
 Calls prog 130 #[.slice A n c,.int .i64 (i:Int)] w λe w'=>e = .returned (.tuple #[TokV 2 ((xs.drop i).take 3) (atP xs i),.int .i64 ((i+3:Nat):Int),.int .i64 0])/\Below w w w':=by
 obtain rfl:=h.len;have Y:=h.cap;obtain⟨b,r,x,rfl,V,Hx,X⟩:=h.get (j:=i) AA;have I:xs.getD i 0=x:=by rw[AP,Hx];rfl
 obtain rfl:39=x:=by rw[<-I,z]
 have t:Xf 39=false:=AC
 have H:=LH h;have CT:=LH λW (o:Below w w W)=>B0 (some ⟨b,r,none⟩) xs.length c xs (i:Int) W (h.below o) N;have J:Hid (∀W,Calls prog 170 #[.int .u8 39] W λe w'=>e = .returned (.bool false)/\W=w'):=LH λW=>by
  have:=K6 39 W AC;rwa [t] at this
 obtain⟨d,f,D⟩:∃a b,atP xs (i:Int) = .complex .f64 a b:=by
  unfold atP PV;split
  ·exact⟨_,_,rfl⟩
  exact⟨_,_,rfl⟩
 rw[D] at CT ⊢;have U:=LH q;have E:∀y∈(xs.drop i).take 3,y<256:=λy R=>q y (List.mem_of_mem_drop (List.mem_of_mem_take R));have s:∀W,Calls prog 169 #[.string (str ((xs.drop i).take 3))] W λe w'=>e = .returned (.bool true)/\W=w':=λW=>by
  have:=Gb (str ((xs.drop i).take 3)) W;rwa [Vd _ E,B] at this
 have L:=LH s;clear h q t z B I D E s;have g:=Zy w (.cells #[.int .i64 0,.string ⟨#[]⟩,.complex .f64 0 0] 181);have ae:∀(w:World) (a:Addr) (k:FloatKind) (x y:Nat) (m:Mode),(store a (.complex k x y) m).run prog w=stored prog w a (.complex k x y) m:=λw a k x y m=>run_store prog w a _ m rfl;go_enter func130,ntmps130;go_wp2_with (first
  | (go_at_call 129;refine (CT.out _ g).mono ?_;rintro e w2⟨rfl,rfl⟩)
  | (go_at_call 170;refine (J.out _).mono ?_;rintro e T⟨rfl,rfl⟩))
 have l:∀W,Below w w W->(convert 57 9 (.slice (some ⟨b,r+i,none⟩) 3 (c-i))).run prog W = .ok (.string (str ((xs.drop i).take 3))) W:=λW o=>by
  have O:=(H.below o).part i 3 (c-i) AA AA AA;have F:((xs.drop i).take 3).length=3:=by rw[BS,BT];omega
  have:=Ux (P:=prog) W 57 5 9 underlying57 underlying5 underlying9 (some ⟨b,r+i,none⟩) (c-i) _ (by rw[F];exact O);rwa [F] at this
 have Z:=l _ (Zo g (.cells #[.int .i64 0,.string ⟨#[]⟩,.complex .f64 d f] 181));have aa:=l _ (Zo g (.cells #[.int .i64 0,.string ⟨#[]⟩,.complex .f64 d f] 181)).drew;have ab:=l _ (Zo g (.cells #[.int .i64 2,.string ⟨#[]⟩,.complex .f64 d f] 181));have ad:=l _ (Zo g (.cells #[.int .i64 2,.string ⟨#[]⟩,.complex .f64 d f] 181)).drew;generalize G:str ((xs.drop i).take 3)=S at *;have M:=LH G;have s2:IntKind.i64.wrap ((i:Int)+3)=(i:Int)+3:=Cc _ AA;have s3:(i:Int)+3<=(xs.length:Int):=AA
 have s4:((i:Int)+3).toNat=i+3:=AA
 have s5:(0:Int)<=(i:Int)+3:=AA
 have s6:(i:Int)<=(i:Int)+3:=AA
 have s7:i+3-i=3:=AA
 have s8:(i:Int)+3<=(c:Int):=AA
 clear l G;go_loop [10] (λv=>v = .int .i64 3) (λ_=>0)
 case atStart=>rfl
 subst hrel;go_wp2_with (go_at_call 169;refine (L.out _).mono ?_;rintro e T⟨rfl,rfl⟩);go_region_with (fail)
 all_goals
  go_wp2_with fail;refine AW (Yu (p:=4) (u:=5) (v:=6) AB _ _ w 181 #[.int .i64 2,.string S,.complex .f64 d f] (0,0) _ rfl (Blk.drew (Blk.ext (Blk.new w _ _) (Zy _ _))) underlying181 rfl AB) rfl ?_;exact⟨by unfold TokV;rw[M];rfl,(Zo (Zy _ _) _).drew⟩
theorem rf_one(A:Option Addr)(n c i:Nat)(xs:List Nat)(w:World)(h:Zq .u8 w A n c xs)(f:∀x∈xs,x<256)(g:n<=100000)(hi:i<n)(t:Af)(j:Nat)(a:oneP xs i=some (t,j)):
 Calls prog 130 #[.slice A n c,.int .i64 (i:Int)] w λe w'=>e = .returned (.tuple #[TokV t.kind t.text (atP xs i),.int .i64 (j:Int),.int .i64 0])/\Below w w w':=by
 have v:=h.len;unfold oneP at a;by_cases h1:Xf (xs.getD i 0)=true
 ·rw[if_pos h1] at a;split at a
  ·rename_i q;simp only[BX,DN] at a;obtain⟨rfl,rfl⟩:=a;have:=Zu3 Wa (xs.drop (i+1));rw[BT] at this;refine rf_one_name A n c i (Kk xs i) xs w h f g hi h1 (by unfold Kk;omega) (by unfold Kk;omega) q (λk u r=>?_) (λs=>?_)
   ·have:=tw_in Wa (xs.drop (i+1)) (k-(i+1)) (by unfold Kk at r;omega);rw[F0,show i+1+(k-(i+1))=k by omega] at this;exact this
   have:=tw_out Wa (xs.drop (i+1)) (by rw[BT];unfold Kk at s;omega);rw[F0] at this;exact this
  cases a
 rw[if_neg h1] at a;have l:Xf (xs.getD i 0)=false:=by simpa using h1
 by_cases b:xs.getD i 0=39
 ·rw[if_pos b] at a;split at a
  ·rename_i m;simp only[AU,decide_eq_true_eq] at m;simp only[BX,DN] at a;obtain⟨rfl,rfl⟩:=a;exact rf_one_lit A n c i xs w h f g AA b m.1
  cases a
 rw[if_neg b] at a;by_cases d:Bz xs i [37,37]=true
 ·rw[if_pos d] at a;simp only[BX,DN] at a;obtain⟨rfl,rfl⟩:=a;exact rf_one_cut A n c i xs w h f g hi l b d
 rw[if_neg d] at a;split at a
 ·cases a
 rename_i o;split at a
 ·cases a
 rename_i p;simp only[BX,DN] at a;obtain⟨rfl,rfl⟩:=a;exact rf_one_mark A n c i xs w h f g hi l b (by simpa using d) o p
theorem Zvq(h:GH)(G:Gr)(w:World)(n:Yf w h G)(h1:h.n1<=100)(h2:h.n2<=100)(h3:h.n3<=100):
 Calls prog 127 #[GV h G.start] w λe w'=>Below w w w'/\e = .returned (.int .u32 ((Gy G:Nat):Int)):=by
 obtain⟨a1,n1,c1,a2,n2,c2,a3,n3,c3⟩:=h;have r:G.nons.length=n2:=n.nons.len;have k2:=n.nons.cap;simp only[] at h1 h2 h3 k2;have S:=LH n;have t:=Zy w (.cells #[.slice a1 n1 c1,.slice a2 n2 c2,.slice a3 n3 c3,.int .i64 G.start] 26);have F:=Y1.new w 26 ⟨a1,n1,c1,a2,n2,c2,a3,n3,c3⟩ G.start;clear n;go_enter func127,ntmps127;have⟨y5,y0,y1,y2,y3⟩:=F;simp only[] at y0 y1 y2 y3;go_upto_region 1 with fail;generalize w.alloc (.cells #[.slice a1 n1 c1,.slice a2 n2 c2,.slice a3 n3 c3,.int .i64 G.start] 26)=a at *;have y:=LH t;have m:=LH (S.out.below t);clear t F;rcases g:G.right with _ | _
 ·have k:=LH g;have l:=LH λx:Ext a=>(Qt ⟨a1,n1,c1,a2,n2,c2,a3,n3,c3⟩ G (bl a x) (m.out.below (Zr a x)) (by simp only[];omega) (by simp only[];omega) (by simp only[];omega)).mono λe w' c=>And.intro (c.2.resolve_right λf=>by rw[k.out] at f;cases f.1).2 c.1;have L:=LH λx:Ext a=>(Lw ⟨a1,n1,c1,a2,n2,c2,a3,n3,c3⟩ G (bl a x) (m.out.below (Zr a x)) (by simp only[];omega) (by simp only[];omega) (by simp only[];omega)).mono λe w' c=>And.intro (c.2.resolve_right λf=>by rw[k.out] at f;cases f.1).2 c.1;have o:Hid (Gy G=0):=LH (by unfold Gy;rw[g];rfl);have Y:=Yt a;clear g;refine Zs AB AB ?_;repeat (go_big_quiet_step (first
   | (go_at_call 56;with_reducible exact Ve (l.out _))
   | (go_at_call 57;with_reducible exact Ve (L.out _))))
  refine BL ?_;rintro _⟨x,rfl⟩;have N:=LH (Zz y.out (Zr a x));generalize bl a x=W2 at *;clear y0 y1 y2 y3 y5 Y;go_wp2_with fail;go_loop [5,6] (λs i=>s = .int .u32 0/\i = .int .i64 0) (λs i=>0)
  case atStart=>exact⟨rfl,rfl⟩
  obtain⟨rfl,rfl⟩:=hrel;go_wp2_with fail;go_ret;exact⟨N.out,by rw[o.out];rfl⟩
 have af:=Gr.fits g;have k:=LH g;have o:Hid (Gy G=Qm G):=LH (by unfold Gy;rw[g];rfl);have v:=LH λX (d:Below a a X)=>(Qt ⟨a1,n1,c1,a2,n2,c2,a3,n3,c3⟩ G X (m.out.below d) (by simp only[];omega) (by simp only[];omega) (by simp only[];omega)).mono λe w' c=>And.intro (Zz d c.1) (And.intro (LH c.1) (c.2.resolve_left λf=>by rw[k.out] at f;cases f.1).2);have l:=LH λX (d:Below a a X)=>(Lw ⟨a1,n1,c1,a2,n2,c2,a3,n3,c3⟩ G X (m.out.below d) (by simp only[];omega) (by simp only[];omega) (by simp only[];omega)).mono λe w' c=>And.intro (Zz d c.1) (And.intro (LH c.1) (c.2.resolve_left λf=>by rw[k.out] at f;cases f.1).2);have z:Hid (∀b,Below a a b->b.cell? ⟨w,0,none⟩=some (.slice a1 n1 c1)/\b.cell? ⟨w,1,none⟩=some (.slice a2 n2 c2)/\b.cell? ⟨w,2,none⟩=some (.slice a3 n3 c3)/\b.cell? ⟨w,3,none⟩=some (.int .i64 G.start)/\Below a a b):=LH λb d=>⟨by rw[d.cell (by exact y5)];exact y0,by rw[d.cell (by exact y5)];exact y1,by rw[d.cell (by exact y5)];exact y2,by rw[d.cell (by exact y5)];exact y3,d⟩;clear g af;go_region_held3 (λb=>b.cell? ⟨w,0,none⟩=some (.slice a1 n1 c1)/\b.cell? ⟨w,1,none⟩=some (.slice a2 n2 c2)/\b.cell? ⟨w,2,none⟩=some (.slice a3 n3 c3)/\b.cell? ⟨w,3,none⟩=some (.int .i64 G.start)/\Below a a b)
  ((refine z.out _ ?_;(repeat (first | assumption | exact AL _ _ | refine Below.drew ?_ | refine Zo ?_ _ | refine Zg ?_ _ _ _ (by (first | exact AJ _ | exact DP _ | exact Below.size AH | exact Nat.le_succ_of_le (Below.size AH) | (simp;done) | omega))));done))
  (first
    | (go_at_call 56;refine (v.out _ (by (repeat (first | assumption | exact AL _ _ | refine Below.drew ?_ | refine Zo ?_ _ | refine Zg ?_ _ _ _ (by (first | exact AJ _ | exact DP _ | exact Below.size AH | exact Nat.le_succ_of_le (Below.size AH) | (simp;done) | omega)))))).mono ?_;rintro e w2⟨ae,R,Z,ag,rfl,A⟩)
    | (go_at_call 57;refine (l.out _ (by (repeat (first | assumption | exact AL _ _ | refine Below.drew ?_ | refine Zo ?_ _ | refine Zg ?_ _ _ _ (by (first | exact AJ _ | exact DP _ | exact Below.size AH | exact Nat.le_succ_of_le (Below.size AH) | (simp;done) | omega)))))).mono ?_;rintro e u⟨E,C,gP,ah,rfl,B⟩))
 have O:Hid (Z8 u Z (Zt G)):=Blk.hidden A C;have P:Hid (Z8 u gP (Z5 G)):=B;have M:=LH (Zz y.out E);have W:Hid (Qm G=Jb (λi=>(Zt G).getD i false&&(Z5 G).getD i false) n2):=LH (by unfold Qm;rw[r]);have T:Hid ((Zt G).length=n2):=LH (by rw[Vx];exact r);have U:Hid ((Z5 G).length=n2):=LH (by rw[K9];exact r);clear ae R ag A C ah B E v l z y0 y1 y2 y3 y5;go_wp2_with fail;go_loop [5,6] (λs i=>∃j:Nat,j<=n2/\i = .int .i64 (j:Int)/\s = .int .u32 ((Jb (λi=>(Zt G).getD i false&&(Z5 G).getD i false) j:Nat):Int)) (λs i=>n2-(intOf i).toNat)
 case atStart=>exact⟨0,AS _,rfl,rfl⟩
 obtain⟨j,hj,rfl,rfl⟩:=hrel;by_cases H:j<n2
 case neg =>
  obtain rfl:j=n2:=AA
  go_wp2_with fail;go_ret;exact⟨M.out,by rw[o.out,W.out];rfl⟩
 have am:=O.out.at (i:=j) (by rw[T.out];exact H);have an:=P.out.at (i:=j) (by rw[U.out];exact H);have I:=Mp (λi=>(Zt G).getD i false&&(Z5 G).getD i false) j;have ai:=Jg (λi=>(Zt G).getD i false&&(Z5 G).getD i false) j;have ap:=or32 (Jb (λi=>(Zt G).getD i false&&(Z5 G).getD i false) j) (Y6 (j:Int)) ai (Ua _);have D:=Ch (j:Int) u;generalize Jb (λi=>(Zt G).getD i false&&(Z5 G).getD i false) j=s0 at *;generalize (Zt G).getD j false=p at *;generalize (Z5 G).getD j false=q at *;generalize Y6 (j:Int)=bj at *;have V:=LH I;have J:=LH D;clear I D;cases p <;> cases q;all_goals
  go_wp2_with (go_at_call 121;(with_reducible refine J.out.mono ?_);rintro e w'⟨rfl,rfl⟩);go_round
  case rel=>exact⟨j+1,AA,AF,by rw[V.out];rfl⟩
  simp[intOf];omega
theorem rf_Endless(h:GH)(G:Gr)(w:World)(l:Yf w h G)(h1:h.n1<=100)(c:h.n2<=100)(d:h.n3<=100):
 Calls prog 126 #[GV h G.start] w λe w'=>Below w w w'/\e = .returned (.bool (endG G)):=by
 obtain⟨a1,n1,c1,a2,n2,c2,a3,n3,c3⟩:=h;have r:=LH l;have f:=Zy w (.cells #[.slice a1 n1 c1,.slice a2 n2 c2,.slice a3 n3 c3,.int .i64 G.start] 26);have j:=Y1.new w 26 ⟨a1,n1,c1,a2,n2,c2,a3,n3,c3⟩ G.start;clear l;go_enter func126,ntmps126;have⟨y5,y0,y1,y2,y3⟩:=j;simp only[] at y0 y1 y2 y3;go_upto_region 1 with fail;generalize w.alloc (.cells #[.slice a1 n1 c1,.slice a2 n2 c2,.slice a3 n3 c3,.int .i64 G.start] 26)=a at *;have o:=LH f;have g:=LH (r.out.below f);clear f j;have m:=LH λx:Ext a=>(Zvc ⟨a1,n1,c1,a2,n2,c2,a3,n3,c3⟩ G (bl a x) (g.out.below (Zr a x)) h1 c d).mono λe w' b=>And.intro b.2 b.1;have n:=LH λx:Ext a=>(Zvq ⟨a1,n1,c1,a2,n2,c2,a3,n3,c3⟩ G (bl a x) (g.out.below (Zr a x)) h1 c d).mono λe w' b=>And.intro b.2 b.1;have u:=and32 (Vh G) (Gy G) (Ztq G) (useG_lt G);have k:endG G=((((Vh G &&& Gy G:Nat):Int)) != 0):=by rw[bne_cast];rfl
 have q:=LH k;generalize Vh G &&& Gy G=z at *;generalize Vh G=v at *;generalize Gy G=y at *;have t:=Yt a;clear h1 c d k;refine Zs AB AB ?_;repeat (go_big_quiet_step (first
  | (go_at_call 61;with_reducible exact Ve (m.out _))
  | (go_at_call 127;with_reducible exact Ve (n.out _))))
 refine BL ?_;rintro _⟨x,rfl⟩;have p:=LH (Zz o.out (Zr a x));generalize bl a x=s at *;go_wp2_with fail;go_ret;exact⟨p.out,by rw[q.out];rfl⟩
theorem rf_Order(h:GH)(G:Gr)(w:World)(r:Yf w h G)(h1:h.n1<=100)(h2:h.n2<=100)(h3:h.n3<=100):
 Calls prog 66 #[GV h G.start] w (Mx G w):=by
 obtain⟨a1,n1,c1,a2,n2,c2,a3,n3,c3⟩:=h;have e2:G.nons.length=n2:=r.nons.len;have k2:=r.nons.cap;simp only[] at h1 h2 h3 k2;have B:=LH r;have V:=Zy w (.cells #[.slice a1 n1 c1,.slice a2 n2 c2,.slice a3 n3 c3,.int .i64 G.start] 26);have aa:=Y1.new w 26 ⟨a1,n1,c1,a2,n2,c2,a3,n3,c3⟩ G.start;clear r;go_enter func66,ntmps66;have⟨z5,z0,z1,z2,z3⟩:=aa;simp only[] at z0 z1 z2 z3;go_wp2_with fail;generalize w.alloc (.cells #[.slice a1 n1 c1,.slice a2 n2 c2,.slice a3 n3 c3,.int .i64 G.start] 26)=W0 at *;(with_reducible refine (Jr ⟨a1,n1,c1,a2,n2,c2,a3,n3,c3⟩ G W0 (B.out.below V) (by simp only[];omega) (by simp only[];omega) (by simp only[];omega)).mono ?_);rintro e Wr⟨rfl,k⟩;have F:=Zz V k;have ad:=aa.below k;clear z0 z1 z2 z3 z5 aa;have⟨y5,y0,y1,y2,y3⟩:=ad;simp only[] at y0 y1 y2 y3;rcases I:G.right with _ | _
 ·go_wp2_with fail;go_ret2;exact Mx.fail (by unfold N5;rw[I];rfl) F
 have au:=LH I;have bm:=LH F;have cE:=rf_Endless ⟨a1,n1,c1,a2,n2,c2,a3,n3,c3⟩ G Wr (B.out.below F) (by simp only[];omega) (by simp only[];omega) (by simp only[];omega);have aq:Hid (N5 G=if endG G then ([],10) else ((Y4 (Yz G) (Qm G) G.nons.length G.nons.length).1,0)):=LH (by unfold N5;rw[I];rfl);have CE:=LH cE;clear I V k F cE;go_wp2_with fail;(with_reducible refine CE.out.mono ?_);rintro e d⟨k,rfl⟩;have y:=LH (Zz bm.out k);have ae:=ad.below k;clear k ad y0 y1 y2 y3 y5 CE;have⟨y5,y0,y1,y2,y3⟩:=ae;simp only[] at y0 y1 y2 y3;rcases H:endG G with _ | _
 case true =>
  have N:Hid (N5 G=([],10)):=LH (by rw[aq.out,H];rfl);clear H;go_wp2_with fail;go_ret2;exact Mx.fail N.out y.out
 have N:Hid (N5 G=((Y4 (Yz G) (Qm G) n2 n2).1,0)):=LH (by rw[aq.out,H,e2];rfl);have hu:Gy G=Qm G:=by unfold Gy;rw[au.out];rfl
 have CN:=LH λX (c:Below d d X)=>(Zss ⟨a1,n1,c1,a2,n2,c2,a3,n3,c3⟩ G X ((B.out.below y.out).below c) (by simp only[];omega) (by simp only[];omega) (by simp only[];omega)).mono λe w' m=>And.intro (Zz c m.1) (And.intro (LH m.1) (m.2.resolve_left λhc=>by rw[au.out] at hc;cases hc.1).2);have M:=LH λX (c:Below d d X)=>(Zvq ⟨a1,n1,c1,a2,n2,c2,a3,n3,c3⟩ G X ((B.out.below y.out).below c) (by simp only[];omega) (by simp only[];omega) (by simp only[];omega)).mono λe w' m=>And.intro (Zz c m.1) (And.intro (LH m.1) m.2);rw[hu] at M;have HS:Hid (∀a,Below d d a->a.cell? ⟨w,0,none⟩=some (.slice a1 n1 c1)/\a.cell? ⟨w,1,none⟩=some (.slice a2 n2 c2)/\a.cell? ⟨w,2,none⟩=some (.slice a3 n3 c3)/\a.cell? ⟨w,3,none⟩=some (.int .i64 G.start)/\Below d d a):=LH λa c=>⟨by rw[c.cell (by exact y5)];exact y0,by rw[c.cell (by exact y5)];exact y1,by rw[c.cell (by exact y5)];exact y2,by rw[c.cell (by exact y5)];exact y3,c⟩;clear H hu;go_upto_region 5 with fail;go_region_held3 (λa=>a.cell? ⟨w,0,none⟩=some (.slice a1 n1 c1)/\a.cell? ⟨w,1,none⟩=some (.slice a2 n2 c2)/\a.cell? ⟨w,2,none⟩=some (.slice a3 n3 c3)/\a.cell? ⟨w,3,none⟩=some (.int .i64 G.start)/\Below d d a)
  ((refine HS.out _ ?_;(repeat (first | assumption | exact AL _ _ | refine Below.drew ?_ | refine Zo ?_ _ | refine Zg ?_ _ _ _ (by (first | exact AJ _ | exact DP _ | exact Below.size AH | exact Nat.le_succ_of_le (Below.size AH) | (simp;done) | omega))));done))
  (first
    | (go_at_call 119;refine (CN.out _ (by (repeat (first | assumption | exact AL _ _ | refine Below.drew ?_ | refine Zo ?_ _ | refine Zg ?_ _ _ _ (by (first | exact AJ _ | exact DP _ | exact Below.size AH | exact Nat.le_succ_of_le (Below.size AH) | (simp;done) | omega)))))).mono ?_;rintro e w2⟨b5,bs,gS,b7,rfl,an⟩)
    | (go_at_call 127;refine (M.out _ (by (repeat (first | assumption | exact AL _ _ | refine Below.drew ?_ | refine Zo ?_ _ | refine Zg ?_ _ _ _ (by (first | exact AJ _ | exact DP _ | exact Below.size AH | exact Nat.le_succ_of_le (Below.size AH) | (simp;done) | omega)))))).mono ?_;rintro e t⟨W,ao,rfl⟩))
 have bq:Hid (V0 t gS (Yz G)):=Blk.hidden an ao;have bn:=LH (Zz y.out W);have bt:=LH (ae.below W);have bd:(Yz G).length=n2:=by rw[Wh];exact e2
 have be:=Ks G;have bi:=useS_lt G;generalize Yz G=S at *;generalize Qm G=use at *;have bw:=LH bd;have bx:=LH be;have aw:=LH bi;clear b5 bs b7 an ao W CN M HS y0 y1 y2 y3 y5 ae bd be bi;go_wp2_with fail;go_loopw [6,7,8] (λo s i wr=>∃(q:Nat) (A:Option Addr) (x:Nat),q<=n2/\i = .int .i64 (q:Int)/\o = .slice A (Y4 S use n2 q).1.length x/\s = .int .u32 (((Y4 S use n2 q).2:Nat):Int) /\
  wr.ownsRow t 3 1 (.slice A (Y4 S use n2 q).1.length x) (Y4 S use n2 q).1.length (ints .i64 (Z6 (Y4 S use n2 q).1))/\Hid ((Y4 S use n2 q).1.length<=q)/\Below t t wr) (λo s i _=>n2-(intOf i).toNat)
 case atStart=>exact⟨0,none,0,AS _,rfl,rfl,rfl,BN _ _ _ _,LH (AJ _),AL _ _⟩
 obtain⟨q,A,x,hq,rfl,rfl,rfl,g,ap,p⟩:=hrel;have cd:=p.size;have ab:=bt.out.below p;have⟨y5,y0,y1,y2,y3⟩:=ab;simp only[] at y0 y1 y2 y3;have J:=Nf S use n2 q;have ag:=Dl S n2 aw.out q;by_cases ci:q<n2
 case neg =>
  obtain rfl:q=n2:=AA
  have C:=LH g;have n:=LH p;clear J ag ab g p;go_wp2_with fail;go_ret2;exact Mx.good N.out (Zz bn.out n.out) C.out
 have bg:=ag.lt;have D:=LH bg;have a8:=ap.out;clear ag bg ab ap;have Y:∀i,Qx (U2 S use (Y4 S use n2 q).2) n2=some i->Y4 S use n2 (q+1)=((Y4 S use n2 q).1++[i],(Y4 S use n2 q).2 ||| Y6 (i:Int)):=λi hi=>by rw[J];exact Ly hi
 have Z:Qx (U2 S use (Y4 S use n2 q).2) n2=none->Y4 S use n2 (q+1)=Y4 S use n2 q:=λhi=>by rw[J];exact Ln hi
 clear J;generalize bf:Y4 S use n2 (q+1)=ck at *;have av:=LH bf;clear bf;generalize Y4 S use n2 q=st at *;obtain⟨l,b⟩:=st;simp only[] at Y Z g a8 D;have HF:=LH Y;have HN:=LH Z;clear Y Z;have C:=LH g;have n:=LH p;clear g p;simp only[];go_wp2_with fail;go_loop [6,7,9] (λo s i=>o = .slice A l.length x/\s = .int .u32 (b:Int)/\∃j:Nat,j<=n2/\i = .int .i64 (j:Int)/\Hid (∀f,f<j->U2 S use b f=false)) (λo s i=>n2-(intOf i).toNat)
 case atStart=>exact⟨rfl,rfl,0,AS _,rfl,LH λj h=>AA⟩
 obtain⟨rfl,rfl,j,hj,rfl,O⟩:=hrel;by_cases a7:j<n2
 case neg =>
  obtain rfl:j=n2:=AA
  have ah:=HN.out (findB_none O.out);subst ah;go_wp2_with fail;go_roundw
  case rel =>
   refine⟨q+1,A,x,AA,AF,?_⟩;rw[av.out];exact⟨rfl,rfl,C.out,LH (Nat.le_succ_of_le a8),n.out⟩
  simp[intOf];omega
 have br:Hid (V0 wr gS S):=Blk.ext bq.out n.out;have cc:=br.out.at (i:=j) (by rw[bw.out];exact a7);have ax:=Bl use j wr aw.out;have ay:=Bl b j wr D.out;have hv:=bx.out.get j;have cb:=andn32 (S.getD j 0) b hv D.out;have hz:=beq0_cast (Ck (S.getD j 0) b);have hp:U2 S use b j=(use.testBit j&&!b.testBit j&&(Ck (S.getD j 0) b==0)):=rfl;have cg:=or32 b (Y6 (j:Int)) D.out (Ua _);have cB:=λX=>Ch (j:Int) X;generalize Ck (S.getD j 0) b=z at *;generalize S.getD j 0=v at *;generalize use.testBit j=u at *;generalize b.testBit j=E at *;generalize (z==0)=T at *;have Hp:=LH hp;have C1:=LH ax;have C2:=LH ay;have CB:=LH cB;clear ax ay cB hp hv;have bb:U2 S use b j=false->Hid (∀f,f<j+1->U2 S use b f=false):=λhf=>LH λf cf=>by
  rcases BD f j with h | h
  ·exact O.out f h
  rw[show f=j by omega];exact hf
 have bv:=LH bb;clear bb;rcases (by cases u <;> cases E <;> cases T <;> simp:u=false\/(u=true/\E=true)\/(u=true/\E=false/\T=false)\/(u=true/\E=false/\T=true)) with rfl | ⟨rfl,rfl⟩ | ⟨rfl,rfl,rfl⟩ | ⟨rfl,rfl,rfl⟩
 case inr.inr.inr =>
  have ah:=HF.out j (findB_some a7 (by rw[Hp.out];rfl) O.out);subst ah;have g:=C.out;have b6:=n.out.size;have ba:(l++[j]).length=l.length+1:=AE
  have a9:ints .i64 (Z6 (l++[j]))=ints .i64 (Z6 l)++[.int .i64 (j:Int)]:=by simp[ints,Z6]
  have R:=LH ba;have bu:=LH a9;clear ba a9;go_wp2_with (first
   | (go_at_call 120;(first | (with_reducible refine C1.out.mono ?_) | (with_reducible refine C2.out.mono ?_));rintro e w'⟨rfl,rfl⟩)
   | (go_at_call 121;(with_reducible refine (CB.out _).mono ?_);rintro e w'⟨rfl,rfl⟩)
   | (at_builtin;refine Vc (w:=wr) rfl _ _ 30 rfl t 3 (.int .i64 0) 8 underlying30 Tryz.infoInt rfl _ l.length _ _ rfl g (.int .i64 ((j:Int))) rfl rfl AA AA AA ?_;intro L U w2 ho r))
  go_roundw
  case rel =>
   refine⟨q+1,L,U,AA,AF,?_⟩;rw[av.out];refine⟨?_,rfl,?_,LH (by show (l++[j]).length<=q+1;rw[R.out];omega),X6 n.out r g b6⟩
   ·show _=Value.slice L (l++[j]).length U;rw[R.out]
   show w2.ownsRow t 3 1 (.slice L (l++[j]).length U) (l++[j]).length (ints .i64 (Z6 (l++[j])));rw[R.out,bu.out];exact ho
  simp[intOf];omega
 all_goals
  have hf:=bv.out (by rw[Hp.out];rfl);go_wp2_with (go_at_call 120;(first | (with_reducible refine C1.out.mono ?_) | (with_reducible refine C2.out.mono ?_));rintro e w'⟨rfl,rfl⟩);go_round
  case rel=>exact⟨rfl,rfl,j+1,AA,AF,hf⟩
  simp[intOf];omega
theorem wk_lefts(p:Nat){B:Nat}(h:GH)(G:Gr)(T:List ByteArray)(A:Option Addr)(n c:Nat)(l:List Prd)(w:World)(k:Wk w p B h G)(hP:∀w',Below p w w'->Prds w' A n c l)(hn:n<=4000)(ht:G.terms=[])(C:Nv G.nons l=some T):
 Calls prog 72 #[.pointer (some ⟨p,0,none⟩),.slice A n c] w λe w'=>e = .returned (.tuple #[])/\∃r,Wk w' p B r { G with nons:=T }/\V6 w w' p h r:=by
 have N:=hP w (AL _ _);have aq:l.length=n:=N.1;have ck:=N.2.1;have cl:=N.2.2.1;have HP:=LH hP;have Hk:=LH k;have Ht:=LH ht;have Hl:=LH C;have bg:=LH aq;have ap:(prog.info? 9).map (λi=>(i.zero,i.size,i.bytes))=some (some (.string ByteArray.empty),1,16):=AB
 have c0:∀(w:World) (a:Addr) (k:FloatKind) (x y:Nat) (m:Mode),(store a (.complex k x y) m).run prog w=stored prog w a (.complex k x y) m:=λw a k x y m=>run_store prog w a _ m rfl;have Hi:=LH ap;clear k hP N ht C aq ap;go_enter func72,ntmps72;go_wp2_with fail;go_loopw [4] (λv wr=>∃(j:Nat) (r:GH) (d:List ByteArray),v = .int .i64 (j:Int)/\j<=n/\Hid (Wk wr p B r { G with nons:=d })/\Hid (Nv d (l.drop j)=some T)/\Hid (V6 w wr p h r)) (λv _=>n-(intOf v).toNat)
 case atStart=>exact⟨0,h,G.nons,rfl,AS _,Hk,Hl,LH (V6.refl _ _ _)⟩
 obtain⟨j,r,d,rfl,hj,o,ak,H⟩:=hrel;obtain⟨a1,n1,c1,a2,n2,c2,a3,n3,c3⟩:=r;obtain⟨hp,z0,z1,z2,z3,z7,dk,v0,v1,v2⟩:=o.out.cells;simp only[] at z0 z1 z2;by_cases br:j<n
 case neg =>
  obtain rfl:j=n:=AA
  go_wp2_with fail;(try simp only[Exit.inBlock,Exit.then]);refine bodyPost_end (results_none rfl _ _ _) rfl ?_;have C:=ak.out;rw[List.drop_eq_nil_of_le (by rw[bg.out];exact AJ _)] at C;have u:d=T:=by
   unfold Nv at C;injection C
  exact⟨rfl,_,by rw[<-u];exact o.out,H.out⟩
 obtain⟨b,c8,q,Ar,cr,x,y,x',y',rfl,hb,Hq,q0,q1,q2,q3,q4,bv⟩:=(HP.out wr (H.out.below Hk.out)).get br;obtain⟨ar,ax⟩:=leftsP_step ak.out Hq.out;have bj:=LH ax;have Z:=Zy wr (.cells #[.string q.left,.complex .f64 x y] 124);have O:=Blk.new wr 124 #[.string q.left,.complex .f64 x y];have R:=o.out.below Z;have Y:=λw=>Zx8 q.left w;rw[ar] at Y;have CN:=LH Y;obtain⟨l1,l2,l3⟩:=o.out.lens;simp only[] at l1 l2 l3;have cs:n1<=24:=o.out.b1;have ct:n2<=16:=o.out.b2;have av:G.start=0:=o.out.st;clear ar ax Y bv;generalize q.left=L at *;go_wp2_with (go_at_call 116;(with_reducible refine (CN.out _).mono ?_);rintro e w2⟨rfl,rfl⟩);generalize bq:wr.alloc (.cells #[.string L,.complex .f64 x y] 124)=g at *;have cn:wr.heap.size<g.heap.size:=O.lt;obtain⟨cv,u0,u1,u2,u3,u7,u10,b7,b8,b9⟩:=R.cells;have y0:g.cell? ⟨wr,0,none⟩=some (.string L):=O.cell 0;simp only[] at u0 u1 u2;have I:=λ(x:Ext g)=>C6 ⟨a1,n1,c1,a2,n2,c2,a3,n3,c3⟩ { G with nons:=d } L (bl g x) (R.grAt.below (Zr g x)) (by simp only[];omega);rw[show ({ G with nons:=d }:Gr).term L=-1 by unfold Gr.term;show Y8 _ G.terms=-1;rw[Ht.out];rfl] at I;rw[show ({ G with nons:=d }:Gr).start=0 from av] at I;have CT:=LH I;have ai:=LH R;have bb:=LH O;have bc:=Yt g;clear I R O bq av l1;go_wp2_with fail;refine Zs AB AB ?_;repeat (go_big_quiet_step ((go_at_call 114;with_reducible exact Ve (CT.out _))))
 refine BL ?_;rintro _⟨x2,rfl⟩;have J:=Zr g x2;have S:=ai.out.below J;have P:=bb.out.ext J;generalize bl g x2=f at *;have af:=LH (Zz Z J);obtain⟨cw,t0,t1,t2,t3,t7,b3,f0,f1,f2⟩:=S.cells;have e0:f.cell? ⟨wr,0,none⟩=some (.string L):=P.cell 0;have co:wr.heap.size<f.heap.size:=P.lt;simp only[] at t0 t1 t2;have z:=λ(x:Ext f)=>Zu5 ⟨a1,n1,c1,a2,n2,c2,a3,n3,c3⟩ { G with nons:=d } L (bl f x) (S.grAt.below (Zr f x)) (by simp only[];omega);rw[show ({ G with nons:=d }:Gr).non L=Y8 (λt=>decide (t=L)) d from rfl,show ({ G with nons:=d }:Gr).start=0 from ai.out.st] at z;have aj:=LH S;have bd:=LH P;have bc2:=Yt f;clear S P bc CT y0 u0 u1 u2 u3 u7 u10 b7 b8 b9 J Z;rcases bj.out with ⟨ae,u⟩ | ⟨ae,bu,u⟩
 ·have W:=LH u;generalize Y8 (λt=>decide (t=L)) d=nv at *;have F:=LH z;clear z u;go_wp2_with fail;refine Zs AB AB ?_;repeat (go_big_quiet_step ((go_at_call 74;with_reducible exact Ve (F.out _))))
  refine BL ?_;rintro _⟨E,rfl⟩;have s:=Zr f E;have V:=LH (aj.out.below s);have U:=LH (Zz af.out s);generalize bl f E=W3 at *;go_wp2_with fail;go_roundw
  case rel=>exact⟨j+1,_,d,AF,AA,V,W,LH (H.out.trans (V6.of_below U.out _ _))⟩
  simp[intOf];omega
 have W:=LH u;rw[ae] at z;rw[l2] at bu;have F:=LH z;have ch:((n2:Int)==16)=false:=by rw[AQ];omega
 clear z u ae;go_wp2_with fail;refine Zs AB AB ?_;repeat (go_big_quiet_step ((go_at_call 74;with_reducible exact Ve (F.out _))))
 refine BL ?_;rintro _⟨E,rfl⟩;have s:=Zr f E;have D:=aj.out.below s;have ab:=bd.out.ext s;have U:=LH (Zz af.out s);generalize bl f E=W3 at *;obtain⟨cx,m0,m1,m2,m3,m7,c5,g0,g1,g2⟩:=D.cells;have d0:W3.cell? ⟨wr,0,none⟩=some (.string L):=ab.cell 0;have cp:wr.heap.size<W3.heap.size:=ab.lt;simp only[] at m0 m1 m2;have V:=LH D;have al:Hid ((W3.drew.alloc (.cells #[.string L] 9)).ownsRow (p+1) 9 1 (.slice a2 n2 c2) n2 (d.map Value.string)):=M5 D.r2 ((AL W3 W3).drew.alloc (AJ _) _);have M:Below W3 W3 (W3.drew.alloc (.cells #[.string L] 9)):=(AL W3 W3).drew.alloc (AJ _) _;have ba:=LH (D.blk.ext M);have ag:=LH M;have bs:p+1<=(W3.drew.alloc (.cells #[.string L] 9)).heap.size:=by have:=M.size;omega
 clear M D ab s t0 t1 t2 t3 t7 b3 f0 f1 f2 bc2 F;go_wp2_with fail;go_region_law (first
  | (refine V5 rfl _ _ 23 rfl (p+1) 9 _ 1 16 underlying23 Hi.out AC AC a2 n2 c2 (d.map Value.string) (by simp[Act.eval,Act.put]) (by exact al.out) ⟨W3,0,none⟩ 1 1 [.string L] rfl (by simp[Act.eval,Act.put]) (by exact Qn W3.drew [.string L] _) (by simp[Value.oneCell']) AA AA (by exact bs) ?_;intro A4 c4 w4 ho ad ha
     have X:=ba.out.grown ad (by intro e;have:=(al.out.lt p e.symm).1;omega);have k1:w4.cell? ⟨p,1,none⟩=some (.slice a2 n2 c2):=X.cell 1;have k2:=X.frozen 1;have am:=LH (V.out.put2 L (by simp only[];omega) A4 c4 ho (Zc (Xz _ ag.out) ad) (λb hb bt=>ha b hb (AK bt ag.out.size)));clear X ho ad ha))
 all_goals
  go_wp2_with fail;go_roundw
  case rel=>exact⟨j+1,_,d++[L],AF,AA,LH am.out.1,W,LH ((H.out.trans (V6.of_below U.out _ _)).trans am.out.2)⟩
  simp[intOf];omega
theorem rf_told(A:Option Addr)(n c:Nat)(b:Bool)(x:Nat)(w:World)(h:Z1 w A n c b x):
 Calls prog 62 #[.agg #[.slice A n c,.bool b]] w (Xr w (Xm x)):=by
 have o:=Zy w (.cells #[.slice A n c,.bool b] 110);have q:=Blk.new w 110 #[.slice A n c,.bool b];have p:=(h.2.below o);have f:=h.2.len;have k:=h.cases;have l:=LH p;have j:=LH o;clear h p;go_enter func62,ntmps62;rcases k with ⟨d,rfl,ex⟩ | ⟨d,rfl,ex⟩
 ·have a:Xm x=(limbs x,0):=by unfold Xm;rw[if_pos d]
  rw[ex] at f l;have g:=LH a;have m:=LH f;clear a ex d f;go_wp2_with fail;go_ret2;unfold Xr;rw[g.out];exact⟨A,c,by rw[<-m.out];rfl,by rw[m.out];exact l.out,j.out⟩
 have a:Xm x=([],2):=by unfold Xm;rw[if_neg d]
 have g:=LH a;clear a ex d f;go_wp2_with fail;go_ret2;unfold Xr;rw[g.out];exact⟨none,0,rfl,Zq.nil _ _ _ _ AA,j.out⟩
theorem Zs0(w:World)(t:TypeId)(c1 c2:Array Value):Below w w ((w.alloc (.cells c1 t)).alloc (.cells c2 t)).drew/\Blk ((w.alloc (.cells c1 t)).alloc (.cells c2 t)).drew w t c1/\Blk ((w.alloc (.cells c1 t)).alloc (.cells c2 t)).drew (w.heap.size+1) t c2:=by
 have h1:=Blk.new w t c1;have b:=Blk.new (w.alloc (.cells c1 t)) t c2;have c:=Zy w (.cells c1 t);have a:=Zy (w.alloc (.cells c1 t)) (.cells c2 t);rw[Zl] at b;exact⟨(Zz c a).drew,Blk.drew (h1.ext a),Blk.drew b⟩
theorem run_make_cap{P:Program}(t e:TypeId)(k:IntKind)(bytes:Nat)(g:P.underlying t=some (.slice e))(hi:(P.info? e).map (λi=>(i.zero,i.size,i.bytes))=some (some (.int k 0),1,bytes))(n:Nat)(l:bytes*n<=281474976710656)(m:n<=9223372036854775807)(w:World):
 (Instr.makeSlice t (.int .i64 0) (.int .i64 (n:Int))).run P w = .ok (.slice (some ⟨w,0,none⟩) 0 n) (w.alloc (.cells (nums k (List.replicate n 0)).toArray e)):=by
 obtain⟨i,d,j,f,c⟩:=info_parts hi;have b:(i.bytes:Int)*(n:Int)<=281474976710656:=by
  rw[c];have h:((bytes*n:Nat):Int)<=281474976710656:=AA
  rwa [Int.natCast_mul] at h
 have a:=run_make (P:=P) w t e i (.int k 0) g d j .i64 .i64 0 n AA AA b AA;simp only[DC] at a;have h0:Int.toNat 0=0:=rfl;rw[a,f,Ej,h0];simp only[Value.cells,Zui]
theorem Zqh:limbs 1=[1]:=by
 have:=Mf [1] (Lim.mk AC Lim.nil) (X8 [1] AC);simpa [val] using this
theorem Zqr(w:World):Zq .u32 (w.alloc (.cells #[.int .u32 1] 41)) (some ⟨w,0,none⟩) 1 1 [1] :=
 (Own.new w 41 .u32 [1]).nums (n:=1) (c:=1) rfl (AJ _) AA
theorem Tryz.infoVal:(prog.info? 110).map (λi=>(i.zero,i.size,i.bytes))=some (some (.agg #[.slice none 0 0,.bool false]),2,32):=AB
theorem Zzv(n:Nat)(h:n<=1000)(w:World):
 (Instr.makeSlice 115 (.int .i64 (n:Int)) (.int .i64 (n:Int))).run prog w = .ok (.slice (some ⟨w,0,none⟩) n n) (w.alloc (.cells (zeroCells n) 110)):=by
 obtain⟨i,d,g,f,c⟩:=info_parts Tryz.infoVal;have b:(i.bytes:Int)*(n:Int)<=281474976710656:=by rw[c];omega
 have a:=run_make (P:=prog) w 115 110 i (.agg #[.slice none 0 0,.bool false]) underlying115 d g .i64 .i64 n n AA AA b AA;simp only[DC] at a;rw[a,f];simp only[Value.cells,made_vals]
theorem Tryz.infoValS:(prog.info? 115).map (λi=>(i.zero,i.size,i.bytes))=some (some (.slice none 0 0),1,24):=AB
section
variable {P:Program}
theorem Zr7(w:World)(base:Nat)(t ty e:TypeId)(i:TypeInfo)(z:Value)(B:P.underlying t=some (.slice e))(hi:P.info? e=some i)(G:i.zero=some z)(A:Option Addr)(n c:Nat)(xs:List Value)(y:w.ownsRow base e i.size (.slice A n c) n xs)(a:Addr)(m c2:Nat)(M:0<m)(f:List Value)(q:f.length=m*i.size)(v:∀j u,f[j]? = some u->w.cell? (a.add j)=some u)(h1:∀u∈f,u.oneCell'=true)(R:n+m<=9223372036854775807)(D:(n+m)*i.bytes<=140737488355328)(N:∀g,(Value.slice A n c).ownBlock=some g->Qf w g)(s:∀u∈f,∀k x,u≠Value.int k x)(O:∀u∈xs,∀k x,u≠Value.int k x)(H:∀u∈z.cells.toList,∀k x,u≠Value.int k x){I:Value}{w':World}(h:(Builtin.append_ #[t,t] ty #[.slice A n c,.slice (some a) m c2]).run P w = .ok I w'):∀g,I.ownBlock=some g->Qf w' g:=by
 rcases y.2 with ⟨C,U⟩ | ⟨g,cap,r,C,S,o,V,T,J,W⟩
 ·injection C with e1 e2 e3;subst e1 e2 e3;have p:=run_append_nil (P:=P) w t ty e i z B hi G a m c2 f q v M AA (by have l:=D;simp only[BF] at l;omega);rw[p] at h;injection h with r1 r2;subst r1 r2;intro g o;have:w.heap.size=g:=by simpa [Value.ownBlock] using o
  subst this;refine G5 (heap_alloc_new w.drew _) λu d=>?_;rw[Array.toList_append,DD] at d;rcases d with d | d
  ·exact s u (by simpa using d)
  exact Zxt H _ u d
 injection C with e1 e2 e3;subst e1 e3;by_cases F:n+m<=c
 ·have L:n*i.size+f.length<=r.size:=by rw[q,J,<-Nat.add_mul];exact Es _ F
  have p:=run_append_room (P:=P) w t ty e i B hi g n c r o a m c2 f q v h1 F L;rw[p] at h;injection h with r1 r2;subst r1 r2;intro b l;have:g=b:=by simpa [Value.ownBlock] using l
  subst this;have E:=noInt_mem o (N g rfl);refine G5 (setRow_heap w g r _ e _ o) λu d=>?_;rw[List.toList_toArray,DD,DD] at d;rcases d with (d | d) | d
  ·exact E u (List.mem_of_mem_take d)
  ·exact s u d
  exact E u (List.mem_of_mem_drop d)
 have holds:∀j u,xs[j]? = some u->w.cell? ((⟨g,0,none⟩:Addr).add j)=some u:=y.cells (g:=g) rfl;have p:=run_append_grow (P:=P) w t ty e i z B hi G ⟨g,0,none⟩ n c xs y.1 holds a m c2 f q v AA AA (growslice_fits AA D);rw[p] at h;injection h with r1 r2;subst r1 r2;intro b l;have:w.heap.size=b:=by simpa [Value.ownBlock] using l
 subst this;refine G5 (heap_alloc_new w.drew _) λu d=>?_;rw[Array.toList_append,Array.toList_append,DD,DD] at d;rcases d with (d | d) | d
 ·exact O u (by simpa using d)
 ·exact s u (by simpa using d)
 exact Zxt H _ u d
theorem Zqv{w:World}{o:Oper}{a:Act}(V:o.guard=none)(s x:Operand)(t:TypeId)(Y:o.op = .call { callee := .builtin .append,args:=#[s,x],argTypes:=#[t,t] })(base:Nat)(e:TypeId)(z:Value)(bytes:Nat)(J:P.underlying t=some (.slice e))(hi:(P.info? e).map (λi=>(i.zero,i.size,i.bytes))=some (some z,1,bytes))(af:z.cells.size=1)(ag:∀u∈z.cells.toList,∀k x,u≠Value.int k x)(A:Option Addr)(n c:Nat)(xs:List Value)(Z:a.eval s = .slice A n c)(H:w.ownsRow base e 1 (.slice A n c) n xs)(X:∀g,(Value.slice A n c).ownBlock=some g->Qf w g)(ae:∀u∈xs,∀k x,u≠Value.int k x)(f:Addr)(c2:Nat)(u:Value)(hx:a.eval x = .slice (some f) 1 c2)(U:w.cell? f=some u)(h1:u.oneCell'=true)(hu:∀k x,u≠Value.int k x)(C:n+1<=9223372036854775807)(E:(n+1)*bytes<=140737488355328)(T:base<=w.heap.size)(h:∀d l w',w'.ownsRow base e 1 (.slice d (n+1) l) (n+1) (xs++[u])->w.grownBy w' (Value.slice A n c).ownBlock->(∀b,(Value.slice d (n+1) l).ownBlock=some b->b<w.heap.size->(Value.slice A n c).ownBlock=some b)->
   (∀b,(Value.slice d (n+1) l).ownBlock=some b->Qf w' b)->wpList P ops Q rest (a.put o.dst (.slice d (n+1) l)) w'):wpList P ops Q (o::rest) a w:=by
 obtain⟨i,G,L,r,D⟩:=info_parts hi;have F:∀j v,[u][j]? = some v->w.cell? (f.add j)=some v:=by
  intro j v m;have W:j=0:=by have:=(AO.1 m).1;simp at this;omega
  subst W;obtain rfl:u=v:=by simpa using m
  have M:f.add 0=f:=by unfold Addr.add;simp
  rw[M];exact U
 have y:∀v∈[u],v.oneCell'=true:=λv m=>by rw[BP.1 m];exact h1
 obtain⟨v',w',I,B,N,_,p⟩:=run_append_own_at (P:=P) w base t o.type e i z 1 bytes J G L r D af AC _ n xs H f 1 c2 [u] rfl F y (by simpa [maxLen] using C) E T;have R:=Zr7 (P:=P) w base t o.type e i z J G L A n c xs (by rw[r];exact H) f 1 c2 AC [u] (by rw[r];rfl) F y C (by rw[D];exact E) X (λv m=>by rw[BP.1 m];exact hu) ae ag I;obtain⟨d,l,rfl⟩:=M3 B;have O:∀b,(Value.slice d (n+1) l).ownBlock=some b->b<w.heap.size->(Value.slice A n c).ownBlock=some b:=by
  intro b q ah;rcases p with p | p
  ·rw[<-p];exact q
  rw[p] at q;injection q with q;omega
 refine wpList_plain V λK S=>?_;unfold Oper.wp execOp;simp only[Y,resolve,invoke,builtin,Sem.run_bind,Sem.run_pure,Result.andThen_ok,List.map_toArray,CU,List.map_nil,Z,hx,I];exact S _ _ (h d l w' B N O R)
end
section
open Ieee
open Go.Maps (Keyed IsMap Tidy)
theorem Wd.less{c w:World}{k:BkH}{h:GH}{G:Gr}{S S':Nat->Prop}(C:Wd c k h G S w)(f:∀b,S' b->S b):Wd c k h G S' w:=by
 refine⟨C.base,C.box,C.low,?_⟩;obtain⟨ts,a⟩:=C.known;exact⟨ts,a.map,a.key,λp d=>⟨(a.val p d).1,λh1=>(a.val p d).2 (f _ h1)⟩⟩
end
section
variable {W0:World} {k:BkH} {h:GH} {G:Gr} {S':Nat->Prop} {w:World} {gR:Nat} {b:Nat->Bool} {u:Nat->Value} {X:World}
variable {P:Program} {w:World}
theorem run_appendR(base:Nat)(t ty:TypeId)(bytes:Nat)(L:P.underlying t=some (.slice 3))(hi:(P.info? 3).map (λi=>(i.zero,i.size,i.bytes))=some (some (.int .i64 0),1,bytes))(A:Option Addr)(n c:Nat)(xs:List Int)(s:M4 w base A n c xs)(a:Addr)(m c2:Nat)(k:List Int)(hl:k.length=m)(hm:0<m)(I:∀j u,(ints .i64 k)[j]? = some u->w.cell? (a.add j)=some u)(V:n+m<=maxLen)(S:(n+m)*bytes<=140737488355328)(aa:base<=w.heap.size):
 ∃M N w',(Builtin.append_ #[t,t] ty #[.slice A n c,.slice (some a) m c2]).run P w = .ok (.slice M (n+m) N) w'/\M4 w' base M (n+m) N (xs++k)/\w.grownBy w' (Value.slice A n c).ownBlock /\
  (∀b,(Value.slice M (n+m) N).ownBlock=some b->b<w.heap.size->(Value.slice A n c).ownBlock=some b):=by
 obtain⟨i,J,T,y,R⟩:=info_parts hi;have D:(ints .i64 k).length=m*1:=by rw[Y9,hl,Ej]
 have h1:∀u∈ints .i64 k,u.oneCell'=true:=Gu _ _;have am:n+m<=9223372036854775807:=by simp only[maxLen] at V;omega
 have H:ints .i64 (xs++k)=ints .i64 xs++ints .i64 k:=by simp[ints]
 obtain⟨v',w',x,G,O,ai⟩:=run_append_own (P:=P) w base t ty 3 i (.int .i64 0) 1 bytes L J T y R rfl AC _ n _ s.1 a m c2 _ D I h1 V S aa;have Y:∀(U:List Int) (q:Nat) (o:Nat) (v:Value),((ints .i64 U).toArray++Builtin.zeroCells (Value.int .i64 0).cells q)[o]? = some v->∃z,v = .int .i64 z:=by
  intro U q o v h;rw[Array.getElem?_append] at h;split at h
  ·rw[DR] at h;exact Zsj h
  have d:=Array.mem_of_getElem? h;have:v = .int .i64 0:=by
   simp[Builtin.zeroCells,Value.cells] at d;obtain⟨p,_,e⟩:=d;rw[Nat.mod_one] at e;exact e.symm
  exact⟨0,this⟩
 rcases s.1.2 with ⟨e,rfl⟩ | ⟨g,cap,F,e,aj,r,al,ak,ab,an⟩
 ·injection e with e1 _ e2;subst e1 e2;have hx:xs=[]:=BJ (by have:=s.1.1;rw[Y9] at this;omega);subst hx;have l:=run_append_nil (P:=P) w t ty 3 i (.int .i64 0) L J T a m c2 _ (by rw[D,y]) I hm AA (by rw[R];rw[BF] at S;omega);rw[l] at x;injection x with hv hw;subst hv hw;simp only[BF] at G ⊢;refine⟨_,_,_,l,⟨by rw[H];exact G,λg r o v f=>?_⟩,O,λb B af=>?_⟩
  ·simp[Value.ownBlock] at r;subst r;rw[cell_of_row _ w _ _ _ _ (heap_alloc_new w.drew _)] at f;exact Y _ _ _ _ f
  simp[Value.ownBlock] at B;omega
 injection e with e1 _ e2;subst e1 e2;have W:∀(o:Nat) (v:Value),F[o]? = some v->∃z,v = .int .i64 z:=λo v h=>s.2 g rfl o v (by rw[cell_of_row _ _ _ _ _ _ r];exact h);by_cases X:n+m<=c
 ·have ad:n*i.size+(ints .i64 k).length<=F.size:=by rw[D,ab,y,<-Nat.add_mul];exact Es _ X
  have l:=run_append_room (P:=P) w t ty 3 i L J g n c F r a m c2 _ (by rw[D,y]) I h1 X ad;rw[l] at x;injection x with hv hw;subst hv hw;refine⟨_,_,_,l,⟨by rw[H];exact G,λZ C o v f=>?_⟩,O,λb B _=>B⟩;simp[Value.ownBlock] at C;subst C;rw[cell_of_row _ _ _ _ _ _ (setRow_heap w g F _ _ _ r)] at f;rw[DR] at f;have d:=AN f;rw[DD,DD] at d;rcases d with (d | d) | d
  ·obtain⟨q,E⟩:=List.mem_iff_getElem?.1 (List.mem_of_mem_take d);exact W q v (by simpa using E)
  ·obtain⟨q,E⟩:=List.mem_iff_getElem?.1 d;exact Zsj E
  obtain⟨q,E⟩:=List.mem_iff_getElem?.1 (List.mem_of_mem_drop d);exact W q v (by simpa using E)
 have holds:∀j u,(ints .i64 xs)[j]? = some u->w.cell? ((⟨g,0,none⟩:Addr).add j)=some u:=s.1.cells (g:=g) rfl;have l:=run_append_grow (P:=P) w t ty 3 i (.int .i64 0) L J T ⟨g,0,none⟩ n c _ (by rw[y];exact s.1.1) holds a m c2 _ (by rw[D,y]) I AA AA (by rw[R];exact growslice_fits AA S);rw[l] at x;injection x with hv hw;subst hv hw;refine⟨_,_,_,l,⟨by rw[H];exact G,λZ C o v f=>?_⟩,O,λb B af=>?_⟩
 ·simp[Value.ownBlock] at C;subst C;rw[cell_of_row _ w _ _ _ _ (heap_alloc_new w.drew _)] at f;refine Y (xs++k) (grownCap w (n+m) c 3-(n+m)) o v ?_;rw[H];simpa using f
 simp[Value.ownBlock] at B;omega
end
section
variable {W0:World} {k:BkH} {h:GH} {G:Gr} {S':Nat->Prop} {w:World} {gR:Nat} {b:Nat->Bool} {u:Nat->Value} {X:World}
theorem Wd.wide{f w:World}{k:BkH}{h:GH}{G:Gr}{S P:Nat->Prop}(C:Wd f k h G S w)(l:∀q,P q->∀g,¬Blk w q 168 g):Wd f k h G (λq=>S q\/P q) w:=by
 refine⟨C.base,C.box,C.low,?_⟩;obtain⟨ts,a⟩:=C.known;refine⟨ts,a.map,a.key,λp b=>⟨(a.val p b).1,?_⟩⟩;rintro (h1 | h1)
 ·exact (a.val p b).2 h1
 obtain⟨A,n,c,d,j,_⟩:=(a.val p b).1;exact l _ h1 _ j
end
section
variable {W0:World} {k:BkH} {h:GH} {G:Gr} {S':Nat->Prop} {w:World} {gR:Nat} {b:Nat->Bool} {u:Nat->Value} {X:World}
variable {W0:World} {k:BkH} {h:GH} {G:Gr} {mk:Nat} {cs:List Nat} {S:Nat->Prop} {A:Option Addr} {c:Nat} {W:World}
theorem Me.ne_c(M:Me W0 k h G mk cs S A c W):mk≠k.c:=λe=>by
 have h1:=M.bk.box;rw[<-e] at h1;exact absurd (h1.same_ty M.box) AC
end
section
open Go.RowKit Go.Shelf
attribute [local go_sem] Oper.semAt_some
theorem chunk1_in(n:Nat)(hn:1<=n)(l f d b A L cap N:Nat)(I:0<N)(ah:N<=1000)(hL:L<=1000)(ai:L<=cap)(aj:cap<=9223372036854775807)(J q:List (Zrl L N)->World->Prop)(O:∀a (x:Zrl L N) W,J a W->a.length<L->YieldAt Fence.wide (n-1) prog l (encP b A x) W λe c =>
   (e = .returned (.bool true)/\J (a++[x]) c/\Zrq f d W c)\/(e = .returned (.bool false)/\q (a++[x]) c))(G:∀s W m,J s W->J s (W.drewN m))(W:World)(D:W.cell? ⟨f,0,none⟩=some (.slice (some ⟨b,A,none⟩) L cap))(u:W.cell? ⟨d,0,none⟩=some (.int .i64 (N:Int)))(h0:J [] W):
 CallsIn Fence.wide n prog 101 #[.func (.yield l) #[] #[],.pointer (some ⟨f,0,none⟩),.pointer (some ⟨d,0,none⟩)] W λe c=>(∃v,e = .returned v) /\
  ((∃B,(∃k,L<=N*k/\B=Zrw L N k)/\J B c)\/(∃a,(∃k,a=Zrw L N k)/\q a c)):=by
 refine callsIn_of_wp func101 rfl trivial ?_ rfl;simp only[ntmps101,List.size_toArray,AY,DE,Nat.reduceAdd,Nat.reduceSub,Array.replicate_succ,Array.replicate_zero,List.push_toArray,List.append_toArray,DA,DM]
 gi_wp2
 gi_loopw [4] (λi wr=>∃k m:Nat,Hid (m=N*k)/\m<L+N/\k<=L/\i = .int .i64 (m:Int)/\J (Zrw L N k) wr/\Zrq f d W wr)
  (λi _=>L+N-(intOf i).toNat)
 case atStart=>exact⟨0,0,LH AE,AA,AS _,rfl,h0,rfl,rfl⟩
 obtain⟨k,m,h,ap,hk,rfl,y,j⟩:=hrel;have af:=(Zrg (o:=0) j.1).trans D;have ad:=(Zrg (o:=0) j.2).trans u;by_cases ao:m<L
 ·have p:(Zre L N k).1=(m,min N (L-m)):=by
   have:=h.out;subst this;show (min (N*k) L,min N (L-N*k))=_;rw[Nat.min_eq_left AA]
  obtain⟨e,g⟩:∃e,Hid (min N (L-m)=e):=⟨_,LH rfl⟩;rw[g] at p;have he:m+e<=L:=by have:=g.out;omega
  have am:e<=N:=by have:=g.out;omega
  have al:0<e:=by have:=g.out;omega
  have P:min (N:Int) ((L-m:Nat):Int)=(e:Int):=by have:=g.out;omega
  have S:k<L:=by
   have:=h.out;have:k*1<=N*k:=by rw[Ef N k];exact Ei k I
   omega
  have U:(0:Int)<=(m:Int):=AA
  have V:(m:Int)<=(L:Int):=AA
  have X:(m:Int)<=(cap:Int):=AA
  gi_wp2
  gi_quiet (fail)
  have F:=G _ _ nq y;have Z:((m:Int)+(e:Int)).toNat-m=e:=AA
  have h6:(m:Int)<=(m:Int)+(e:Int):=AA
  have h7:(m:Int)+(e:Int)<=(cap:Int):=AA
  obtain⟨Y,tmps,assign,body,T,M⟩:=O _ (Zre L N k) (wr.drewN nq) F (by rw[Zr1];exact S);simp only[encP,p] at T
  gi_wp2
  refine M.mono ?_;rintro e r (⟨rfl,E,R⟩ | ⟨rfl,H⟩)
  ·have z:Zrq f d W r:=Zrq.t (C:=r) ⟨j.1,j.2⟩ R;have ae:=(Zrg (o:=0) z.2).trans u
   gi_wp2
   go_roundw
   case rel=>exact⟨k+1,m+N,LH (by rw[h,DL,Ej]),AA,AA,AF,by rw[Zrb];exact E,z⟩
   simp[intOf];omega
  gi_wp2
  refine AW (results_none rfl _ _ _) rfl ?_;exact⟨⟨_,rfl⟩,.inr ⟨_,⟨k+1,(Zrb _ _ _).symm⟩,H⟩⟩
 gi_wp2
 go_end0
 exact⟨⟨_,rfl⟩,.inl ⟨_,⟨k,by have:=h.out;omega,rfl⟩,y⟩⟩
theorem chunk1_none(n:Nat)(l a b cap N:Nat)(A:Option Addr){L:Nat}(J:List (Zrl L N)->World->Prop)(W:World)(d:W.cell? ⟨a,0,none⟩=some (.slice A 0 cap))(h0:J [] W):
 CallsIn Fence.wide n prog 101 #[.func (.yield l) #[] #[],.pointer (some ⟨a,0,none⟩),.pointer (some ⟨b,0,none⟩)] W λe c=>(∃v,e = .returned v)/\J [] c:=by
 refine callsIn_of_wp func101 rfl trivial ?_ rfl;simp only[ntmps101,List.size_toArray,AY,DE,Nat.reduceAdd,Nat.reduceSub,Array.replicate_succ,Array.replicate_zero,List.push_toArray,List.append_toArray,DA,DM]
 gi_wp2
 gi_loopw [4] (λi wr=>i = .int .i64 0/\wr=W) (λ_ _=>0)
 case atStart=>exact⟨rfl,rfl⟩
 obtain⟨rfl,rfl⟩:=hrel
 gi_wp2
 go_end0
 exact⟨⟨_,rfl⟩,h0⟩
theorem chunk_stops(n:Nat)(F:1<=n)(c a b f L cap N:Nat)(A:Option Addr)(q:0<L->A=some ⟨b,f,none⟩)(x:0<N)(y:N<=1000)(v:L<=1000)(B:L<=cap)(C:cap<=9223372036854775807)(w:World)(d:c<w.heap.size)(H:a<w.heap.size)(t:w.cell? ⟨c,0,none⟩=some (.slice A L cap))(r:w.cell? ⟨a,0,none⟩=some (.int .i64 (N:Int))):
 SeqStopsK Fence.wide n prog 101 #[.pointer (some ⟨c,0,none⟩),.pointer (some ⟨a,0,none⟩)] (encP b f (L:=L) (N:=N)) (Zrq c a)
  (λM=>∃k,L<=N*k/\M=Zrw L N k) (λI=>∃k,I=Zrw L N k) L w:=λl J o W g u _ z h0=>by
 have j:=(g.cell (p:=⟨c,0,none⟩) d).trans t;have G:=(g.cell (p:=⟨a,0,none⟩) H).trans r;rcases BY L with h | h
 ·subst h;exact (chunk1_none n l c a cap N A J W j h0).mono λe O ⟨D,E⟩=>⟨D,.inl ⟨[],⟨0,AS _,rfl⟩,E⟩⟩
 obtain rfl:=q h;exact chunk1_in n F l c a b f L cap N x y v B C J o z (λs W m d=>u s W _ none d (drewN_grownBy W m) (λ_ e=>by cases e)) W j G h0
end
section
open Go.RowKit Go.Shelf
attribute [local go_sem] Oper.semAt_some
open Go.RowKit Go.Shelf
theorem Zq1(w:World)(v:Value):Zqy w ((((w.alloc (.cells #[v] 44)).alloc (.cells #[.slice none 0 0] 44)).alloc (.cells #[.int .i64 0] 3)).alloc (.cells #[.int .i64 0] 31)) v:=by
 have h0:=Boxed.new w 44 v;have h1:=Boxed.new (w.alloc (.cells #[v] 44)) 44 (.slice none 0 0);have a:=Boxed.new ((w.alloc (.cells #[v] 44)).alloc (.cells #[.slice none 0 0] 44)) 3 (.int .i64 0);have b:=Boxed.new (((w.alloc (.cells #[v] 44)).alloc (.cells #[.slice none 0 0] 44)).alloc (.cells #[.int .i64 0] 3)) 31 (.int .i64 0);simp only[World.size_alloc] at h1 a b;exact⟨((h0.alloc _).alloc _).alloc _,(h1.alloc _).alloc _,a.alloc _,b⟩
end
section
open Go.RowKit Go.Shelf
attribute [local go_sem] Oper.semAt_some
open Go.RowKit Go.Shelf
open Go.RowKit Go.Shelf
attribute [local go_sem] Oper.semAt_some
theorem ib_own(w w1:World)(d:List Nat)(v:Value)(V K N:Nat):_root_.Go.Own (λc W=>IB w w1 d v V K N c W):=λc A B row h a b =>
 ⟨Zqp h.vars a b,Zry h.b7 a b,Zry h.b8 a b,BC h.size a.size,h.fail⟩
theorem xb_own(w w1:World)(r:List Nat)(V K N:Nat)(c:Code):_root_.Go.Own (λg W=>XB w w1 r V K N c g W):=λg A B row h a b=>by
 obtain⟨q,x,e,o,h⟩:=h;refine⟨q,x,e,o,?_⟩;rcases h with ⟨d,f,p,j,k,h1,l,m,n⟩ | ⟨d,f,v,h⟩
 ·exact .inl ⟨d,f,p,j,k,Zry h1 a b,Zry l a b,Zry m a b,Zqt n a b⟩
 exact .inr ⟨d,f,v,Zqp h a b⟩
end
