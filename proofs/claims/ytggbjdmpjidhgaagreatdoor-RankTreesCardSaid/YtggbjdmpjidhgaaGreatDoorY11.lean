/- A region that draws its order: quiet in a class of worlds but for its last operations, which stand in one order: one walk serves. -/
import Derived.Test.YtggbjdmpjidhgaaGreatDoorY04
import Derived.Test.YtggbjdmpjidhgaaGreatDoorY05
import Derived.Test.YtggbjdmpjidhgaaGreatDoorY06
import Derived.Test.YtggbjdmpjidhgaaGreatDoorY07
set_option linter.all false
set_option maxHeartbeats 1500000
set_option maxRecDepth 100000
namespace Go.Proofs.YtggbjdmpjidhgaaGreatDoor
open Go.RowKit Go.Proofs.Tryz
variable{w w':World}{p B x y:Nat}{h:GH}{G:Gr}{ts:List Tk}{A Ar:Option Addr}{xs q cs:List Value}{L s:ByteArray}{rs:List ByteArray}{o:Obj}{done:List Prd}{T:Int->Nat->Nat}
theorem rf_skip7(A:Option Addr)(n c i:Nat)(xs:List Nat)(w:World)(h:Zq .u8 w A n c xs)(a:∀x∈xs,x<256)(k:n<=100000)(hi:i<n)(l:Ci xs i=true):
 Calls prog 185 #[.slice A n c,.int .i64 (i:Int)] w λe w'=>e = .returned (.tuple #[.int .i64 ((if Jv (xs.getD i 0) then i+1 else i:Nat):Int),.bool (Jv (xs.getD i 0))])/\w=w':=by
 obtain rfl:=h.len;have G:=h.cap;unfold Ci at l;simp only[AS,Bool.not_eq_true',BM,ne_eq] at l;obtain⟨⟨⟨⟨o,p⟩,q⟩,v⟩,y⟩:=l;have c1:=F3 A xs.length c i xs [47,42] w h a AC k AA AC;have c2:=F3 A xs.length c i xs [47,47] w h a AC k AA AC;have c3:=F3 A xs.length c i xs [37,123] w h a AC k AA AC;rw[o] at c1;rw[p] at c2;rw[q] at c3;rw[show str [47,42]=⟨#[47,42]⟩ from rfl] at c1;rw[show str [47,47]=⟨#[47,47]⟩ from rfl] at c2;rw[show str [37,123]=⟨#[37,123]⟩ from rfl] at c3;obtain⟨b,H,x,rfl,E,Hx,F⟩:=h.get hi;have r:xs.getD i 0=x:=by rw[AP,Hx.out];rfl
 rw[r] at v y ⊢;have s:=LH c1;have t:=LH c2;have u:=LH c3;clear c1 c2 c3 o p q h a r;have B:((x:Int)==60)=false:=by rw[AQ];omega
 have D:((x:Int)==123)=false:=by rw[AQ];omega
 have z:x=32\/x=9\/x=10\/x=13\/(((x:Int)==32)=false/\((x:Int)==9)=false/\((x:Int)==10)=false/\((x:Int)==13)=false/\Jv x=false):=by
  by_cases d:x=32
  ·exact .inl d
  by_cases f:x=9
  ·exact .inr (.inl f)
  by_cases g:x=10
  ·exact .inr (.inr (.inl g))
  by_cases j:x=13
  ·exact .inr (.inr (.inr (.inl j)))
  refine .inr (.inr (.inr (.inr ⟨?_,?_,?_,?_,by simp[Jv,d,f,g,j]⟩))) <;> (rw[AQ];omega)
 rcases z with rfl | rfl | rfl | rfl | ⟨d,f,g,j,m⟩;all_goals
  first
   | rw[m,if_neg DB]
   | rw[show Jv 32=true from rfl,if_pos rfl]
   | rw[show Jv 9=true from rfl,if_pos rfl]
   | rw[show Jv 10=true from rfl,if_pos rfl]
   | rw[show Jv 13=true from rfl,if_pos rfl]
  go_enter func185,ntmps185;go_wp2_with (first
   | (go_at_call 216;(with_reducible refine s.out.mono ?_);rintro e I⟨rfl,rfl⟩)
   | (go_at_call 216;(with_reducible refine t.out.mono ?_);rintro e J⟨rfl,rfl⟩)
   | (go_at_call 216;(with_reducible refine u.out.mono ?_);rintro e L⟨rfl,rfl⟩))
  refine AW (results_tmp2 rfl _ _ _) rfl ?_;exact⟨by first | rfl | (simp[Jv];done) | (simp[m];done),rfl⟩
theorem rf_one_mark(A:Option Addr)(n c i:Nat)(xs:List Nat)(w:World)(h:Zq .u8 w A n c xs)(j:∀x∈xs,x<256)(z:n<=100000)(hi:i<n)(d:Xf (xs.getD i 0)=false)(o:xs.getD i 0≠39)(q:Bz xs i [37,37]=false)(r:xs.getD i 0≠37)(f:L0 (xs.getD i 0)≠0):
 Calls prog 187 #[.slice A n c,.int .i64 (i:Int)] w λe w'=>e = .returned (.tuple #[TokV (L0 (xs.getD i 0)) [] (atP xs i),.int .i64 ((i+1:Nat):Int),.int .i64 0])/\Below w w w':=by
 obtain rfl:=h.len;have R:=h.cap;obtain⟨b,D,x,rfl,N,Hx,O⟩:=h.get hi;have B:xs.getD i 0=x:=by rw[AP,Hx];rfl
 rw[B] at d o r f ⊢;have H:=LH h;have CT:=LH λW (g:Below w w W)=>B0 (some ⟨b,D,none⟩) xs.length c xs (i:Int) W (h.below g) z;have CH:=LH λW (g:Below w w W)=>(F3 (some ⟨b,D,none⟩) xs.length c i xs [37,37] W (h.below g) j AC z AA AC);rw[q,show str [37,37]=⟨#[37,37]⟩ from rfl] at CH;have I:x<256:=j x (AM Hx);have l:=LH λW=>K6 x W I;rw[d] at l;have E:=LH λW=>rf_mark7 x W;obtain⟨F,G,t⟩:∃a b,atP xs (i:Int) = .complex .f64 a b:=by
  unfold atP PV;split
  ·exact⟨_,_,rfl⟩
  exact⟨_,_,rfl⟩
 rw[t] at CT ⊢;have J:((x:Int)==39)=false:=by rw[AQ];omega
 have L:((x:Int)==37)=false:=by rw[AQ];omega
 have M:(L0 x==0)=false:=by rw[AQ];exact f
 generalize L0 x=mk at *;clear h j d o q r f B t;have s:=Zy w (.cells #[.int .i64 0,.string ⟨#[]⟩,.complex .f64 0 0] 231);have S:∀(w:World) (a:Addr) (k:FloatKind) (x y:Nat) (m:Mode),(store a (.complex k x y) m).run prog w=stored prog w a (.complex k x y) m:=λw a k x y m=>run_store prog w a _ m rfl;go_enter func187,ntmps187;go_wp2_with (first
  | (go_at_call 186;refine (CT.out _ s).mono ?_;rintro e T⟨rfl,rfl⟩)
  | (go_at_call 173;refine (l.out _).mono ?_;rintro e U⟨rfl,rfl⟩)
  | (go_at_call 216;refine (CH.out _ (Zo s _)).mono ?_;rintro e V⟨rfl,rfl⟩)
  | (go_at_call 223;refine (E.out _).mono ?_;rintro e X⟨rfl,rfl⟩))
 refine AW (Yu (p:=4) (u:=5) (v:=6) AB _ _ w 231 #[.int .i64 mk,.string ⟨#[]⟩,.complex .f64 F G] (0,0) _ rfl (Blk.ext (Blk.new w _ _) (Zy _ _)) underlying231 rfl AB) rfl ?_;exact⟨rfl,Zo (Zy _ _) _⟩
theorem rf_one_cut(A:Option Addr)(n c i:Nat)(xs:List Nat)(w:World)(h:Zq .u8 w A n c xs)(g:∀x∈xs,x<256)(s:n<=100000)(hi:i<n)(d:Xf (xs.getD i 0)=false)(l:xs.getD i 0≠39)(o:Bz xs i [37,37]=true):
 Calls prog 187 #[.slice A n c,.int .i64 (i:Int)] w λe w'=>e = .returned (.tuple #[TokV 9 [] (atP xs i),.int .i64 ((i+2:Nat):Int),.int .i64 0])/\Below w w w':=by
 obtain rfl:=h.len;have J:=h.cap;obtain⟨b,z,x,rfl,G,Hx,I⟩:=h.get hi;have t:xs.getD i 0=x:=by rw[AP,Hx];rfl
 rw[t] at d l;have H:=LH h;have CT:=LH λW (f:Below w w W)=>B0 (some ⟨b,z,none⟩) xs.length c xs (i:Int) W (h.below f) s;have CH:=LH λW (f:Below w w W)=>(F3 (some ⟨b,z,none⟩) xs.length c i xs [37,37] W (h.below f) g AC s AA AC);rw[o,show str [37,37]=⟨#[37,37]⟩ from rfl] at CH;have E:x<256:=g x (AM Hx);have j:=LH λW=>K6 x W E;rw[d] at j;obtain⟨B,D,r⟩:∃a b,atP xs (i:Int) = .complex .f64 a b:=by
  unfold atP PV;split
  ·exact⟨_,_,rfl⟩
  exact⟨_,_,rfl⟩
 rw[r] at CT ⊢;have F:((x:Int)==39)=false:=by rw[AQ];omega
 clear h g d l o t r;have q:=Zy w (.cells #[.int .i64 0,.string ⟨#[]⟩,.complex .f64 0 0] 231);have L:∀(w:World) (a:Addr) (k:FloatKind) (x y:Nat) (m:Mode),(store a (.complex k x y) m).run prog w=stored prog w a (.complex k x y) m:=λw a k x y m=>run_store prog w a _ m rfl;go_enter func187,ntmps187;go_wp2_with (first
  | (go_at_call 186;refine (CT.out _ q).mono ?_;rintro e M⟨rfl,rfl⟩)
  | (go_at_call 173;refine (j.out _).mono ?_;rintro e N⟨rfl,rfl⟩)
  | (go_at_call 216;refine (CH.out _ (Zo q _)).mono ?_;rintro e O⟨rfl,rfl⟩))
 refine AW (Yu (p:=4) (u:=5) (v:=6) AB _ _ w 231 #[.int .i64 9,.string ⟨#[]⟩,.complex .f64 B D] (0,0) _ rfl (Blk.ext (Blk.new w _ _) (Zy _ _)) underlying231 rfl AB) rfl ?_;exact⟨rfl,Zo (Zy _ _) _⟩
theorem rf_one_name(A:Option Addr)(n c i f:Nat)(xs:List Nat)(w:World)(h:Zq .u8 w A n c xs)(I:∀x∈xs,x<256)(hn:n<=100000)(hi:i<n)(G:Xf (xs.getD i 0)=true)(ao:i<f)(ap:f<=n)(aq:f<=i+20)(S:∀k,i<k->k<f->Wa (xs.getD k 0)=true)(T:f<n->Wa (xs.getD f 0)=false):
 Calls prog 187 #[.slice A n c,.int .i64 (i:Int)] w λe w'=>e = .returned (.tuple #[TokV 1 ((xs.drop i).take (f-i)) (atP xs i),.int .i64 (f:Int),.int .i64 0])/\Below w w w':=by
 obtain rfl:=h.len;have an:=h.cap;obtain⟨b,E,x,rfl,al,Hx,hc⟩:=h.get hi;have U:xs.getD i 0=x:=by rw[AP,Hx];rfl
 rw[U] at G;have H:=LH h;have CT:=LH λW (z:Below w w W)=>B0 (some ⟨b,E,none⟩) xs.length c xs (i:Int) W (h.below z) hn;have aj:x<256:=I x (AM Hx);have N:=LH λW=>K6 x W aj;rw[G] at N;obtain⟨o,q,R⟩:∃a b,atP xs (i:Int) = .complex .f64 a b:=by
  unfold atP PV;split
  ·exact⟨_,_,rfl⟩
  exact⟨_,_,rfl⟩
 rw[R] at CT ⊢;have O:=LH I;have X:=LH S;have Y:=LH T;clear h I G U R S T;have r:=Zy w (.cells #[.int .i64 0,.string ⟨#[]⟩,.complex .f64 0 0] 231);have au:∀(w:World) (a:Addr) (k:FloatKind) (x y:Nat) (m:Mode),(store a (.complex k x y) m).run prog w=stored prog w a (.complex k x y) m:=λw a k x y m=>run_store prog w a _ m rfl;go_enter func187,ntmps187;go_wp2_with (first
  | (go_at_call 186;refine (CT.out _ r).mono ?_;rintro e w2⟨rfl,rfl⟩)
  | (go_at_call 173;refine (N.out _).mono ?_;rintro e V⟨rfl,rfl⟩))
 go_loop [9] (λv=>∃(k:Nat),i<k/\k<=f/\v = .int .i64 (k:Int)) (λv=>xs.length-(intOf v).toNat)
 case atStart=>exact⟨i+1,AA,AA,AF⟩
 obtain⟨k,ab,ar,rfl⟩:=hrel;by_cases ad:k<f
 ·obtain⟨Z,ak,y,g,_,t,aa⟩:=H.get (j:=k) AA;injection g with g;injection g with g e3;subst g e3;have D:xs.getD k 0=y:=by rw[AP,t];rfl
  have d:=X k ab ad;rw[D] at d;have s:=LH λW=>Zy7 y W (O y (AM t));rw[d] at s;have J:k<xs.length:=AA
  clear d D;go_wp2_with (go_at_call 174;refine (s.out _).mono ?_;rintro e V⟨rfl,rfl⟩);go_round
  case rel=>exact⟨k+1,AA,AA,AF⟩
  simp[intOf];omega
 obtain rfl:k=f:=AA
 by_cases J:k<xs.length
 ·obtain⟨Z,ak,y,g,_,t,aa⟩:=H.get (j:=k) J;injection g with g;injection g with g e3;subst g e3;have D:xs.getD k 0=y:=by rw[AP,t];rfl
  have d:=Y J;rw[D] at d;have s:=LH λW=>Zy7 y W (O y (AM t));rw[d] at s;clear d D;go_wp2_with (go_at_call 174;refine (s.out _).mono ?_;rintro e V⟨rfl,rfl⟩);have l:∀W,Below w w W->(convert 72 9 (.slice (some ⟨b,E+i,none⟩) (k-i) (c-i))).run prog W = .ok (.string (str ((xs.drop i).take (k-i)))) W:=λW z=>by
   have L:=(H.below z).part i (k-i) (c-i) AA AA AA;have d:((xs.drop i).take (k-i)).length=k-i:=by rw[BY,DQ];omega
   have:=Ux (P:=prog) W 72 5 9 underlying72 underlying5 underlying9 (some ⟨b,E+i,none⟩) (c-i) _ (by rw[d];exact L);rwa [d] at this
  have af:=l _ (Zo r (.cells #[.int .i64 0,.string ⟨#[]⟩,.complex .f64 o q] 231));have ag:=l _ (Zo r (.cells #[.int .i64 0,.string ⟨#[]⟩,.complex .f64 o q] 231)).drew;have ah:=l _ (Zo r (.cells #[.int .i64 1,.string ⟨#[]⟩,.complex .f64 o q] 231));have ai:=l _ (Zo r (.cells #[.int .i64 1,.string ⟨#[]⟩,.complex .f64 o q] 231)).drew;generalize B:str ((xs.drop i).take (k-i))=M at *;have F:=LH B;clear l B;go_region_with (fail)
  all_goals
   go_wp2_with fail;refine AW (Yu (p:=4) (u:=5) (v:=6) AB _ _ w 231 #[.int .i64 1,.string M,.complex .f64 o q] (0,0) _ rfl (Blk.drew (Blk.ext (Blk.new w _ _) (Zy _ _))) underlying231 rfl AB) rfl ?_;exact⟨by unfold TokV;rw[F];rfl,(Zo (Zy _ _) _).drew⟩
 go_wp2_with fail;have l:∀W,Below w w W->(convert 72 9 (.slice (some ⟨b,E+i,none⟩) (k-i) (c-i))).run prog W = .ok (.string (str ((xs.drop i).take (k-i)))) W:=λW z=>by
  have L:=(H.below z).part i (k-i) (c-i) AA AA AA;have d:((xs.drop i).take (k-i)).length=k-i:=by rw[BY,DQ];omega
  have:=Ux (P:=prog) W 72 5 9 underlying72 underlying5 underlying9 (some ⟨b,E+i,none⟩) (c-i) _ (by rw[d];exact L);rwa [d] at this
 have af:=l _ (Zo r (.cells #[.int .i64 0,.string ⟨#[]⟩,.complex .f64 o q] 231));have ag:=l _ (Zo r (.cells #[.int .i64 0,.string ⟨#[]⟩,.complex .f64 o q] 231)).drew;have ah:=l _ (Zo r (.cells #[.int .i64 1,.string ⟨#[]⟩,.complex .f64 o q] 231));have ai:=l _ (Zo r (.cells #[.int .i64 1,.string ⟨#[]⟩,.complex .f64 o q] 231)).drew;generalize B:str ((xs.drop i).take (k-i))=M at *;have F:=LH B;clear l B;go_region_with (fail)
 all_goals
  go_wp2_with fail;refine AW (Yu (p:=4) (u:=5) (v:=6) AB _ _ w 231 #[.int .i64 1,.string M,.complex .f64 o q] (0,0) _ rfl (Blk.drew (Blk.ext (Blk.new w _ _) (Zy _ _))) underlying231 rfl AB) rfl ?_;exact⟨by unfold TokV;rw[F];rfl,(Zo (Zy _ _) _).drew⟩
theorem rf_one_lit(A:Option Addr)(n c i:Nat)(xs:List Nat)(w:World)(h:Zq .u8 w A n c xs)(q:∀x∈xs,x<256)(N:n<=100000)(hi:i+3<=n)(z:xs.getD i 0=39)(B:H5 ((xs.drop i).take 3)=true):
 Calls prog 187 #[.slice A n c,.int .i64 (i:Int)] w λe w'=>e = .returned (.tuple #[TokV 2 ((xs.drop i).take 3) (atP xs i),.int .i64 ((i+3:Nat):Int),.int .i64 0])/\Below w w w':=by
 obtain rfl:=h.len;have Y:=h.cap;obtain⟨b,r,x,rfl,V,Hx,X⟩:=h.get (j:=i) AA;have I:xs.getD i 0=x:=by rw[AP,Hx];rfl
 obtain rfl:39=x:=by rw[<-I,z]
 have t:Xf 39=false:=AC
 have H:=LH h;have CT:=LH λW (o:Below w w W)=>B0 (some ⟨b,r,none⟩) xs.length c xs (i:Int) W (h.below o) N;have J:Hid (∀W,Calls prog 173 #[.int .u8 39] W λe w'=>e = .returned (.bool false)/\W=w'):=LH λW=>by
  have:=K6 39 W AC;rwa [t] at this
 obtain⟨d,f,D⟩:∃a b,atP xs (i:Int) = .complex .f64 a b:=by
  unfold atP PV;split
  ·exact⟨_,_,rfl⟩
  exact⟨_,_,rfl⟩
 rw[D] at CT ⊢;have U:=LH q;have E:∀y∈(xs.drop i).take 3,y<256:=λy R=>q y (List.mem_of_mem_drop (List.mem_of_mem_take R));have s:∀W,Calls prog 172 #[.string (str ((xs.drop i).take 3))] W λe w'=>e = .returned (.bool true)/\W=w':=λW=>by
  have:=Gb (str ((xs.drop i).take 3)) W;rwa [Vd _ E,B] at this
 have L:=LH s;clear h q t z B I D E s;have g:=Zy w (.cells #[.int .i64 0,.string ⟨#[]⟩,.complex .f64 0 0] 231);have ae:∀(w:World) (a:Addr) (k:FloatKind) (x y:Nat) (m:Mode),(store a (.complex k x y) m).run prog w=stored prog w a (.complex k x y) m:=λw a k x y m=>run_store prog w a _ m rfl;go_enter func187,ntmps187;go_wp2_with (first
  | (go_at_call 186;refine (CT.out _ g).mono ?_;rintro e w2⟨rfl,rfl⟩)
  | (go_at_call 173;refine (J.out _).mono ?_;rintro e T⟨rfl,rfl⟩))
 have l:∀W,Below w w W->(convert 72 9 (.slice (some ⟨b,r+i,none⟩) 3 (c-i))).run prog W = .ok (.string (str ((xs.drop i).take 3))) W:=λW o=>by
  have O:=(H.below o).part i 3 (c-i) AA AA AA;have F:((xs.drop i).take 3).length=3:=by rw[BY,DQ];omega
  have:=Ux (P:=prog) W 72 5 9 underlying72 underlying5 underlying9 (some ⟨b,r+i,none⟩) (c-i) _ (by rw[F];exact O);rwa [F] at this
 have Z:=l _ (Zo g (.cells #[.int .i64 0,.string ⟨#[]⟩,.complex .f64 d f] 231));have aa:=l _ (Zo g (.cells #[.int .i64 0,.string ⟨#[]⟩,.complex .f64 d f] 231)).drew;have ab:=l _ (Zo g (.cells #[.int .i64 2,.string ⟨#[]⟩,.complex .f64 d f] 231));have ad:=l _ (Zo g (.cells #[.int .i64 2,.string ⟨#[]⟩,.complex .f64 d f] 231)).drew;generalize G:str ((xs.drop i).take 3)=S at *;have M:=LH G;have s2:IntKind.i64.wrap ((i:Int)+3)=(i:Int)+3:=BS _ AA;have s3:(i:Int)+3<=(xs.length:Int):=AA
 have s4:((i:Int)+3).toNat=i+3:=AA
 have s5:(0:Int)<=(i:Int)+3:=AA
 have s6:(i:Int)<=(i:Int)+3:=AA
 have s7:i+3-i=3:=AA
 have s8:(i:Int)+3<=(c:Int):=AA
 clear l G;go_loop [10] (λv=>v = .int .i64 3) (λ_=>0)
 case atStart=>rfl
 subst hrel;go_wp2_with (go_at_call 172;refine (L.out _).mono ?_;rintro e T⟨rfl,rfl⟩);go_region_with (fail)
 all_goals
  go_wp2_with fail;refine AW (Yu (p:=4) (u:=5) (v:=6) AB _ _ w 231 #[.int .i64 2,.string S,.complex .f64 d f] (0,0) _ rfl (Blk.drew (Blk.ext (Blk.new w _ _) (Zy _ _))) underlying231 rfl AB) rfl ?_;exact⟨by unfold TokV;rw[M];rfl,(Zo (Zy _ _) _).drew⟩
theorem Wk.grAt(k:Wk w p B h G):Yf w h G:=by
 obtain⟨cs,a,b⟩:=k.r3;exact⟨Cr k.r1,Yl k.r2,Cn a b,k.wf⟩
theorem Wk.grAt_ahead(k:Wk w p B h G)(l:w.heap.size<=w'.heap.size)(d:∀b,b<w.heap.size->p<b->w'.heap[b]? = w.heap[b]?):Yf w' h G:=by
 obtain⟨cs,g,j⟩:=k.r3;exact⟨Cr (Yq k.r1 λb a _ c=>d b c a),Yl (Yq k.r2 λb a _ c=>d b c a),Cn (Yq g λb a _ c=>d b c a) (j.keep l λb a f=>⟨d b a f.2.2,f⟩),k.wf⟩
theorem Wc.parts(h:Wc w p ts):∃A c x y b d,Kq w p A ts.length c ts/\p<w.heap.size/\Blk w p 236 #[.slice A ts.length c,.complex .f64 x y,.complex .f64 b d,.int .i64 0] /\
 w.cell? ⟨p,0,none⟩=some (.slice A ts.length c)/\w.cell? ⟨p,1,none⟩=some (.complex .f64 x y)/\w.cell? ⟨p,2,none⟩=some (.complex .f64 b d)/\w.cell? ⟨p,3,none⟩=some (.int .i64 0):=by
 obtain⟨g,A,c,x,y,b,d,a,f⟩:=h;exact⟨A,c,x,y,b,d,f,a.lt,a,by rw[a.cell];rfl,by rw[a.cell];rfl,by rw[a.cell];rfl,by rw[a.cell];rfl⟩
theorem Ztg(p:Nat)(ts:List Tk)(w:World)(h:Wc w p ts):
 Calls prog 191 #[.pointer (some ⟨p,0,none⟩)] w λe w'=>e = .returned (.int .i64 (Qy ts))/\w=w':=by
 have g:=h.len;obtain⟨A,c,x,y,G,I,a,u,f,l,z,B,C⟩:=h.parts;cases ts with
 | nil =>
   clear h a f;go_enter func191,ntmps191;go_wp2_with fail;go_ret;exact⟨rfl,rfl⟩
 | cons t ts =>
   obtain⟨b,v,H,J,rfl,m,q,D,E,F⟩:=a.head;show Calls _ _ _ _ λe w'=>e = .returned (.int .i64 t.1)/\w=w';obtain⟨n,d⟩:∃n,(t::ts).length=n:=⟨_,rfl⟩;have r:0<n:=by rw[<-d];simp
   have j:=a.2.1;have o:=a.2.2.1;rw[d] at l g j;generalize t.1=k at *;generalize t.2=s at *;clear h a f d;go_enter func191,ntmps191;go_wp2_with fail;go_ret;exact⟨rfl,rfl⟩
theorem rd_is(p:Nat)(a b:Int)(ts:List Tk)(w:World)(h:Wc w p ts):
 Calls prog 225 #[.pointer (some ⟨p,0,none⟩),.int .i64 a,.int .i64 b] w λe w'=>e = .returned (.bool (isP a b ts))/\w=w':=by
 have q:=h.len;have g:=LH (Ztg p ts w h);obtain⟨A,c,x,y,F,G,f,B,l,s,C,D,E⟩:=h.parts;cases ts with
 | nil =>
   clear h f l;go_enter func225,ntmps225;go_wp2_with fail;go_ret;exact⟨rfl,rfl⟩
 | cons t ts =>
   obtain⟨n,j⟩:∃n,(t::ts).length=n:=⟨_,rfl⟩;have z:0<n:=by rw[<-j];simp
   have r:=f.2.1;have v:=f.2.2.1;rw[j] at s q r;have hd:isP a b (t::ts)=(decide (t.1=a) || decide (t.1=b)):=rfl;have m:Qy (t::ts)=t.1:=rfl;rw[hd];rw[m] at g;generalize t.1=k at *;clear h f l j hd m;by_cases d:k=a
   ·have o:(k==a)=true:=by simp[d]
    rw[show (decide (k=a) || decide (k=b))=true by simp[d]];clear d;go_enter func225,ntmps225;go_wp2_with (go_at_call 191;refine g.out.mono ?_;rintro e u⟨rfl,rfl⟩);go_ret;exact⟨rfl,rfl⟩
   have o:(k==a)=false:=by rw[AQ];exact d
   rw[show (decide (k=a) || decide (k=b))=(k==b) by rw[BZ];simp[d]];clear d;go_enter func225,ntmps225;go_wp2_with (go_at_call 191;refine g.out.mono ?_;rintro e u⟨rfl,rfl⟩);go_ret;exact⟨rfl,rfl⟩
theorem rf_one(A:Option Addr)(n c i:Nat)(xs:List Nat)(w:World)(h:Zq .u8 w A n c xs)(f:∀x∈xs,x<256)(g:n<=100000)(hi:i<n)(t:Af)(j:Nat)(a:oneP xs i=some (t,j)):
 Calls prog 187 #[.slice A n c,.int .i64 (i:Int)] w λe w'=>e = .returned (.tuple #[TokV t.kind t.text (atP xs i),.int .i64 (j:Int),.int .i64 0])/\Below w w w':=by
 have v:=h.len;unfold oneP at a;by_cases h1:Xf (xs.getD i 0)=true
 ·rw[if_pos h1] at a;split at a
  ·rename_i q;simp only[BR,DM] at a;obtain⟨rfl,rfl⟩:=a;have:=Zu3 Wa (xs.drop (i+1));rw[DQ] at this;refine rf_one_name A n c i (Kk xs i) xs w h f g hi h1 (by unfold Kk;omega) (by unfold Kk;omega) q (λk u r=>?_) (λs=>?_)
   ·have:=tw_in Wa (xs.drop (i+1)) (k-(i+1)) (by unfold Kk at r;omega);rw[F0,show i+1+(k-(i+1))=k by omega] at this;exact this
   have:=tw_out Wa (xs.drop (i+1)) (by rw[DQ];unfold Kk at s;omega);rw[F0] at this;exact this
  cases a
 rw[if_neg h1] at a;have l:Xf (xs.getD i 0)=false:=by simpa using h1
 by_cases b:xs.getD i 0=39
 ·rw[if_pos b] at a;split at a
  ·rename_i m;simp only[AS,decide_eq_true_eq] at m;simp only[BR,DM] at a;obtain⟨rfl,rfl⟩:=a;exact rf_one_lit A n c i xs w h f g AA b m.1
  cases a
 rw[if_neg b] at a;by_cases d:Bz xs i [37,37]=true
 ·rw[if_pos d] at a;simp only[BR,DM] at a;obtain⟨rfl,rfl⟩:=a;exact rf_one_cut A n c i xs w h f g hi l b d
 rw[if_neg d] at a;split at a
 ·cases a
 rename_i o;split at a
 ·cases a
 rename_i p;simp only[BR,DM] at a;obtain⟨rfl,rfl⟩:=a;exact rf_one_mark A n c i xs w h f g hi l b (by simpa using d) o p
theorem Wc.rem(h:Wc w p ts):Zyp w p=ts.length:=by
 obtain⟨A,c,x,y,l,m,f,d,b,a,g,j,k⟩:=h.parts;unfold Zyp;rw[a]
theorem Wc.app{base e size n c:Nat}(h:Wc w p ts)(a:w.grownBy w' (Value.slice A n c).ownBlock)(d:w.ownsRow base e size (.slice A n c) n xs)(g:p<base):Wc w' p ts :=
 h.keep a.size λk f b=>a.block k b λe=>by have:=(d.lt k e.symm).1;omega
theorem rd_decls(p:Nat)(ts:List Tk)(w:World)(h:Wc w p ts)(a:Qy ts=9):
 Calls prog 188 #[.pointer (some ⟨p,0,none⟩)] w λe w'=>e = .returned (.slice none 0 0)/\w=w':=by
 have g:=h.len;have b:=LH (Ztg p ts w h);rw[a] at b;obtain⟨A,c,x,y,u,v,f,k,d,l,m,q,r⟩:=h.parts;have j:0<ts.length:=by
  cases ts with
  | nil=>cases a
  | cons t ts=>simp
 generalize ts.length=n at *;clear h f d a;go_enter func188,ntmps188;go_wp2_with fail;go_loopw [3] (λo wr=>o = .slice none 0 0/\wr=w) (λ_ _=>0)
 case atStart=>exact⟨rfl,rfl⟩
 obtain⟨rfl,rfl⟩:=hrel;go_wp2_with (go_at_call 191;refine b.out.mono ?_;rintro e s⟨rfl,rfl⟩);go_ret;exact⟨rfl,rfl⟩
theorem Zyt.early{wr c:World}{cr:Nat}{r:List Tk}{s:TypeId}(D:p<wr.heap.size)(f:(wr.alloc o).drew.grownBy c (some p))(n:c.ownsRow (wr.alloc o).drew.heap.size s 2 (.slice Ar rs.length cr) rs.length q)(B:Gi q rs)(A:Wc c p r)(u:Blk c wr 199 #[.string ⟨#[]⟩,.complex .f64 0 0,.slice none 0 0,.string ⟨#[]⟩,.complex .f64 0 0]):
 Zyt wr (((((c.setCell ⟨wr,0,none⟩ (.string L)).setCell ⟨wr,1,none⟩ (.complex .f64 x y)).setCell ⟨wr,2,none⟩ (.slice Ar rs.length cr)).setCell ⟨wr,3,none⟩ (.string ⟨#[]⟩)).setCell ⟨wr,4,none⟩ (.complex .f64 0 0)) p wr Ar cr L x y rs r:=by
 have a:c.grownBy (((((c.setCell ⟨wr,0,none⟩ (.string L)).setCell ⟨wr,1,none⟩ (.complex .f64 x y)).setCell ⟨wr,2,none⟩ (.slice Ar rs.length cr)).setCell ⟨wr,3,none⟩ (.string ⟨#[]⟩)).setCell ⟨wr,4,none⟩ (.complex .f64 0 0)) (some wr) :=
  Zc (Zc (Zc (Zc (Zd _ _ _ _) (Zd _ _ _ _)) (Zd _ _ _ _)) (Zd _ _ _ _)) (Zd _ _ _ _)
 have v:=(((((u.set 0 (.string L)).set 1 (.complex .f64 x y)).set 2 (.slice Ar rs.length cr)).set 3 (.string ⟨#[]⟩)).set 4 (.complex .f64 0 0));have l:(wr.alloc o).drew.heap.size=wr.heap.size+1:=Zl wr o;have C:wr.heap.size+1<=c.heap.size:=by rw[<-l];exact f.size
 have m:∀b d,Ar=some ⟨b,d,none⟩->wr.heap.size+1<=b/\b<c.heap.size:=λb d h=>by
  have h1:=n.lt b (by rw[h];rfl);rwa [l] at h1
 refine⟨AJ _,v,(own_rfs n B).keep a.size λb d h z=>a.block b z λe=>?_,λb d h=>?_,A.keep a.size λk h1 t=>a.block k t λe=>?_,?_⟩
 ·injection e with e;have:=(m b d h).1;omega
 ·have:=m b d h;exact⟨AA,AK this.2 a.size⟩
 ·injection e with e;omega
 have h1:wr.grownBy c (some p):=by
  refine⟨f.os,f.tape,f.output,AA,λk g j=>?_⟩;exact (f.block k (by rw[l];omega) j).trans ((Zy wr o).block k g)
 refine⟨a.os.trans h1.os,a.tape.trans h1.tape,a.output.trans h1.output,BD h1.size a.size,λk g j=>?_⟩;rw[a.block k AA (λe=>by injection e with e;omega),h1.block k g j]
theorem Zs9{g wr t n:World}{d c cr v G:Nat}{u:Option Addr}{e:TypeId}{D:List Tk}(J:p<g.heap.size)(j:g.grownBy wr (some p))(F:wr.ownsRow g e 5 (.slice A d c) d cs)(E:Vu wr (λb=>g.heap.size<=b/\(Value.slice A d c).ownBlock≠some b) cs done)(a:Zyt wr t p G Ar cr L x y rs D)(f:t.grownBy n (Value.slice A d c).ownBlock)(z:∀b,(Value.slice u (d+1) v).ownBlock=some b->b<t.heap.size->(Value.slice A d c).ownBlock=some b):
 Vu n (λb=>g.heap.size<=b/\(Value.slice u (d+1) v).ownBlock≠some b) (cs++[.string L,.complex .f64 x y,.slice Ar rs.length cr,.string ⟨#[]⟩,.complex .f64 0 0]) (done++[⟨L,rs,⟨#[]⟩⟩])/\g.grownBy n (some p)/\Wc n p D:=by
 have M:=j.size;have N:=a.gr.size;have C:=f.size;have m:∀b,(Value.slice A d c).ownBlock=some b->g.heap.size<=b/\b<wr.heap.size:=λb h=>F.lt b h;refine⟨Vu.app (E.keep AA λk r H=>?_) (Vu.one ⟨L,rs,⟨#[]⟩⟩ x y 0 0 ?_ λb s q=>?_),?_,?_⟩
 ·obtain⟨h1,l⟩:=H;refine⟨?_,h1,λo=>l (z k o AA)⟩;rw[f.block k AA (λh=>l h.symm),a.gr.block k r (λh=>by injection h with h;omega)]
 ·refine a.row.keep C λb s q I=>f.block b I λh=>?_;have:=(a.fresh b s q).1;have:=(m b h.symm).2;omega
 ·have h1:=a.fresh b s q;refine⟨AA,AA,λo=>?_⟩;have:=(m b (z b o AA)).2;omega
 ·refine⟨f.os.trans (a.gr.os.trans j.os),f.tape.trans (a.gr.tape.trans j.tape),f.output.trans (a.gr.output.trans j.output),AA,λk r B=>?_⟩;rw[f.block k AA (λh=>by have:=(m k h.symm).1;omega),a.gr.block k AA B,j.block k r B]
 exact a.rd.keep C λk h1 l=>f.block k l λh=>by have:=(m k h.symm).1;omega
theorem Bl(s k:Nat)(w:World)(a:s<4294967296):Calls prog 62 #[.int .u32 (s:Int),.int .i64 (k:Int)] w λe w'=>e = .returned (.bool (s.testBit k))/\w=w' :=
 (ref_has s k w a).mono λe w' h=>by rw[hasN_nat a] at h;exact h
def chkT(G:Gr)(a:List Nat)(tab:Nat->Nat->Nat)(n:Nat):Bool :=
 (List.range (n+1)).all λm=>(List.range a.length).all λp=>Nat.beq (Yc (Yk (B6 tab a m p)) G.rules (a.getD p 0) m) (tab m (a.getD p 0))
def chkO(G:Gr)(a:List Nat):Bool :=
 (List.range G.nons.length).all (λi=>a.contains i)&&a.all (λi=>decide (i<G.nons.length)) &&
   (List.range a.length).all λp=>(List.range G.nons.length).all λt=>!((Yz G).getD (a.getD p 0) 0).testBit t || (a.take p).contains t
theorem Bt(g:G.Fits){a:List Nat}(h:chkO G a=true):Ni G a:=by
 unfold chkO at h;simp only[AS,BG,BP,decide_eq_true_eq,List.contains_iff_mem,BX,Bool.not_eq_true'] at h;obtain⟨⟨h1,d⟩,f⟩:=h;refine⟨d,λp i hi t b=>?_,λi hi=>h1 i hi⟩;have j:p<a.length:=(AO.1 hi).1;have e:a.getD p 0=i:=by rw[AP,hi];rfl
 have c:=Au G g i t b;rw[Wh] at c;rcases f p j t c with h | h
 ·rw[e,b] at h;cases h
 exact h
theorem Wk.lens(k:Wk w p B h G):G.terms.length=h.n1/\G.nons.length=h.n2/\G.rules.length=h.n3:=⟨k.grAt.terms.len,k.grAt.nons.len,k.grAt.rules.len⟩
theorem Cm{b:Bool}{a:Gr}{i:Int}(h:Nl b G s=some (i,a))(h1:G.terms.length<=24)(c:G.nons.length<=16):a.nons=G.nons/\a.rules=G.rules/\a.start=G.start/\-17<=i/\i<=24:=by
 rcases Bu h with ⟨h0,_,rfl,rfl⟩ | ⟨_,h0,_⟩
 ·have d:=(U9 (λt=>decide (t=s)) a.nons).2;have f:a.non s=Y8 (λt=>decide (t=s)) a.nons:=rfl;exact⟨rfl,rfl,rfl,AA,AA⟩
 exact termP_keep h0 h1
theorem Zwr.early{W a:World}{n:Int}(c:Below (W.alloc o).drew.heap.size (W.alloc o).drew a)(b:Blk a W 52 #[.int .i64 0,.slice none 0 0,.int .i64 0]):
 Zwr W (((a.setCell ⟨W,0,none⟩ (.int .i64 n)).setCell ⟨W,1,none⟩ (.slice none 0 0)).setCell ⟨W,2,none⟩ (.int .i64 (-1))) W n:=by
 have h1:Below W W a:=Zz ((Zy W o).drew) c;exact⟨AJ _,((b.set 0 (.int .i64 n)).set 1 (.slice none 0 0)).set 2 (.int .i64 (-1)),Zg (Zg (Zg h1 _ _ _ (AJ _)) _ _ _ (AJ _)) _ _ _ (AJ _)⟩
def readC(xs:List Nat):Option Gr :=
 match Ml xs (xs.length+1) 0 with
 | none=>none
 | some ts=>if Dd ts<2/\ts.length<=4000 then (match srcP (ts.length+1) (ts.map Zyr) with
   | none=>none
   | some ps=>if ps.length<=4000/\(ps.all λq=>decide (q.right.length<=4000))=true then Zwy ps else none) else none
theorem read22A:readC Zyh=some Xt:=AB
theorem ord22A:chkO Xt [0]=true:=AB
theorem chk22A:chkT Xt [0] tab22A 4=true:=AB
theorem Bg(a:G.Fits){x:Rul}(d:x∈G.rules){n:Nat}(f:n<=10):J1 x.right n/\∀s∈x.right,G.has s=true:=by
 have h1:=a.sym x d;have g:=a.n2;have j:=a.n1;refine⟨⟨λs b=>⟨by have:=(h1 s b).1;omega,by have:=(h1 s b).2;omega⟩,a.len x d,f⟩,λs b=>?_⟩;have:=h1 s b;unfold Gr.has;split <;> (rw[BB];omega)
theorem Zvu{a b:Nat}(c:a<big)(d:b<big):Vq (limbs a) (limbs b)=Vm a b:=by
 simp[Vq,Ym a c,Ym b d,Yd]
theorem Bk(m:x≠0)(o:y≠0):∃d g,N9 (Vk x).1 (Vk y).1=(d,g)/\∀(w:World) (A:Option Addr) (c:Nat),Zq .u32 w A d.length c d->Z1 w A d.length c ((Vk x).2 || ((Vk y).2 || ((g:Int) != 0))) (x*y):=by
 have n:x<=x*y:=Nat.le_mul_of_pos_right x AA;have p:y<=x*y:=Nat.le_mul_of_pos_left y AA;have f:Zm ([]:List Nat)=true:=AC
 have k:val ([]:List Nat)=0:=rfl;have l:0<big:=Zsx;have j:Xm 0=([],0):=by unfold Xm;rw[if_pos l,BL (Lq.2 rfl)]
 by_cases h1:x<big
 ·by_cases b:y<big
  ·rw[Z7 h1,Z7 b,Nw x y h1 b];rcases F8 (x*y) with ⟨a,e⟩ | ⟨a,e⟩
   ·exact⟨_,_,e,λw A c h=>⟨by rw[Z7 a];rfl,by rw[Z7 a];exact h⟩⟩
   exact⟨_,_,e,λw A c h=>⟨by rw[Wl a];rfl,by rw[Wl a];exact h⟩⟩
  have a:¬x*y<big:=AA
  rw[Z7 h1,Wl b];refine⟨[],0,by simp[N9,f,k,j,Ym x h1],λw A c h=>⟨by rw[Wl a];rfl,by rw[Wl a];exact h⟩⟩
 have a:¬x*y<big:=AA
 rw[Wl h1];refine⟨[],0,?_,λw A c h=>⟨by rw[Wl a];rfl,by rw[Wl a];exact h⟩⟩;have:Zm (Vk y).1=true:=by
  by_cases b:y<big
  ·rw[Z7 b];exact Ym y b
  rw[Wl b];exact f
 simp[N9,f,k,j,this]
def RetMake(G:Gr)(n:Nat)(w:World)(e:Ending)(w':World):Prop:=Below w.heap.size w w'/\∃A c tab,e = .returned (.slice A (n+1) c)/\Zyq w' A (n+1) c G.nons.length tab/\∀k,k<=n->∀i,i<G.nons.length->tab k i=Zv G (-1-(i:Int)) k
theorem rulesT_take{a:List Rul}{k:Nat}{r:Rul}(b:a[k]? = some r)(i n:Nat):Yc T (a.take (k+1)) i n=Yc T (a.take k) i n+(if r.left.toNat=i then Zx T r.right n else 0):=by
 rw[CX,b];exact Gg T _ r i n
section
open Go.RowKit Go.Shelf
attribute [local go_sem] Oper.semAt_some
open Go.RowKit Go.Shelf Go.Sort
theorem Cu(h:GH)(G:Gr)(w:World)(c:Yf w h G):
 Calls prog 14 #[GV h G.start] w λe w'=>e = .returned (.bool G.great)/\Below w w w':=by
 obtain⟨a1,n1,c1,a2,n2,c2,a3,n3,c3⟩:=h;have E:Dv w a3 n3 c3 G.rules:=c.rules;have p:G.terms.length=n1:=c.terms.len;have q:G.nons.length=n2:=c.nons.len;have z:G.rules.length=n3:=c.rules.len;have L:n1<=c1/\c1<=9223372036854775807:=c.terms.cap;have M:n2<=c2/\c2<=9223372036854775807:=c.nons.cap;have N:n3<=c3/\c3<=9223372036854775807:=c.rules.cap;have d:Hid (G.great=(decide (40<n1) || decide (40<n2) || decide (60<n3) || G.rules.any λr=>decide (20<r.right.length))):=LH (by unfold Gr.great;rw[p,q,z]);clear c p q;by_cases g:n1<=40
 case neg =>
  have a:G.great=true:=by rw[d];simp;omega
  have t:decide ((40:Int)<(n1:Int))=true:=AG
  rw[a];clear g a;go_enter func14,ntmps14;go_wp2_with fail;go_ret;exact⟨rfl,Zy _ _⟩
 have t:decide ((40:Int)<(n1:Int))=false:=AG
 by_cases s:n2<=40
 case neg =>
  have a:G.great=true:=by rw[d];simp;omega
  have u:decide ((40:Int)<(n2:Int))=true:=AG
  rw[a];clear g s a;go_enter func14,ntmps14;go_wp2_with fail;go_ret;exact⟨rfl,Zy _ _⟩
 have u:decide ((40:Int)<(n2:Int))=false:=AG
 by_cases A:n3<=60
 case neg =>
  have a:G.great=true:=by rw[d];simp;omega
  have v:decide ((60:Int)<(n3:Int))=true:=AG
  rw[a];clear g s A a;go_enter func14,ntmps14;go_wp2_with fail;go_ret;exact⟨rfl,Zy _ _⟩
 have v:decide ((60:Int)<(n3:Int))=false:=AG
 have m:Hid (G.great=G.rules.any λr=>decide (20<r.right.length)):=LH (by rw[d];simp;omega);clear d;go_enter func14,ntmps14;go_wp2_with fail;go_loop [3] (λi=>∃k:Nat,k<=n3/\i = .int .i64 (k:Int)/\Hid (∀j,j<k->∀y,G.rules[j]? = some y->decide (20<y.right.length)=false)) (λi=>n3-(intOf i).toNat)
 case atStart=>exact⟨0,AV _,rfl,LH λj l=>AA⟩
 obtain⟨k,J,rfl,n⟩:=hrel;by_cases B:k<n3
 ·obtain⟨b,O,r,Ar,cr,rfl,H,o,P,R,S,hi⟩:=E.get B;have I:=hi.cap;by_cases D:20<r.right.length
  ·have f:Hid (G.great=true):=LH (by rw[m,Er];exact⟨r,AM o,by simp[D]⟩);have C:decide ((20:Int)<(r.right.length:Int))=true:=AG
   go_wp2_with fail;go_ret;exact⟨by rw[f];rfl,Zy _ _⟩
  have C:decide ((20:Int)<(r.right.length:Int))=false:=AG
  go_wp2_with fail;go_round
  case rel=>exact⟨k+1,AA,AF,LH (Vz n o AG)⟩
  simp[intOf];omega
 obtain rfl:k=n3:=AA
 have f:Hid (G.great=false):=LH (by
  rw[m,List.any_eq_false];intro x F;obtain⟨j,l⟩:=BT F;have:=n j (by have:=(AO.1 l).1;omega) x l;simpa using this)
 go_wp2_with fail;go_ret;exact⟨by rw[f];rfl,Zy _ _⟩
end
