/- A region that draws its order: quiet in a class of worlds but for its last operations, which stand in one order: one walk serves. -/
import Derived.Test.YtggbjdmpjidhgaaGreatDoorV28
set_option linter.all false
set_option maxHeartbeats 1500000
set_option maxRecDepth 100000
namespace Go.Proofs.YtggbjdmpjidhgaaGreatDoor
open Go.RowKit Go.Proofs.Tryz
variable{xs:List Nat}{i:Nat}{j:Nat->Prop}{w:World}{A:Option Addr}{cs:List Value}{ps:List Prd}
def Bz(xs:List Nat)(i:Nat)(pat:List Nat):Bool:=decide (i+pat.length<=xs.length)&&decide ((xs.drop i).take pat.length=pat)
theorem F3(A:Option Addr)(n c i:Nat)(xs pat:List Nat)(w:World)(h:Zq .u8 w A n c xs)(f:∀x∈xs,x<256)(g:∀x∈pat,x<256)(z:n<=100000)(hi:i<=100000)(B:1<=pat.length/\pat.length<=100):
 Calls prog 216 #[.slice A n c,.int .i64 (i:Int),.string (str pat)] w λe w'=>e = .returned (.bool (Bz xs i pat))/\w=w':=by
 obtain rfl:=h.len;have v:=h.cap;have D:=Zs1 pat
 by_cases k:i+pat.length<=xs.length
 ·obtain⟨b,E,rfl,u,p⟩:=h.at_ AA;have j:=h.part i pat.length (c-i) AA AA AA;have l:((xs.drop i).take pat.length).length=pat.length:=by rw[BY,DC];omega
  have a:Bz xs i pat=((str ((xs.drop i).take pat.length)).toList==(str pat).toList):=by
   unfold Bz;rw[DY k,Bool.true_and,BZ,BB,BP];constructor
   ·intro h;rw[h]
   intro h;have m:str ((xs.drop i).take pat.length)=str pat:=by
    have:=Ql (str ((xs.drop i).take pat.length)) (str pat);rw[h,beq_self_eq_true] at this;simpa using this.symm
   have o:=congrArg Zh m;rwa [Vd _ λy r=>f y (List.mem_of_mem_drop (List.mem_of_mem_take r)),Vd _ g] at o
  generalize (xs.drop i).take pat.length=sub at *;rw[<-l] at j;have q:=Ux (P:=prog) w 72 5 9 underlying72 underlying5 underlying9 _ _ sub j;rw[l] at q;have d:=LH a;have s:IntKind.i64.wrap ((i:Int)+(pat.length:Int))=((i+pat.length:Nat):Int):=by rw[BT _ AA];omega
  have F:((i+pat.length:Nat):Int)<=(xs.length:Int):=AA
  clear a j p h f g;go_enter func216,ntmps216;go_wp2_with fail;go_ret;exact⟨by rw[d.out];rfl,rfl⟩
 have a:Bz xs i pat=false:=by unfold Bz;rw[BR k];rfl
 have s:IntKind.i64.wrap ((i:Int)+(pat.length:Int))=((i+pat.length:Nat):Int):=by rw[BT _ AA];omega
 have d:=LH a;have t:decide (((i+pat.length:Nat):Int)<=(xs.length:Int))=false:=by rw[AY];omega
 clear a h f g;go_enter func216,ntmps216;go_wp2_with fail;go_ret;exact⟨by rw[d.out];rfl,rfl⟩
def Ci(xs:List Nat)(i:Nat):Bool:=!Bz xs i [47,42]&&!Bz xs i [47,47]&&!Bz xs i [37,123]&&(xs.getD i 0 != 60)&&(xs.getD i 0 != 123)
theorem rf_skip7(A:Option Addr)(n c i:Nat)(xs:List Nat)(w:World)(h:Zq .u8 w A n c xs)(a:∀x∈xs,x<256)(k:n<=100000)(hi:i<n)(l:Ci xs i=true):
 Calls prog 185 #[.slice A n c,.int .i64 (i:Int)] w λe w'=>e = .returned (.tuple #[.int .i64 ((if Jv (xs.getD i 0) then i+1 else i:Nat):Int),.bool (Jv (xs.getD i 0))])/\w=w':=by
 obtain rfl:=h.len;have G:=h.cap;unfold Ci at l;simp only[AR,Bool.not_eq_true',BN,ne_eq] at l;obtain⟨⟨⟨⟨o,p⟩,q⟩,v⟩,y⟩:=l;have c1:=F3 A xs.length c i xs [47,42] w h a AC k AA AC;have c2:=F3 A xs.length c i xs [47,47] w h a AC k AA AC;have c3:=F3 A xs.length c i xs [37,123] w h a AC k AA AC;rw[o] at c1;rw[p] at c2;rw[q] at c3;rw[show str [47,42]=⟨#[47,42]⟩ from rfl] at c1;rw[show str [47,47]=⟨#[47,47]⟩ from rfl] at c2;rw[show str [37,123]=⟨#[37,123]⟩ from rfl] at c3;obtain⟨b,H,x,rfl,E,Hx,F⟩:=h.get hi;have r:xs.getD i 0=x:=by rw[AO,Hx.out];rfl
 rw[r] at v y ⊢;have s:=LH c1;have t:=LH c2;have u:=LH c3;clear c1 c2 c3 o p q h a r;have B:((x:Int)==60)=false:=by rw[AP];omega
 have D:((x:Int)==123)=false:=by rw[AP];omega
 have z:x=32\/x=9\/x=10\/x=13\/(((x:Int)==32)=false/\((x:Int)==9)=false/\((x:Int)==10)=false/\((x:Int)==13)=false/\Jv x=false):=by
  by_cases d:x=32
  ·exact .inl d
  by_cases f:x=9
  ·exact .inr (.inl f)
  by_cases g:x=10
  ·exact .inr (.inr (.inl g))
  by_cases j:x=13
  ·exact .inr (.inr (.inr (.inl j)))
  refine .inr (.inr (.inr (.inr ⟨?_,?_,?_,?_,by simp[Jv,d,f,g,j]⟩))) <;> (rw[AP];omega)
 rcases z with rfl | rfl | rfl | rfl | ⟨d,f,g,j,m⟩;all_goals
  first
   | rw[m,if_neg DE]
   | rw[show Jv 32=true from rfl,if_pos rfl]
   | rw[show Jv 9=true from rfl,if_pos rfl]
   | rw[show Jv 10=true from rfl,if_pos rfl]
   | rw[show Jv 13=true from rfl,if_pos rfl]
  go_enter func185,ntmps185;go_wp2_with (first
   | (go_at_call 216;(with_reducible refine s.out.mono ?_);rintro e I⟨rfl,rfl⟩)
   | (go_at_call 216;(with_reducible refine t.out.mono ?_);rintro e J⟨rfl,rfl⟩)
   | (go_at_call 216;(with_reducible refine u.out.mono ?_);rintro e L⟨rfl,rfl⟩))
  refine AV (results_tmp2 rfl _ _ _) rfl ?_;exact⟨by first | rfl | (simp[Jv];done) | (simp[m];done),rfl⟩
theorem rf_one_mark(A:Option Addr)(n c i:Nat)(xs:List Nat)(w:World)(h:Zq .u8 w A n c xs)(j:∀x∈xs,x<256)(z:n<=100000)(hi:i<n)(d:Xf (xs.getD i 0)=false)(o:xs.getD i 0≠39)(q:Bz xs i [37,37]=false)(r:xs.getD i 0≠37)(f:L0 (xs.getD i 0)≠0):
 Calls prog 187 #[.slice A n c,.int .i64 (i:Int)] w λe w'=>e = .returned (.tuple #[TokV (L0 (xs.getD i 0)) [] (atP xs i),.int .i64 ((i+1:Nat):Int),.int .i64 0])/\Below w w w':=by
 obtain rfl:=h.len;have R:=h.cap;obtain⟨b,D,x,rfl,N,Hx,O⟩:=h.get hi;have B:xs.getD i 0=x:=by rw[AO,Hx.out];rfl
 rw[B] at d o r f ⊢;have H:=LH h;have CT:=LH λW (g:Below w w W)=>B0 (some ⟨b,D,none⟩) xs.length c xs (i:Int) W (h.below g) z;have CH:=LH λW (g:Below w w W)=>(F3 (some ⟨b,D,none⟩) xs.length c i xs [37,37] W (h.below g) j AC z AA AC);rw[q,show str [37,37]=⟨#[37,37]⟩ from rfl] at CH;have I:x<256:=j x (AL Hx.out);have l:=LH λW=>K6 x W I;rw[d] at l;have E:=LH λW=>rf_mark7 x W;obtain⟨F,G,t⟩:∃a b,atP xs (i:Int) = .complex .f64 a b:=by
  unfold atP PV;split
  ·exact⟨_,_,rfl⟩
  exact⟨_,_,rfl⟩
 rw[t] at CT ⊢;have J:((x:Int)==39)=false:=by rw[AP];omega
 have L:((x:Int)==37)=false:=by rw[AP];omega
 have M:(L0 x==0)=false:=by rw[AP];exact f
 generalize L0 x=mk at *;clear h j d o q r f B t;have s:=Zy w (.cells #[.int .i64 0,.string ⟨#[]⟩,.complex .f64 0 0] 231);have S:∀(w:World) (a:Addr) (k:FloatKind) (x y:Nat) (m:Mode),(store a (.complex k x y) m).run prog w=stored prog w a (.complex k x y) m:=λw a k x y m=>run_store prog w a _ m rfl;go_enter func187,ntmps187;go_wp2_with (first
  | (go_at_call 186;(with_reducible refine (CT.out _ s).mono ?_);rintro e T⟨rfl,rfl⟩)
  | (go_at_call 173;(with_reducible refine (l.out _).mono ?_);rintro e U⟨rfl,rfl⟩)
  | (go_at_call 216;(with_reducible refine (CH.out _ (Zo s _)).mono ?_);rintro e V⟨rfl,rfl⟩)
  | (go_at_call 223;(with_reducible refine (E.out _).mono ?_);rintro e X⟨rfl,rfl⟩))
 refine AV (Yu (p:=4) (u:=5) (v:=6) AB _ _ w 231 #[.int .i64 mk,.string ⟨#[]⟩,.complex .f64 F G] (0,0) _ rfl (Blk.ext (Blk.new w _ _) (Zy _ _)) underlying231 rfl AB) rfl ?_;exact⟨rfl,Zo (Zy _ _) _⟩
theorem rf_one_cut(A:Option Addr)(n c i:Nat)(xs:List Nat)(w:World)(h:Zq .u8 w A n c xs)(g:∀x∈xs,x<256)(s:n<=100000)(hi:i<n)(d:Xf (xs.getD i 0)=false)(l:xs.getD i 0≠39)(o:Bz xs i [37,37]=true):
 Calls prog 187 #[.slice A n c,.int .i64 (i:Int)] w λe w'=>e = .returned (.tuple #[TokV 9 [] (atP xs i),.int .i64 ((i+2:Nat):Int),.int .i64 0])/\Below w w w':=by
 obtain rfl:=h.len;have J:=h.cap;obtain⟨b,z,x,rfl,G,Hx,I⟩:=h.get hi;have t:xs.getD i 0=x:=by rw[AO,Hx.out];rfl
 rw[t] at d l;have H:=LH h;have CT:=LH λW (f:Below w w W)=>B0 (some ⟨b,z,none⟩) xs.length c xs (i:Int) W (h.below f) s;have CH:=LH λW (f:Below w w W)=>(F3 (some ⟨b,z,none⟩) xs.length c i xs [37,37] W (h.below f) g AC s AA AC);rw[o,show str [37,37]=⟨#[37,37]⟩ from rfl] at CH;have E:x<256:=g x (AL Hx.out);have j:=LH λW=>K6 x W E;rw[d] at j;obtain⟨B,D,r⟩:∃a b,atP xs (i:Int) = .complex .f64 a b:=by
  unfold atP PV;split
  ·exact⟨_,_,rfl⟩
  exact⟨_,_,rfl⟩
 rw[r] at CT ⊢;have F:((x:Int)==39)=false:=by rw[AP];omega
 clear h g d l o t r;have q:=Zy w (.cells #[.int .i64 0,.string ⟨#[]⟩,.complex .f64 0 0] 231);have L:∀(w:World) (a:Addr) (k:FloatKind) (x y:Nat) (m:Mode),(store a (.complex k x y) m).run prog w=stored prog w a (.complex k x y) m:=λw a k x y m=>run_store prog w a _ m rfl;go_enter func187,ntmps187;go_wp2_with (first
  | (go_at_call 186;(with_reducible refine (CT.out _ q).mono ?_);rintro e M⟨rfl,rfl⟩)
  | (go_at_call 173;(with_reducible refine (j.out _).mono ?_);rintro e N⟨rfl,rfl⟩)
  | (go_at_call 216;(with_reducible refine (CH.out _ (Zo q _)).mono ?_);rintro e O⟨rfl,rfl⟩))
 refine AV (Yu (p:=4) (u:=5) (v:=6) AB _ _ w 231 #[.int .i64 9,.string ⟨#[]⟩,.complex .f64 B D] (0,0) _ rfl (Blk.ext (Blk.new w _ _) (Zy _ _)) underlying231 rfl AB) rfl ?_;exact⟨rfl,Zo (Zy _ _) _⟩
theorem rf_one_lit(A:Option Addr)(n c i:Nat)(xs:List Nat)(w:World)(h:Zq .u8 w A n c xs)(q:∀x∈xs,x<256)(N:n<=100000)(hi:i+3<=n)(z:xs.getD i 0=39)(B:H5 ((xs.drop i).take 3)=true):
 Calls prog 187 #[.slice A n c,.int .i64 (i:Int)] w λe w'=>e = .returned (.tuple #[TokV 2 ((xs.drop i).take 3) (atP xs i),.int .i64 ((i+3:Nat):Int),.int .i64 0])/\Below w w w':=by
 obtain rfl:=h.len;have Y:=h.cap;obtain⟨b,r,x,rfl,V,Hx,X⟩:=h.get (j:=i) AA;have I:xs.getD i 0=x:=by rw[AO,Hx.out];rfl
 obtain rfl:39=x:=by rw[<-I,z]
 have t:Xf 39=false:=AC
 have H:=LH h;have CT:=LH λW (o:Below w w W)=>B0 (some ⟨b,r,none⟩) xs.length c xs (i:Int) W (h.below o) N;have J:Hid (∀W,Calls prog 173 #[.int .u8 39] W λe w'=>e = .returned (.bool false)/\W=w'):=LH λW=>by
  have:=K6 39 W AC;rwa [t] at this
 obtain⟨d,f,D⟩:∃a b,atP xs (i:Int) = .complex .f64 a b:=by
  unfold atP PV;split
  ·exact⟨_,_,rfl⟩
  exact⟨_,_,rfl⟩
 rw[D] at CT ⊢;have U:=LH q;have E:∀y∈(xs.drop i).take 3,y<256:=λy R=>q y (List.mem_of_mem_drop (List.mem_of_mem_take R));have s:∀W,Calls prog 172 #[.string (str ((xs.drop i).take 3))] W λe w'=>e = .returned (.bool true)/\W=w':=λW=>by
  have:=Gb (str ((xs.drop i).take 3)) W;rwa [Vd _ E,B] at this
 have L:=LH s;clear h q t z B I D E s;have g:=Zy w (.cells #[.int .i64 0,.string ⟨#[]⟩,.complex .f64 0 0] 231);have ae:∀(w:World) (a:Addr) (k:FloatKind) (x y:Nat) (m:Mode),(store a (.complex k x y) m).run prog w=stored prog w a (.complex k x y) m:=λw a k x y m=>run_store prog w a _ m rfl;go_enter func187,ntmps187;go_wp2_with (first
  | (go_at_call 186;(with_reducible refine (CT.out _ g).mono ?_);rintro e w2⟨rfl,rfl⟩)
  | (go_at_call 173;(with_reducible refine (J.out _).mono ?_);rintro e T⟨rfl,rfl⟩))
 have l:∀W,Below w w W->(convert 72 9 (.slice (some ⟨b,r+i,none⟩) 3 (c-i))).run prog W = .ok (.string (str ((xs.drop i).take 3))) W:=λW o=>by
  have O:=(H.out.below o).part i 3 (c-i) AA AA AA;have F:((xs.drop i).take 3).length=3:=by rw[BY,DC];omega
  have:=Ux (P:=prog) W 72 5 9 underlying72 underlying5 underlying9 (some ⟨b,r+i,none⟩) (c-i) _ (by rw[F];exact O);rwa [F] at this
 have Z:=l _ (Zo g (.cells #[.int .i64 0,.string ⟨#[]⟩,.complex .f64 d f] 231));have aa:=l _ (Zo g (.cells #[.int .i64 0,.string ⟨#[]⟩,.complex .f64 d f] 231)).drew;have ab:=l _ (Zo g (.cells #[.int .i64 2,.string ⟨#[]⟩,.complex .f64 d f] 231));have ad:=l _ (Zo g (.cells #[.int .i64 2,.string ⟨#[]⟩,.complex .f64 d f] 231)).drew;generalize G:str ((xs.drop i).take 3)=S at *;have M:=LH G;have s2:IntKind.i64.wrap ((i:Int)+3)=(i:Int)+3:=BT _ AA;have s3:(i:Int)+3<=(xs.length:Int):=AA
 have s4:((i:Int)+3).toNat=i+3:=AA
 have s5:(0:Int)<=(i:Int)+3:=AA
 have s6:(i:Int)<=(i:Int)+3:=AA
 have s7:i+3-i=3:=AA
 have s8:(i:Int)+3<=(c:Int):=AA
 clear l G;go_loop [10] (λv=>v = .int .i64 3) (λ_=>0)
 case atStart=>rfl
 subst hrel;go_wp2_with (go_at_call 172;(with_reducible refine (L.out _).mono ?_);rintro e T⟨rfl,rfl⟩);go_region_with (fail)
 all_goals
  go_wp2_with fail;refine AV (Yu (p:=4) (u:=5) (v:=6) AB _ _ w 231 #[.int .i64 2,.string S,.complex .f64 d f] (0,0) _ rfl (Blk.drew (Blk.ext (Blk.new w _ _) (Zy _ _))) underlying231 rfl AB) rfl ?_;exact⟨by unfold TokV;rw[M.out];rfl,(Zo (Zy _ _) _).drew⟩
theorem rf_one_word(A:Option Addr)(n c i f:Nat)(xs:List Nat)(w:World)(h:Zq .u8 w A n c xs)(z:∀x∈xs,x<256)(T:n<=100000)(hi:i<n)(t:xs.getD i 0=37)(E:Bz xs i [37,37]=false)(ay:i<f)(az:f<=n)(R:∀k,i<k->k<f->K7 (xs.getD k 0)=true)(U:f<n->K7 (xs.getD f 0)=false)(S:Q6 ((xs.drop (i+1)).take (f-(i+1)))≠0):
 Calls prog 187 #[.slice A n c,.int .i64 (i:Int)] w λe w'=>e = .returned (.tuple #[TokV (Q6 ((xs.drop (i+1)).take (f-(i+1)))) [] (atP xs i),.int .i64 (f:Int),.int .i64 0])/\Below w w w':=by
 obtain rfl:=h.len;have ax:=h.cap;obtain⟨b,q,x,rfl,av,Hx,hc⟩:=h.get hi;have X:xs.getD i 0=x:=by rw[AO,Hx.out];rfl
 rw[X] at t;have H:=LH h;have CT:=LH λW (o:Below w w W)=>B0 (some ⟨b,q,none⟩) xs.length c xs (i:Int) W (h.below o) T;have CH:=LH λW (o:Below w w W)=>(F3 (some ⟨b,q,none⟩) xs.length c i xs [37,37] W (h.below o) z AC T AA AC);rw[E,show str [37,37]=⟨#[37,37]⟩ from rfl] at CH;have ai:x<256:=AA
 have J:=LH λW=>K6 x W ai;rw[show Xf x=false by rw[t];rfl] at J;have d2:((x:Int)==39)=false:=by rw[AP];omega
 have d4:((x:Int)==37)=true:=by rw[BP];omega
 obtain⟨r,s,M⟩:∃a b,atP xs (i:Int) = .complex .f64 a b:=by
  unfold atP PV;split
  ·exact⟨_,_,rfl⟩
  exact⟨_,_,rfl⟩
 rw[M] at CT ⊢;have V:∀y∈(xs.drop (i+1)).take (f-(i+1)),y<256:=λy l=>z y (List.mem_of_mem_drop (List.mem_of_mem_take l));have B:=LH λW=>rf_percent ((xs.drop (i+1)).take (f-(i+1))) W V;obtain⟨At,a1,L⟩:∃At:Option Addr,(∀W:World,(Instr.sliceAt 72 (.slice (some ⟨b,q,none⟩) xs.length c) (some (.int .i64 ((i:Int)+1))) (some (.int .i64 (f:Int))) none).run prog W = .ok (.slice At (f-(i+1)) (c-(i+1))) W) /\
  ∀W,Below w w W->Zq .u8 W At (f-(i+1)) (c-(i+1)) ((xs.drop (i+1)).take (f-(i+1))):=by
  refine⟨if c=i+1 then some ⟨b,q,none⟩ else some ⟨b,q+(i+1),none⟩,λW=>?_,λW o=>?_⟩
  ·have h1:¬((f:Int)<(i:Int)+1):=AA
   have t:¬((c:Int)<(f:Int)):=AA
   have E:((i:Int)+1).toNat=i+1:=AA
   go_simp;rw[if_pos AA,if_pos AA]
  by_cases N:c=i+1
  ·have hz:f-(i+1)=0:=AA
   rw[if_pos N,hz,List.take_zero];exact Zq.nil _ _ _ _ AA
  rw[if_neg N];exact (h.below o).part (i+1) (f-(i+1)) (c-(i+1)) AA AA AA
 have O:∀W,Below w w W->(convert 72 9 (.slice At (f-(i+1)) (c-(i+1)))).run prog W = .ok (.string (str ((xs.drop (i+1)).take (f-(i+1))))) W:=λW o=>by
  have g:((xs.drop (i+1)).take (f-(i+1))).length=f-(i+1):=by rw[BY,DC];omega
  have:=Ux (P:=prog) W 72 5 9 underlying72 underlying5 underlying9 At (c-(i+1)) _ (by rw[g];exact L W o);rwa [g] at this
 clear L;have d5:(Q6 ((xs.drop (i+1)).take (f-(i+1)))==0)=false:=by rw[AP];exact S
 generalize Q6 ((xs.drop (i+1)).take (f-(i+1)))=mk at *;generalize str ((xs.drop (i+1)).take (f-(i+1)))=tx at *;have Hb:=LH z;have ab:=LH R;have ad:=LH U;have aa:=LH O;clear h z t E X M R U V S O;have F:=Zy w (.cells #[.int .i64 0,.string ⟨#[]⟩,.complex .f64 0 0] 231);have a2:∀(w:World) (a:Addr) (k:FloatKind) (x y:Nat) (m:Mode),(store a (.complex k x y) m).run prog w=stored prog w a (.complex k x y) m:=λw a k x y m=>run_store prog w a _ m rfl;go_enter func187,ntmps187;go_wp2_with (first
  | (go_at_call 186;(with_reducible refine (CT.out _ F).mono ?_);rintro e w2⟨rfl,rfl⟩)
  | (go_at_call 173;(with_reducible refine (J.out _).mono ?_);rintro e I⟨rfl,rfl⟩)
  | (go_at_call 216;(with_reducible refine (CH.out _ (Zo F _)).mono ?_);rintro e w4⟨rfl,rfl⟩))
 go_loop [9] (λv=>∃(k:Nat),i<k/\k<=f/\v = .int .i64 (k:Int)) (λv=>xs.length-(intOf v).toNat)
 case atStart=>exact⟨i+1,AA,AA,AF⟩
 obtain⟨k,ag,a0,rfl⟩:=hrel;by_cases ah:k<f
 ·obtain⟨b2,ak,y,d,_,D,af⟩:=H.out.get (j:=k) AA;injection d with d;injection d with d e3;subst d e3;have l:xs.getD k 0=y:=by rw[AO,D.out];rfl
  have g:=ab.out k ag ah;rw[l] at g;obtain⟨Z,y2⟩:=lowerB_yes g;have Y:(97:Int)<=(y:Int):=AA
  have q2:(y:Int)<=122:=AA
  have G:k<xs.length:=AA
  clear g l;go_wp2_with fail;go_round
  case rel=>exact⟨k+1,AA,AA,AF⟩
  simp[intOf];omega
 obtain rfl:k=f:=AA
 have hX:=aa.out _ (Zo F (.cells #[.int .i64 0,.string ⟨#[]⟩,.complex .f64 r s] 231));by_cases G:k<xs.length
 ·obtain⟨b2,ak,y,d,_,D,af⟩:=H.out.get (j:=k) G;injection d with d;injection d with d e3;subst d e3;have l:xs.getD k 0=y:=by rw[AO,D.out];rfl
  have g:=ad.out G;rw[l] at g;rcases lowerB_no g with Z | ⟨Z,y2⟩
  ·have Y:¬((97:Int)<=(y:Int)):=AA
   clear g l;go_wp2_with (go_at_call 222;(with_reducible refine (B.out _).mono ?_);rintro e I⟨rfl,rfl⟩);refine AV (Yu (p:=4) (u:=5) (v:=6) AB _ _ w 231 #[.int .i64 mk,.string ⟨#[]⟩,.complex .f64 r s] (0,0) _ rfl (Blk.ext (Blk.new w _ _) (Zy _ _)) underlying231 rfl AB) rfl ?_;exact⟨rfl,Zo (Zy _ _) _⟩
  have Y:(97:Int)<=(y:Int):=AA
  have q2:¬((y:Int)<=122):=AA
  clear g l;go_wp2_with (go_at_call 222;(with_reducible refine (B.out _).mono ?_);rintro e I⟨rfl,rfl⟩);refine AV (Yu (p:=4) (u:=5) (v:=6) AB _ _ w 231 #[.int .i64 mk,.string ⟨#[]⟩,.complex .f64 r s] (0,0) _ rfl (Blk.ext (Blk.new w _ _) (Zy _ _)) underlying231 rfl AB) rfl ?_;exact⟨rfl,Zo (Zy _ _) _⟩
 go_wp2_with (go_at_call 222;(with_reducible refine (B.out _).mono ?_);rintro e I⟨rfl,rfl⟩);refine AV (Yu (p:=4) (u:=5) (v:=6) AB _ _ w 231 #[.int .i64 mk,.string ⟨#[]⟩,.complex .f64 r s] (0,0) _ rfl (Blk.ext (Blk.new w _ _) (Zy _ _)) underlying231 rfl AB) rfl ?_;exact⟨rfl,Zo (Zy _ _) _⟩
def oneP(xs:List Nat)(i:Nat):Option (Af × Nat) :=
 if Xf (xs.getD i 0) then (if Kk xs i<=i+20 then some (⟨1,(xs.drop i).take (Kk xs i-i),i⟩,Kk xs i) else none)
 else if xs.getD i 0=39 then (if H5 ((xs.drop i).take 3)&&decide (i+3<=xs.length) then some (⟨2,(xs.drop i).take 3,i⟩,i+3) else none)
 else if Bz xs i [37,37] then some (⟨9,[],i⟩,i+2)
 else if xs.getD i 0=37 then (if Q6 ((xs.drop (i+1)).take (Kw xs i-(i+1)))=0 then none else some (⟨Q6 ((xs.drop (i+1)).take (Kw xs i-(i+1))),[],i⟩,Kw xs i))
 else if L0 (xs.getD i 0)=0 then none else some (⟨L0 (xs.getD i 0),[],i⟩,i+1)
def Ml(xs:List Nat):Nat->Nat->Option (List Af)
 | 0,_=>none
 | q+1,i =>
   if i ≥ xs.length then some []
   else if !Ci xs i then none
   else if Jv (xs.getD i 0) then Ml xs q (i+1)
   else match oneP xs i with
    | none=>none
    | some (t,j)=>(Ml xs q j).map (t::·)
theorem oneP_lt{t:Af}{j:Nat}(hi:i<xs.length)(h:oneP xs i=some (t,j)):i<j/\j<=xs.length:=by
 unfold oneP at h;split at h
 ·split at h
  ·simp only[BM,CZ] at h;obtain⟨_,rfl⟩:=h;have:=Zu3 Wa (xs.drop (i+1));rw[DC] at this;unfold Kk;omega
  cases h
 split at h
 ·split at h
  ·rename_i a;simp only[AR,decide_eq_true_eq] at a;simp only[BM,CZ] at h;omega
  cases h
 split at h
 ·rename_i a;unfold Bz at a;simp only[AR,decide_eq_true_eq,AW,DS] at a;simp only[BM,CZ] at h;omega
 split at h
 ·split at h
  ·cases h
  simp only[BM,CZ] at h;obtain⟨_,rfl⟩:=h;have:=Zu3 K7 (xs.drop (i+1));rw[DC] at this;unfold Kw;omega
 split at h
 ·cases h
 simp only[BM,CZ] at h;omega
theorem toksP_end{q:Nat}{a:List Af}(h:Ml xs q i=some a)(hi:xs.length<=i):a=[]:=by
 cases q with
 | zero=>cases h
 | succ q =>
   unfold Ml at h;rw[if_pos hi] at h;injection h with h;exact h.symm
theorem toksP_step{q:Nat}{c:List Af}(h:Ml xs q i=some c)(hi:i<xs.length):Ci xs i=true /\
 ((Jv (xs.getD i 0)=true/\∃d,Ml xs d (i+1)=some c)\/(Jv (xs.getD i 0)=false/\∃t j rest d,oneP xs i=some (t,j)/\Ml xs d j=some rest/\c=t::rest)):=by
 cases q with
 | zero=>cases h
 | succ q =>
   unfold Ml at h;rw[if_neg AA] at h;by_cases b:Ci xs i=true
   ·rw[if_neg (by simp[b])] at h;refine⟨b,?_⟩;by_cases a:Jv (xs.getD i 0)=true
    ·rw[if_pos a] at h;exact .inl ⟨a,q,h⟩
    rw[if_neg a] at h;refine .inr ⟨by simpa using a,?_⟩;split at h
    ·cases h
    rename_i t j k;rw[Option.map_eq_some_iff] at h;obtain⟨rest,f,g⟩:=h;exact⟨t,j,rest,q,k,f,g.symm⟩
   rw[if_pos (by simp[b])] at h;cases h
theorem own_cells{base e size n c:Nat}{xs:List Value}(h:w.ownsRow base e size (.slice A n c) n xs)(o:0<n):∃g,A=some ⟨g,0,none⟩/\base<=g/\g<w.heap.size/\∀j u,xs[j]? = some u->w.cell? ((⟨g,0,none⟩:Addr).add j)=some u:=by
 rcases h.2 with ⟨a,rfl⟩ | ⟨g,cap,f,a,b,m,p,k,l,q⟩
 ·omega
 injection a with h1 h2 h3;subst h1;have d:=h.lt g rfl;exact⟨g,rfl,b,d.2,h.cells rfl⟩
theorem prdCs_one(h:Vu w j cs ps):∀u∈cs,u.oneCell'=true:=by
 intro u m;obtain⟨i,hi⟩:=BU m;have l:i<cs.length:=(AN.1 hi).1;rw[h.1] at l;have k:i / 5<ps.length:=AA
 obtain⟨Ar,cr,x,y,n,o,b,c,d,f,g,_⟩:=h.2 (i / 5) (ps[i / 5]) (AM k);have a:i % 5=0\/i % 5=1\/i % 5=2\/i % 5=3\/i % 5=4:=AA
 rcases a with a | a | a | a | a
 ·rw[show i / 5*5+0=i by omega,hi] at b;injection b with b;subst b;rfl
 ·rw[show i / 5*5+1=i by omega,hi] at c;injection c with c;subst c;rfl
 ·rw[show i / 5*5+2=i by omega,hi] at d;injection d with d;subst d;rfl
 ·rw[show i / 5*5+3=i by omega,hi] at f;injection f with f;subst f;rfl
 rw[show i / 5*5+4=i by omega,hi] at g;injection g with g;subst g;rfl
theorem Zwr.late{W a:World}{n:Int}(b:Below W W a):Zwr W (a.alloc (.cells #[.int .i64 n,.slice none 0 0,.int .i64 (-1)] 52)) a n :=
 ⟨b.size,Blk.new _ _ _,Zo b _⟩
theorem wk_prod(p:Nat){B:Nat}(h:GH)(G G':Gr)(q:Prd)(Ar:Option Addr)(cr x y x' y':Nat)(w:World)(k:Wk w p B h G)(hB:B<=w.heap.size)(hR:∀w',Below p w w'->Rfs w' Ar q.right.length cr q.right)(hn:q.right.length<=4000)(A:prodP G q=some G'):
 Calls prog 140 #[.pointer (some ⟨p,0,none⟩),.agg #[.string q.left,.complex .f64 x y,.slice Ar q.right.length cr,.string q.prec,.complex .f64 x' y']] w λe w'=>e = .returned (.tuple #[])/\∃h',Wk w' p w'.heap.size h' G'/\V6 w w' p h h':=by
 have gk:=(hR w (AK _ _)).1;have hx:=(hR w (AK _ _)).2.1;have hy:=(hR w (AK _ _)).2.2.1;obtain⟨cw,U,l,a6,qr,qG⟩:G.rules.length≠40/\∃U l a6,Ko G q.right [] (-1)=some (U,l,a6) /\
  ((q.prec=⟨#[]⟩/\G'={ U with rules:=U.rules++[⟨G.non q.left,l,a6⟩] })\/(q.prec≠⟨#[]⟩/\Q7 q.prec=true/\∃d E,Nl false U q.prec=some (d,E)/\G'={ E with rules:=E.rules++[⟨G.non q.left,l,d⟩] })):=by
  unfold prodP at A;split at A
  ·cases A
  rename_i f4;split at A
  ·cases A
  rename_i U l pr hr;refine⟨f4,U,l,pr,hr,?_⟩;split at A
  ·rename_i hp;injection A with A;exact .inl ⟨hp,A.symm⟩
  rename_i hp;split at A
  ·cases A
  rename_i au;split at A
  ·cases A
  rename_i d E bc;injection A with A;exact .inr ⟨hp,by simpa using au,d,E,bc,A.symm⟩
 obtain⟨a1,n1,c1,a2,n2,c2,a3,n3,c3⟩:=h;obtain⟨l1,l2,l3⟩:=k.lens;simp only[] at l1 l2 l3;have ja:n1<=24:=k.b1;have jb:n2<=16:=k.b2;have an:=k.st;have cl:=U9 (λt=>decide (t=q.left)) G.nons;have jd:-1<=G.non q.left/\G.non q.left<(n2:Int):=by rw[<-l2];exact cl
 have cg:=Zy w (.cells #[.string q.left,.complex .f64 x y,.slice Ar q.right.length cr,.string q.prec,.complex .f64 x' y'] 199);have bm:=Blk.new w 199 #[.string q.left,.complex .f64 x y,.slice Ar q.right.length cr,.string q.prec,.complex .f64 x' y'];have bo:=(k.mono hB).below cg;have HR:=LH hR;have Hk:=LH k;have hg:=LH qr;have fv:=LH qG;have ht:((n3:Int)==40)=false:=by rw[AP];rw[l3] at cw;omega
 have jc:n3<40:=by have:n3<=40:=k.b3;rw[l3] at cw;omega
 have f9:Hid (Ko G (q.right.drop 0) [] (-1)=some (U,l,a6)):=LH qr;have dl:(prog.info? 3).map (λi=>(i.zero,i.size,i.bytes))=some (some (.int .i64 0),1,8):=AB
 have dk:(prog.info? 52).map (λi=>(i.zero,i.size,i.bytes))=some (some (.agg #[.int .i64 0,.slice none 0 0,.int .i64 0]),3,40):=AB
 have fp:=LH dl;have fo:=LH dk;have jl:∀(w:World) (a:Addr) (k:FloatKind) (x y:Nat) (m:Mode),(store a (.complex k x y) m).run prog w=stored prog w a (.complex k x y) m:=λw a k x y m=>run_store prog w a _ m rfl;clear k hR qr qG A cw dl dk cl gk;generalize hN:q.right.length=N at *;generalize q.left=L at *;generalize q.prec=PR at *;go_enter func140,ntmps140;go_wp2_with fail;generalize gc:w.alloc (.cells #[.string L,.complex .f64 x y,.slice Ar N cr,.string PR,.complex .f64 x' y'] 199)=F at *;have h8:w.heap.size<F.heap.size:=bm.lt;obtain⟨hp,z0,z1,z2,z3,z7,g7,v0,v1,v2⟩:=bo.cells;have y0:F.cell? ⟨w.heap.size,0,none⟩=some (.string L):=bm.cell 0;simp only[] at z0 z1 z2;have S:=λ(W:World) (hW:Below F.heap.size F W)=>Zu5 ⟨a1,n1,c1,a2,n2,c2,a3,n3,c3⟩ G L W (bo.grAt.below hW) (by simp only[];omega);rw[an] at S;have CN:=LH S;have c8:=LH bo;have fl:=LH bm;have fe:=LH cg;generalize je:G.non L=I at *;have an:=LH an;have h5:=LH l1;have h7:=LH l2;have gi:=LH l3;clear S bo bm gc cg l1 l2 l3;go_upto_region 1 with fail;go_cut [4] (λv wx=>∃c,v = .pointer (some ⟨c,0,none⟩)/\Zwr F wx c I)
 case first =>
  have hA:=LH ((AK F.heap.size F).drew);have f7:=LH ((Zy F (.cells #[.int .i64 0,.slice none 0 0,.int .i64 0] 52)).drew);go_region_with (first
   | (go_at_call 120;refine (CN.out _ (by exact hA.out)).mono ?_;rintro e w2⟨rfl,al⟩)
   | (go_at_call 120;refine (CN.out _ (by exact f7.out)).mono ?_;rintro e w2⟨rfl,al⟩
      have am:Blk w2 F.heap.size 52 #[.int .i64 0,.slice none 0 0,.int .i64 0]:=Blk.ext (Blk.drew (Blk.new F _ _)) al;have r0:=am.frozen 0;have r1:=am.frozen 1;have r2:=am.frozen 2;have s0:w2.cell? ⟨F.heap.size,0,none⟩=some (.int .i64 0):=am.cell 0;have s1:w2.cell? ⟨F.heap.size,1,none⟩=some (.slice none 0 0):=am.cell 1;have s2:w2.cell? ⟨F.heap.size,2,none⟩=some (.int .i64 0):=am.cell 2;have fj:=LH am;clear am))
  all_goals
   go_wp2_with fail;go_meet
   first
    | exact⟨_,rfl,Zwr.late (Zz ((AK F.heap.size F).drew) al)⟩
    | exact⟨_,rfl,Zwr.early al fj.out⟩
 obtain⟨c,rfl,hM⟩:=hcut;have ck:=c8.out.below hM.bel;have cj:=fl.out.ext hM.bel;have ch:=hM.blk;have cl:=hM.lo;have dx:¬J8 p ⟨a1,n1,c1,a2,n2,c2,a3,n3,c3⟩ c:=λhf=>by have:=c8.out.foot_lt hf;omega
 have dw:¬J8 p ⟨a1,n1,c1,a2,n2,c2,a3,n3,c3⟩ w.heap.size:=λhf=>by have:=Hk.out.foot_lt hf;omega
 have dg:=V6.of_below (Zz fe.out hM.bel) p ⟨a1,n1,c1,a2,n2,c2,a3,n3,c3⟩;have gf:c<wc.heap.size:=ch.lt;have ge:w.heap.size<wc.heap.size:=cj.lt;obtain⟨jf,dt,du,dv,gz,g0,gy,_,_,_⟩:=ck.cells;simp only[] at dt du dv;have fq:=LH ck;have fm:=LH cj;have fk:=LH ch;have fs:=LH dx;have fr:=LH dw;have fg:=LH dg;have jg:p<w.heap.size:=Hk.out.lt;clear ck cj ch dx dw dg hM z0 z1 z2 z3 z7 g7 v0 v1 v2 y0 CN;go_wp2_with fail;go_loopw [5] (λv wr=>∃(j:Nat) (D:GH) (E:Gr) (H:List Int) (pr:Int) (g:Option Addr) (n:Nat),v = .int .i64 (j:Int)/\j<=N/\wc.heap.size<=wr.heap.size/\Hid (Wk wr p w.heap.size D E)/\Hid (Ko E (q.right.drop j) H pr=some (U,l,a6))/\Hid (V6 w wr p ⟨a1,n1,c1,a2,n2,c2,a3,n3,c3⟩ D) /\
  Hid (Blk wr c 52 #[.int .i64 I,.slice g j n,.int .i64 pr])/\Hid (wr.ownsRow wc.heap.size 3 1 (.slice g j n) j (ints .i64 H))/\Hid (∀b,(Value.slice g j n).ownBlock=some b->¬J8 p D b)/\Hid (H.length=j)/\Hid (∀s∈H,-17<=s/\s<=24) /\
  Hid (E.rules=G.rules)/\Hid (¬J8 p D c)/\Hid (¬J8 p D w.heap.size)/\Hid (Blk wr w.heap.size 199 #[.string L,.complex .f64 x y,.slice Ar N cr,.string PR,.complex .f64 x' y'])) (λv _=>N-(intOf v).toNat)
 case atStart=>exact⟨0,_,G,[],-1,none,0,rfl,AU _,AI _,fq,f9,fg,fk,LH (BJ _ _ _ _),LH (λb f=>by cases f),LH rfl,LH (λs hs=>by cases hs),LH rfl,fs,fr,fm⟩
 clear dt du dv gz g0 gy;obtain⟨j,D,E,H,pr,g,n,rfl,hj,a5,o,dc,HT,z,P,ab,a7,c6,ak,ay,bk,ai⟩:=hrel;obtain⟨b1,b2,b3⟩:∃d1 d2 d3:Nat,D.n1=d1/\D.n2=d2/\D.n3=d3:=⟨_,_,_,rfl,rfl,rfl⟩;obtain⟨gn,t0,t1,t2,t3,t7,cy,f0,f1,f2⟩:=o.out.cells;have r0:wr.cell? ⟨c,0,none⟩=some (.int .i64 I):=z.out.cell 0;have r1:wr.cell? ⟨c,1,none⟩=some (.slice g j n):=z.out.cell 1;have r2:wr.cell? ⟨c,2,none⟩=some (.int .i64 pr):=z.out.cell 2;have o2:wr.cell? ⟨w.heap.size,2,none⟩=some (.slice Ar N cr):=ai.out.cell 2;have o3:wr.cell? ⟨w.heap.size,3,none⟩=some (.string PR):=ai.out.cell 3;have o4:wr.cell? ⟨w.heap.size,4,none⟩=some (.complex .f64 x' y'):=ai.out.cell 4;have o5:=ai.out.lt;have o6:=z.out.lt;have o7:=z.out.frozen 2;by_cases gg:j<N
 case neg =>
  have gh:j=N:=AA
  subst gh;have bn:U=E/\l=H/\a6=pr:=by
   have:=dc.out;rw[List.drop_eq_nil_of_le AA] at this;unfold Ko at this;injection this with this;simp only[CZ] at this;exact⟨this.1.symm,this.2.1.symm,this.2.2.symm⟩
  have aj:=fv.out;rw[bn.1,bn.2.1,bn.2.2] at aj;clear bn;have di:∃(r:World) (J:GH) (Z:Gr) (X:Int),True:=⟨wr,D,E,pr,trivial⟩;rcases aj with ⟨rfl,aj⟩ | ⟨dp,au,d,Z,bc,aj⟩
  case' inl =>
   have db:=LH aj;have ca:=ak;have bx:=HT;have b5:=o;have bz:=z;have b8:=P;have b6:=ab;have cb:Hid (wc.heap.size<=wr.heap.size):=LH a5;clear aj di;go_upto_region 20 with fail;clear r0 r1 r2 o2 o3 o4 o5 o6 o7 t0 t1 t2 t3 t7 cy f0 f1 f2 a5;clear HT o z P ab ak ai bk ay;generalize D=h9 at *;generalize E=G9 at *;generalize pr=X at *;generalize wr=r at *
  case' inr =>
   have S:=λW=>Zxg PR W;rw[au] at S;have CN:=LH S;have CS:=LH (Zv1 p D E Z d PR false x' y' wr o.out bc);have aq:=Cm bc (by rw[o.out.lens.1];exact o.out.b1) (by rw[o.out.lens.2.1];exact o.out.b2);have ca:Hid (Z.rules=G.rules):=LH (aq.2.1.trans ak.out);have db:=LH aj;have gr:(PR.toList==[])=false:=by
    have h0:(⟨#[]⟩:ByteArray).toList=[]:=by
     unfold ByteArray.toList ByteArray.toList.loop;rfl
    have h1:=Ql PR ⟨#[]⟩;rw[h0,BR dp] at h1;exact h1
   clear aj di dp au bc S aq;go_upto_region 20 with (first
    | (go_at_call 116;(with_reducible refine (CN.out _).mono ?_);rintro e w2⟨rfl,rfl⟩)
    | (go_at_call 194;(with_reducible refine CS.out.mono ?_);rintro e C⟨rfl,J,ba,ad⟩
       have ae:=ad.blk z.out ay.out;have i2:C.cell? ⟨c,2,none⟩=some (.int .i64 pr):=ae.cell 2;have i3:=ae.frozen 2;have i4:=ae.lt;have bj:=LH ba;have M:=LH ad;have bi:=LH ae;clear ae ba ad))
   have a4:¬J8 p J c:=M.out.nf z.out.lt ay.out;have cp:=M.out.size;have hz:w.heap.size<c:=AA
   have an:∀b,b≠c->(C.setCell ⟨c,2,none⟩ (.int .i64 d)).heap[b]? = C.heap[b]? := λb f=>Eb C ⟨c,2,none⟩ _ b f;have dr:C.heap.size=(C.setCell ⟨c,2,none⟩ (.int .i64 d)).heap.size:=AE
   have b5:Hid (Wk (C.setCell ⟨c,2,none⟩ (.int .i64 d)) p w.heap.size J Z):=LH (bj.out.away AA λb f hf=>an b λe=>by
    rcases hf with hf | hf
    ·rw[e] at hf;exact a4 hf
    omega)
   have bx:Hid (V6 w (C.setCell ⟨c,2,none⟩ (.int .i64 d)) p ⟨a1,n1,c1,a2,n2,c2,a3,n3,c3⟩ J):=LH (by
    have hT:=HT.out.trans M.out;exact⟨hT.os,hT.tape,hT.output,BC hT.size (Nat.le_of_eq dr),λb f hn=>(an b AA).trans (hT.keep b f hn),hT.back⟩)
   have bz:Hid (Blk (C.setCell ⟨c,2,none⟩ (.int .i64 d)) c 52 #[.int .i64 I,.slice g j n,.int .i64 d]):=LH (bi.out.set 2 _);have b8:Hid ((C.setCell ⟨c,2,none⟩ (.int .i64 d)).ownsRow wc.heap.size 3 1 (.slice g j n) j (ints .i64 H)):=LH (Wv (Wv P.out λb f ar=>M.out.keep b ar (ab.out b f)) λb f ar=>an b (by have:=(P.out.lt b f).1;omega));have b6:Hid (∀b,(Value.slice g j n).ownBlock=some b->¬J8 p J b):=LH λb f=>M.out.nf (P.out.lt b f).2 (ab.out b f);have cb:Hid (wc.heap.size<=(C.setCell ⟨c,2,none⟩ (.int .i64 d)).heap.size):=LH AA;clear r0 r1 r2 o2 o3 o4 o5 o6 o7 t0 t1 t2 t3 t7 cy f0 f1 f2 a5 i2 i3 i4 a4 cp an dr CN CS bj M bi;clear HT o z P ab ak ai bk ay gr;generalize C.setCell ⟨c,2,none⟩ (.int .i64 d)=r at *;generalize J=h9 at *;generalize Z=G9 at *;generalize d=X at *
  all_goals
   have o:=b5;have HT:=bx;have z:=bz;have P:=b8;have ab:=b6;have ak:=ca;have a5:=cb.out;clear b5 bx bz b8 b6 ca cb;obtain⟨gn,t0,t1,t2,t3,t7,cy,f0,f1,f2⟩:=o.out.cells;have r0:r.cell? ⟨c,0,none⟩=some (.int .i64 I):=z.out.cell 0;have r1:r.cell? ⟨c,1,none⟩=some (.slice g j n):=z.out.cell 1;have r2:r.cell? ⟨c,2,none⟩=some (.int .i64 X):=z.out.cell 2;have r3:=z.out.lt;obtain⟨hc,m1,jj,hd,m2,jk,bw,m3,cu⟩:=h9;obtain⟨cs,cf,dh⟩:=o.out.r3;have gl:m3<40:=by
    have h1:=o.out.lens.2.2;have D:=ak.out;have J:=gi.out;simp only[] at h1;rw[D] at h1;omega
   have he:=LH dh;have fd:=LH cf;have da:Hid ((r.drew.alloc (.cells #[.int .i64 I,.slice g j n,.int .i64 X] 52)).ownsRow (p+1) 52 3 (.slice bw m3 cu) m3 cs):=LH (M5 cf ((AK r.heap.size r).drew.alloc (AI _) _));have bl:Below r.heap.size r (r.drew.alloc (.cells #[.int .i64 I,.slice g j n,.int .i64 X] 52)):=(AK r.heap.size r).drew.alloc (AI _) _;have fi:=LH (o.out.blk.ext bl);have c5:=LH bl;have gj:p+1<=(r.drew.alloc (.cells #[.int .i64 I,.slice g j n,.int .i64 X] 52)).heap.size:=by have:=bl.size;omega
   simp only[] at t0 t1 t2;clear bl cf dh;go_wp2_with fail;go_region_law (first
    | (refine V5 rfl _ _ 24 rfl (p+1) 52 _ 3 40 underlying24 fo.out AC AC bw m3 cu cs (by simp[Act.eval,Act.put]) (by exact da.out) ⟨r.heap.size,0,none⟩ 1 1 [.int .i64 I,.slice g j n,.int .i64 X] rfl (by simp[Act.eval,Act.put]) (by exact Qn r.drew [.int .i64 I,.slice g j n,.int .i64 X] _) (by simp[Value.oneCell']) AA AA (by exact gj) ?_;intro O R Y ho ap ha
       have V:=fi.out.grown ap (by intro e;have:=(da.out.lt p e.symm).1;omega);have i1:Y.cell? ⟨p,2,none⟩=some (.slice bw m3 cu):=V.cell 2;have i2:=V.frozen 2;have b9:=LH (o.out.put3 r.heap.size (BC (DP ge) a5) ⟨I,H,X⟩ (λs hs=>by have:=c6.out s hs;unfold U3;omega) gl O R g n
        (by show Za .i64 r g H.length n H;rw[a7.out];exact Yl P.out)
        (λb g1 f=>by have h1:=P.out.lt b (by rw[f];rfl);exact⟨h1.2,ab.out b (by rw[f];rfl),h1.2,AA⟩)
        (λhl h1 _=>by rw[Cx h1 fd.out];show Y.ownsRow _ _ _ _ _ (cs++[.int .i64 I,.slice g H.length n,.int .i64 X]);rw[a7.out];exact ho)
        (Zc (Xz _ c5.out) ap) (λb f ar=>ha b f (AJ ar c5.out.size)))
       clear V ho ap ha))
   all_goals
    go_wp2_with fail;(try simp only[Exit.inBlock,Exit.then]);refine bodyPost_end (results_none rfl _ _ _) rfl ?_;exact⟨rfl,_,by rw[db.out];exact b9.out.1.mono b9.out.2.size,HT.out.trans b9.out.2⟩
 obtain⟨b,g1,s,xs,ys,rfl,f,Hs,q0,q1⟩:=(HR.out wr (HT.out.below Hk.out)).get gg;obtain⟨au,h6,d,Z,cq,dq⟩:=rightsP_step dc.out Hs.out;have al:=Zy wr (.cells #[.string s,.complex .f64 xs ys] 191);have CS:=LH (Zv1 p D E Z d s true xs ys _ (o.out.below al) cq);have S:=λw=>Zxg s w;rw[au] at S;have CN:=LH S;have hv:((j:Int)==6)=false:=by rw[AP];rw[a7.out] at h6;omega
 have aq:=Cm cq (by rw[o.out.lens.1];exact o.out.b1) (by rw[o.out.lens.2.1];exact o.out.b2);have c9:=LH aq;have fw:=LH dq;have aa:=LH al;have gt:=aq.2.2.2.1;have gu:=aq.2.2.2.2;have gv:(0<=d/\(if 0<=d then d else pr)=d)\/(¬0<=d/\(if 0<=d then d else pr)=pr):=by
  by_cases h0:0<=d
  ·exact .inl ⟨h0,if_pos h0⟩
  exact .inr ⟨h0,if_neg h0⟩
 clear au h6 cq dq S aq al;rcases gv with ⟨gs,cm⟩ | ⟨gs,cm⟩;all_goals
  have fu:=LH cm;clear cm;go_wp2_with (first
   | (go_at_call 116;(with_reducible refine (CN.out _).mono ?_);rintro e w2⟨rfl,rfl⟩)
   | (go_at_call 194;(with_reducible refine CS.out.mono ?_);rintro e C⟨rfl,J,ba,ad⟩
      have ae:=ad.blk (z.out.ext aa.out) ay.out;have i1:C.cell? ⟨c,1,none⟩=some (.slice g j n):=ae.cell 1;have cp:wr.heap.size<=C.heap.size:=BC aa.out.size ad.size;have gq:wc.heap.size<=C.heap.size:=BC a5 cp;have b7:Hid (C.ownsRow wc.heap.size 3 1 (.slice g j n) j (ints .i64 H)):=LH (Wv P.out λb f ar=>(ad.keep b (AJ ar aa.out.size) (ab.out b f)).trans (aa.out.block b ar));have bi:=LH ae;have bj:=LH ba;have M:=LH ad;clear ae ba ad)
   | (at_builtin;refine Ye rfl _ _ 27 rfl wc.heap.size 3 _ 1 8 underlying27 fp.out AC AC g j n (ints .i64 H) rfl b7.out [.int .i64 d] rfl rfl (by simp[Value.oneCell']) AA AA AA ?_;intro O R Y ho ap ha
      have V:=bi.out.grown ap (by intro e;have:=(b7.out.lt c e.symm).1;omega);have i2:Y.cell? ⟨c,1,none⟩=some (.slice g j n):=V.cell 1;have i3:Y.cell? ⟨c,2,none⟩=some (.int .i64 pr):=V.cell 2;have j1:=V.frozen 1;have j2:=V.frozen 2;have c7:=LH V;have ft:=LH ho;have fn:=LH ap;have fh:=LH ha;clear V ho ap ha))
  have ga:=(HT.out.trans (V6.of_below aa.out p D)).trans M.out;have gm:∀b,(Value.slice g j n).ownBlock=some b->¬J8 p J b:=λb f=>M.out.nf (AJ (P.out.lt b f).2 aa.out.size) (ab.out b f);have a4:¬J8 p J c:=M.out.nf (AJ z.out.lt aa.out.size) ay.out;have dj:¬J8 p J w.heap.size:=M.out.nf (AJ ai.out.lt aa.out.size) bk.out;have f8:=M.out.blk (ai.out.ext aa.out) bk.out;have dm:∀w6,Y.grownBy w6 (some c)->_:=λw6 gd=>right_more bj.out ga b7.out gm a4 AA gf gq f8 ft.out fn.out fh.out gd;have cn:=fw.out;rw[fu.out] at cn
  first
   | (have T:=dm _ (Zd Y c 1 (.slice O (j+1) R))
      have ci:Blk (Y.setCell ⟨c,1,none⟩ (.slice O (j+1) R)) c 52 #[.int .i64 I,.slice O (j+1) R,.int .i64 pr]:=c7.out.set 1 _;refine⟨⟨j+1,J,Z,H++[d],pr,O,R,AF,AA,AA,LH T.1,LH cn,LH T.2.1,LH ci,LH T.2.2.1,LH T.2.2.2.1,LH (by rw[AS,a7.out];rfl),LH ?_,LH (c9.out.2.1.trans ak.out),LH a4,LH dj,LH T.2.2.2.2.1⟩,?_⟩)
   | (have T:=dm _ (Zc (Zd Y c 1 (.slice O (j+1) R)) (Zd _ c 2 (.int .i64 d)))
      have ci:Blk ((Y.setCell ⟨c,1,none⟩ (.slice O (j+1) R)).setCell ⟨c,2,none⟩ (.int .i64 d)) c 52 #[.int .i64 I,.slice O (j+1) R,.int .i64 d]:=(c7.out.set 1 (.slice O (j+1) R)).set 2 (.int .i64 d);refine⟨⟨j+1,J,Z,H++[d],d,O,R,AF,AA,AA,LH T.1,LH cn,LH T.2.1,LH ci,LH T.2.2.1,LH T.2.2.2.1,LH (by rw[AS,a7.out];rfl),LH ?_,LH (c9.out.2.1.trans ak.out),LH a4,LH dj,LH T.2.2.2.2.1⟩,?_⟩)
  ·intro u hu;rcases DH.1 hu with hu | hu
   ·exact c6.out u hu
   rw[BV.1 hu];exact⟨gt,gu⟩
  simp[intOf];omega
theorem Zsk{G:Gr}(a:G.right=true):0<=G.start/\G.start<(G.nons.length:Int)/\G.nons.length<=16:=by
 have b:=Gr.fits a;obtain⟨_,_,_,c,_⟩:=Nd.1 a;have:=b.n2;omega
def readC(xs:List Nat):Option Gr :=
 match Ml xs (xs.length+1) 0 with
 | none=>none
 | some ts=>if Dd ts<2/\ts.length<=4000 then (match srcP (ts.length+1) (ts.map Zyr) with
   | none=>none
   | some ps=>if ps.length<=4000/\(ps.all λq=>decide (q.right.length<=4000))=true then Zwy ps else none) else none
theorem read22A:readC Zyh=some Xt:=AB
end Go.Proofs.YtggbjdmpjidhgaaGreatDoor
