/- Words for slices that read as lists: no program in sight. -/
import Derived.Test.YtaagompdgiobeaaGreatDoorV01
import Derived.Test.YtaagompdgiobeaaGreatDoorV02
import Derived.Test.YtaagompdgiobeaaGreatDoorV03
set_option linter.all false
set_option maxHeartbeats 1500000
set_option maxRecDepth 100000
namespace Go.Proofs.YtaagompdgiobeaaGreatDoor
open Go.RowKit Go.Proofs.Tryz
variable{w':World}{A:Option Addr}{n c i j base:Nat}{a o xs:List Nat}{f g:List Bool->List Bool}{N:List Bool}{ss l:List Int}{s:Int}{ts p:List Trm}{t:Trm}{ops:Array Oper}{rest:List Oper}{Q:Exit->Act->World->Prop}{D:DataW Unit}{cs:Array Value}{listed:Array Bool}{T:Int->Nat->Nat}
theorem Za.same{k:IntKind}{w:World}{a:List Int}(h:Za k w A n c a)(b:Uz w w'):Za k w' A n c a:=h.below (b.below _)
def RetInts(k:IntKind)(w:World)(a:List Int)(e:Ending)(w':World):Prop :=
 ∃A c,e = .returned (.slice A a.length c)/\Za k w' A a.length c a/\Below w.heap.size w w'
theorem foldl_lt(l:List Int)(s:Nat)(a:s<4294967296):l.foldl (λs n=>s ||| Y6 n) s<4294967296:=by
 induction l generalizing s with
 | nil=>exact a
 | cons n l b=>exact b _ (Ct a (Ua n))
theorem ofN_lt(l:List Int):ofN l<4294967296:=foldl_lt l 0 AC
theorem and_bit(s:Nat)(n:Int):(s &&& Y6 n != 0)=hasN s n:=by
 unfold Y6 hasN;split
 ·rename_i h;rw[DW h,Bool.true_and,and_pow];have b:=Nat.two_pow_pos n.toNat
  cases a:s.testBit n.toNat
  ·simp
  simp only[if_true,BK];omega
 rename_i h;rw[BR h];simp
theorem ref_has(s:Nat)(n:Int)(w:World)(d:s<4294967296):Calls prog 120 #[.int .u32 (s:Int),.int .i64 n] w λe w'=>e = .returned (.bool (hasN s n))/\w=w':=by
 have f:=and32 s (Y6 n) d (Ua n);have g:(((s &&& Y6 n:Nat):Int) != 0)=hasN s n:=by
  rw[<-and_bit,Cs];simp[BK]
 have a:=Ch n w;generalize Y6 n=b at *;generalize s &&& b=x at *;have c:=LH a;go_enter func120,ntmps120;go_wp2_with (go_at_call 121;refine c.out.mono ?_;rintro e w'⟨rfl,rfl⟩);go_ret;exact⟨rfl,rfl⟩
theorem set_of(A:Option Addr)(n c:Nat)(a:List Int)(w:World)(h:Za .i64 w A n c a):Calls prog 201 #[.slice A n c] w λe w'=>e = .returned (.int .u32 ((ofN a:Nat):Int))/\w=w':=by
 obtain rfl:=h.len;have p:=h.cap;go_enter func201,ntmps201;go_wp2;go_loop [2,4,7] (λs _ i=>∃k:Nat,k<=a.length/\i = .int .i64 (k:Int)/\s = .int .u32 ((ofN (a.take k):Nat):Int)) (λ_ _ i=>a.length-(intOf i).toNat)
 case atStart=>exact⟨0,AS _,rfl,rfl⟩
 obtain⟨k,q,rfl,rfl⟩:=hrel;by_cases l:k<a.length
 ·obtain⟨b,u,x,rfl,m,Hx,o⟩:=h.get (j:=k) l;have r:=or32 (ofN (a.take k)) (Y6 x) (ofN_lt _) (Ua x);have g:Hid (ofN (a.take (k+1))=ofN (a.take k) ||| Y6 x):=LH (by rw[Du,Hx];exact ofN_snoc _ _);have d:=set_bit1 x w;generalize ofN (a.take k)=s at *;generalize Y6 x=t at *;have f:=LH d;go_wp2_with (go_at_call 219;refine f.out.mono ?_;rintro e w'⟨rfl,rfl⟩);go_round
  case rel=>exact⟨k+1,AA,AF,by rw[g]⟩
  simp[intOf];omega
 obtain rfl:k=a.length:=AA
 go_wp2;go_ret;exact⟨AE,rfl⟩
theorem tz32(s:Nat)(w:World)(a:s≠0)(d:s<4294967296)(f:Q2 w):
 Calls prog 218 #[.int .u32 (s:Int)] w λe w'=>e = .returned (.int .i64 ((Lib.ctz 32 s:Nat):Int))/\w=w':=by
 obtain⟨g,c⟩:=Lib.lowest_bit 32 s a d;obtain⟨hi,h⟩:=Lib.deBruijn32_at _ c;have b:=f _ hi;rw[h] at b;exact tz32_core s _ _ w AG (tz32_key s _ d a g) hi c b
theorem Zvj(c:Nat)(w:World)(j:c<256):
 Calls prog 145 #[.int .u8 (c:Int)] w λe w'=>e = .returned (.bool (Xf c))/\w=w':=by
 have a:=letter_fact c j;have b:=(bits_or c).resolve_right AA;have k:∃v:Nat,bits BinOp.or .u8 (c:Int) 32=(v:Int)/\Xf c=(decide (c=95) || (decide (97<=v)&&decide (v<=122))):=⟨_,b,a⟩;clear a b;obtain⟨v,m,a⟩:=k;have d:=LH a;clear a;have l:c=95\/(c≠95/\v<97)\/(c≠95/\97<=v/\v<=122)\/(c≠95/\97<=v/\122<v):=AA
 rcases l with h | ⟨h,g⟩ | ⟨h,g,f⟩ | ⟨h,g,f⟩;all_goals
  go_enter func145,ntmps145;go_wp2;go_ret;refine⟨Jf ?_,rfl⟩;rw[d];rw[Cs];simp only[CJ,AU,BW,BK,ne_eq,Bool.not_eq_true',decide_eq_true_eq,AZ,Bool.false_eq_true,true_iff,false_iff,iff_true,iff_false];omega
theorem K6(c:Nat)(w:World)(d:c<256):
 Calls prog 170 #[.int .u8 (c:Int)] w λe w'=>e = .returned (.bool (Xf c))/\w=w':=by
 have b:c<65\/(65<=c/\c<=90)\/(90<c/\c<95)\/c=95\/(95<c/\c<97)\/(97<=c/\c<=122)\/122<c:=AA
 rcases b with g0 | ⟨g0,a⟩ | ⟨g0,a⟩ | g0 | ⟨g0,a⟩ | ⟨g0,a⟩ | g0;all_goals
  go_enter func170,ntmps170;go_wp2;all_goals
   go_ret;refine⟨Jf ?_,rfl⟩;unfold Xf;rw[Cs];simp only[CJ,AU,BW,BK,ne_eq,Bool.not_eq_true',decide_eq_true_eq,AZ,Bool.false_eq_true,true_iff,false_iff,iff_true,iff_false];omega
theorem lx_inner(c:Nat)(w:World)(j:c<256):
 Calls prog 146 #[.int .u8 (c:Int)] w λe w'=>e = .returned (.bool (Wa c))/\w=w':=by
 have a:=Zvj c w j;cases b:Xf c;all_goals
  rw[b] at a;have d:=LH a;have f:=LH b;have k:(c<46/\((c:Int)==46)=false)\/((c:Int)==46)=true\/(46<c/\c<48/\((c:Int)==46)=false)\/(48<=c/\c<=57/\((c:Int)==46)=false)\/(57<c/\((c:Int)==46)=false):=by
   simp only[BW,AQ,ne_eq];omega
  rcases k with ⟨g,g0⟩ | g0 | ⟨g,h,g0⟩ | ⟨g,h,g0⟩ | ⟨g,g0⟩;all_goals
   go_enter func146,ntmps146;go_wp2_with (go_at_call 145;refine d.out.mono ?_;rintro e w'⟨rfl,rfl⟩);all_goals
    go_ret;refine⟨Jf ?_,rfl⟩;unfold Wa;rw[f];try simp only[BW,AQ,ne_eq] at g0
    try simp only[Bool.true_or,Bool.false_or]
    all_goals first
    | rfl
    | (rw[Cs];simp only[CJ,AU,BW,BK,ne_eq,Bool.not_eq_true',decide_eq_true_eq,AZ,Bool.false_eq_true,true_iff,false_iff,iff_true,iff_false];omega)
theorem Zy7(c:Nat)(w:World)(j:c<256):
 Calls prog 171 #[.int .u8 (c:Int)] w λe w'=>e = .returned (.bool (Wa c))/\w=w':=by
 have a:=K6 c w j;cases b:Xf c;all_goals
  rw[b] at a;have d:=LH a;have f:=LH b;have k:(c<46/\((c:Int)==46)=false)\/((c:Int)==46)=true\/(46<c/\c<48/\((c:Int)==46)=false)\/(48<=c/\c<=57/\((c:Int)==46)=false)\/(57<c/\((c:Int)==46)=false):=by
   simp only[BW,AQ,ne_eq];omega
  rcases k with ⟨g,g0⟩ | g0 | ⟨g,h,g0⟩ | ⟨g,h,g0⟩ | ⟨g,g0⟩;all_goals
   go_enter func171,ntmps171;go_wp2_with (go_at_call 170;refine d.out.mono ?_;rintro e w'⟨rfl,rfl⟩);all_goals
    go_ret;refine⟨Jf ?_,rfl⟩;unfold Wa;rw[f];try simp only[BW,AQ,ne_eq] at g0
    try simp only[Bool.true_or,Bool.false_or]
    all_goals first
    | rfl
    | (rw[Cs];simp only[CJ,AU,BW,BK,ne_eq,Bool.not_eq_true',decide_eq_true_eq,AZ,Bool.false_eq_true,true_iff,false_iff,iff_true,iff_false];omega)
theorem lx_name(s:ByteArray)(w:World):Calls prog 86 #[.string s] w λe w'=>e = .returned (.bool (Xi (Zh s)))/\w=w':=by
 have g:=Qh s;by_cases v:s.size=0
 ·have a:Xi (Zh s)=false:=by simp[Xi,g,v]
  rw[a];have C:=Cp s v;clear a g;go_enter func86,ntmps86;go_wp2;go_ret;exact⟨rfl,rfl⟩
 have c:0<s.size:=AA
 obtain⟨D,E⟩:=Zz8 s c;by_cases m:s.size<=20
 case neg =>
  have a:Xi (Zh s)=false:=by simp[Xi,g,m]
  rw[a];have B:(20:Int)<(s.size:Int):=AA
  clear a g m;go_enter func86,ntmps86;go_wp2;go_ret;exact⟨rfl,rfl⟩
 have G:¬(20:Int)<(s.size:Int):=AA
 have q:Hid (∀k (h:k<s.size),(Zh s).getD k 0=(s[k]'h).toNat):=LH λk h=>Yn (J0 s k h);have l:=LH g;have d:=Zvj (s[0]'c).toNat w ((s[0]'c).toNat_lt);have A:=LH m;clear g m;cases b:Xf (s[0]'c).toNat
 ·have a:Xi (Zh s)=false:=by unfold Xi;rw[q 0 c,b];simp
  rw[a];rw[b] at d;have o:=LH d;clear a d b;go_enter func86,ntmps86;go_wp2_with (go_at_call 145;refine o.out.mono ?_;rintro e w'⟨rfl,rfl⟩);go_ret;exact⟨rfl,rfl⟩
 rw[b] at d;have o:=LH d;have y:Hid (Xf ((Zh s).getD 0 0)=true):=LH (by rw[q 0 c];exact b);clear d b;go_enter func86,ntmps86;go_wp2_with (go_at_call 145;refine o.out.mono ?_;rintro e w'⟨rfl,rfl⟩);go_loop [3,19] (λ_ i=>∃k:Nat,k<=s.size/\i = .int .i64 (k:Int)/\∀j,j<k->Wa ((Zh s).getD j 0)=true) (λ_ i=>s.size-(intOf i).toNat)
 case atStart=>exact⟨0,AS _,rfl,λj t=>AA⟩
 obtain⟨k,F,rfl,x⟩:=hrel;have u:=LH x;clear x;by_cases b:k<s.size
 ·have f:=lx_inner (s[k]'b).toNat w ((s[k]'b).toNat_lt);have n:=q k b;cases hd:Wa (s[k]'b).toNat
  ·have a:Xi (Zh s)=false:=Zsv k (by rw[l];exact b) (by rw[n];exact hd);have p:=LH a;rw[hd] at f;have r:=LH f;clear f hd n a;go_wp2_with (go_at_call 146;refine r.out.mono ?_;rintro e w'⟨rfl,rfl⟩);go_ret;exact⟨by rw[p];rfl,rfl⟩
  rw[hd] at f;have r:=LH f;have z:Hid (Wa ((Zh s).getD k 0)=true):=LH (by rw[n];exact hd);clear f hd n;go_wp2_with (go_at_call 146;refine r.out.mono ?_;rintro e w'⟨rfl,rfl⟩);go_round
  case rel =>
   refine⟨k+1,AA,AF,λj t=>?_⟩;rcases BD j k with h | h
   ·exact u j h
   obtain rfl:j=k:=AA
   exact z
  simp[intOf];omega
 have a:Xi (Zh s)=true:=Zuu (by rw[l];omega) (by rw[l];exact A) y (λj t=>u j (by rw[l] at t;omega));have p:=LH a;clear a;go_wp2;go_ret;exact⟨by rw[p];rfl,rfl⟩
theorem Zx8(s:ByteArray)(w:World):Calls prog 116 #[.string s] w λe w'=>e = .returned (.bool (Xi (Zh s)))/\w=w':=by
 have f:=Qh s;by_cases t:s.size=0
 ·have a:Xi (Zh s)=false:=by simp[Xi,f,t]
  rw[a];have B:((s.size:Int)==0)=true:=by rw[BW];omega
  clear a f;go_enter func116,ntmps116;go_wp2;go_ret;exact⟨rfl,rfl⟩
 have g:0<s.size:=AA
 have B:((s.size:Int)==0)=false:=by rw[AQ];omega
 have C:=LH t;clear t;by_cases m:s.size<=20
 case neg =>
  have a:Xi (Zh s)=false:=by simp[Xi,f,m]
  rw[a];have D:(20:Int)<(s.size:Int):=AA
  clear a f m;go_enter func116,ntmps116;go_wp2;go_ret;exact⟨rfl,rfl⟩
 have F:¬(20:Int)<(s.size:Int):=AA
 have q:Hid (∀k (h:k<s.size),(Zh s).getD k 0=(s[k]'h).toNat):=LH λk h=>Yn (J0 s k h);have l:=LH f;have c:=K6 (s[0]'g).toNat w ((s[0]'g).toNat_lt);have A:=LH m;clear f m;cases b:Xf (s[0]'g).toNat
 ·have a:Xi (Zh s)=false:=by unfold Xi;rw[q 0 g,b];simp
  rw[a];rw[b] at c;have o:=LH c;clear a c b;go_enter func116,ntmps116;go_wp2_with (go_at_call 170;refine o.out.mono ?_;rintro e w'⟨rfl,rfl⟩);go_ret;exact⟨rfl,rfl⟩
 rw[b] at c;have o:=LH c;have y:Hid (Xf ((Zh s).getD 0 0)=true):=LH (by rw[q 0 g];exact b);clear c b;go_enter func116,ntmps116;go_wp2_with (go_at_call 170;refine o.out.mono ?_;rintro e w'⟨rfl,rfl⟩);go_loop [3] (λi=>∃k:Nat,k<=s.size/\i = .int .i64 (k:Int)/\∀j,j<k->Wa ((Zh s).getD j 0)=true) (λi=>s.size-(intOf i).toNat)
 case atStart=>exact⟨0,AS _,rfl,λj u=>AA⟩
 obtain⟨k,E,rfl,x⟩:=hrel;have v:=LH x;clear x;by_cases b:k<s.size
 ·have d:=Zy7 (s[k]'b).toNat w ((s[k]'b).toNat_lt);have n:=q k b;cases hd:Wa (s[k]'b).toNat
  ·have a:Xi (Zh s)=false:=Zsv k (by rw[l];exact b) (by rw[n];exact hd);have p:=LH a;rw[hd] at d;have r:=LH d;clear d hd n a;go_wp2_with (go_at_call 171;refine r.out.mono ?_;rintro e w'⟨rfl,rfl⟩);go_ret;exact⟨by rw[p];rfl,rfl⟩
  rw[hd] at d;have r:=LH d;have z:Hid (Wa ((Zh s).getD k 0)=true):=LH (by rw[n];exact hd);clear d hd n;go_wp2_with (go_at_call 171;refine r.out.mono ?_;rintro e w'⟨rfl,rfl⟩);go_round
  case rel =>
   refine⟨k+1,AA,AF,λj u=>?_⟩;rcases BD j k with h | h
   ·exact v j h
   obtain rfl:j=k:=AA
   exact z
  simp[intOf];omega
 have a:Xi (Zh s)=true:=Zuu (by rw[l];omega) (by rw[l];exact A) y (λj u=>v j (by rw[l] at u;omega));have p:=LH a;clear a;go_wp2;go_ret;exact⟨by rw[p];rfl,rfl⟩
theorem Gb(s:ByteArray)(w:World):
 Calls prog 169 #[.string s] w λe w'=>e = .returned (.bool (H5 (Zh s)))/\w=w':=by
 have n:=Qh s;have c:Hid (∀k (h:k<s.size),(Zh s).getD k 0=(s[k]'h).toNat):=LH λk h=>Yn (J0 s k h);have d:Hid (H5 (Zh s)=((decide (s.size=3)&&decide ((Zh s).getD 0 0=39)&&decide ((Zh s).getD 2 0=39)&&Mt ((Zh s).getD 1 0)) ||
  (decide (s.size=4)&&decide ((Zh s).getD 0 0=39)&&decide ((Zh s).getD 3 0=39)&&decide ((Zh s).getD 1 0=92)&&Q1 ((Zh s).getD 2 0)))):=LH (by unfold H5;rw[n])
 by_cases f:s.size=3
 ·have p:((s.size:Int)==3)=true:=by rw[BW];omega
  have g:0<s.size:=AA
  have a:1<s.size:=AA
  have b:2<s.size:=AA
  have l:Hid (H5 (Zh s)=(decide ((s[0]'g).toNat=39)&&decide ((s[2]'b).toNat=39)&&decide (32<=(s[1]'a).toNat/\(s[1]'a).toNat<=126/\(s[1]'a).toNat≠39/\(s[1]'a).toNat≠92))):=LH (by
   rw[d,c 0 g,c 1 a,c 2 b,f];simp[Mt])
  go_enter func169,ntmps169;go_wp2;all_goals
   go_ret;refine⟨Jf ?_,rfl⟩;rw[l];rw[Cs];simp only[CJ,AU,BW,BK,ne_eq,Bool.not_eq_true',decide_eq_true_eq,AZ,Bool.false_eq_true,true_iff,false_iff,iff_true,iff_false];omega
 have p:((s.size:Int)==3)=false:=by rw[AQ];omega
 by_cases j:s.size=4
 ·have q:((s.size:Int)==4)=true:=by rw[BW];omega
  have g:0<s.size:=AA
  have a:1<s.size:=AA
  have b:2<s.size:=AA
  have o:3<s.size:=AA
  have l:Hid (H5 (Zh s)=(decide ((s[0]'g).toNat=39)&&decide ((s[3]'o).toNat=39)&&decide ((s[1]'a).toNat=92)&&decide ((s[2]'b).toNat=110\/(s[2]'b).toNat=116\/(s[2]'b).toNat=92\/(s[2]'b).toNat=39))):=LH (by
   rw[d,c 0 g,c 1 a,c 2 b,c 3 o,j];simp[Q1])
  go_enter func169,ntmps169;go_wp2;all_goals
   go_ret;refine⟨Jf ?_,rfl⟩;rw[l];rw[Cs];simp only[CJ,AU,BW,BK,ne_eq,Bool.not_eq_true',decide_eq_true_eq,AZ,Bool.false_eq_true,true_iff,false_iff,iff_true,iff_false];omega
 have q:((s.size:Int)==4)=false:=by rw[AQ];omega
 have m:H5 (Zh s)=false:=by rw[d];simp[f,j]
 rw[m];go_enter func169,ntmps169;go_wp2;go_ret;exact⟨rfl,rfl⟩
theorem cntL_snoc(l:List Trm)(t:Trm)(g:1<=t.level)(j:t.level<=24):Zzt (l++[t])=if Dt l t.level then Zzt l else Zzt l+1:=by
 obtain⟨m,b⟩:∃m:Nat,t.level=(m:Int):=⟨t.level.toNat,AA⟩;by_cases h:Dt l t.level=true
 ·rw[if_pos h];unfold Zzt;congr 1;funext n;rw[Kf];by_cases a:t.level=(n:Int)
  ·rw[<-a,h];simp
  simp[a]
 rw[if_neg h];have f:Dt l t.level=false:=by simpa using h
 have:=countP_more (λ(n:Nat)=>decide (1<=n)&&Dt l (n:Int)) m (by rw[<-b,f];simp) 25;rw[if_pos AA] at this;unfold Zzt;rw[<-this];congr 1;funext n;rw[Kf];by_cases a:n=m
 ·subst a;have e:decide (1<=n)=true:=AG
  rw[b,e];simp
 have c:decide (n=m)=false:=by simp[a]
 have d:decide (t.level=(n:Int))=false:=AG
 rw[c,d];simp
theorem Zzf(l:List Trm)(f:∀t∈l,Up t=true):Jh l=l.all (Nc l):=by
 have g:∀t∈l,0<=t.level:=λt a=>(Kp (f t a)).2.1;obtain⟨y,O,z⟩:=topL_spec l g;have N:J7 l<=24:=by
  rcases z with h | ⟨t,a,d⟩
  ·omega
  have:=(Kp (f t a)).2.2.1;omega
 obtain⟨T,A⟩:∃T:Nat,J7 l=(T:Int):=⟨(J7 l).toNat,AA⟩;have F:∀n:Nat,(decide (1<=n)&&Dt l (n:Int))=true->1<=n:=λn h=>by simp at h;exact h.1
 have G:∀n:Nat,(decide (1<=n)&&Dt l (n:Int))=true->n<=T:=λn h=>by
  simp[Dt] at h;obtain⟨_,t,a,d⟩:=h;have:=y t a;omega
 have p:Zzt l=T↔∀n:Nat,1<=n->n<=T->Dt l (n:Int)=true:=by
  unfold Zzt;rw[countP_cut _ T G 25 AA,(countP_full _ F T).2];constructor
  ·intro h n b c;have:=h n b c;simp at this;exact this.2
  intro h n b c;simp[h n b c,b]
 have o:∀L:Int,L≠0->∀t∈l,t.level=L->t.assoc≠0:=λL j t a d h=>by
  have:=(Kp (f t a)).2.2.2.2.2;rw[<-d] at j;exact j (this.2 h)
 rw[Cs];unfold Jh;rw[AU,BA,A,BG];constructor
 ·rintro⟨D,d⟩ t a;have C:=p.1 AA;unfold Nc;rw[BG];intro n E;rw[BQ] at E;have M:=y t a;rw[Gf];refine⟨λk u H r=>?_,?_⟩
  ·have:=Bj D H;simp[Fo] at this;rcases this with (h | h) | h
   ·omega
   ·rw[r] at h;exact .inl h
   rw[r] at h;exact .inr h
  rw[Zvl l _ (o _ AA)];have:=C (n+1) AA AA;simpa using this
 intro B;have s:∀t∈l,∀n:Nat,1<=n->(n:Int)<=t.level->J9 l (n:Int)=true:=λt a n b c=>by
  have:=B t a;unfold Nc at this;rw[BG] at this;have:=this (n-1) (by rw[BQ];omega);rwa [show ((n-1:Nat):Int)+1=(n:Int) from by omega] at this
 refine⟨Kc λk t q=>?_,?_⟩
 ·have x:=AN q;have J:=g t x;simp only[Fo,CJ,decide_eq_true_eq];by_cases I:t.level=0
  ·exact .inl (.inl I)
  obtain⟨m,v⟩:∃m:Nat,t.level=(m:Int):=⟨t.level.toNat,AA⟩;have:=s t x m AA AA;rw[Gf] at this;have:=this.1 k t q v;rw[<-v] at this;rcases this with h | h
  ·exact .inl (.inr h)
  exact .inr h
 have:Zzt l=T:=p.2 λn b c=>by
  rcases z with h | ⟨t,a,d⟩
  ·omega
  have:=s t a n b AA;rw[Gf] at this;exact (Zvl l _ (o _ AA)).1 this.2
 omega
theorem Qv.comp(a:Qv f)(c:Qv g):Qv λb=>g (f b) :=
 ⟨λb=>by rw[c.len,a.len],λb i h=>c.up _ i (a.up b i h)⟩
theorem Qv.anti(a:Qv f)(c:Qv g){b:List Bool}(h:g (f b)=b):f b=b :=
 Zvh (a.len b) (λi hi=>by rw[<-h];exact c.up _ i hi) (λi hi=>a.up b i hi)
theorem N2(p:Rul->List Bool->Bool)(r:Rul):Qv (Qa p r):=by
 refine⟨λb=>by unfold Qa;split <;> simp,λb i h=>?_⟩;unfold Qa;split
 ·rw[List.getElem?_set];split
  ·rename_i a;subst a;simp[(AO.1 h).1]
  exact h
 exact h
theorem Ng(p:Rul->List Bool->Bool):∀a,Qv (Xs p a)
 | []=>Qv.id
 | r::a=>(N2 p r).comp (Ng p a)
theorem lefts_next{G:Gr}{k:Nat}{r:Rul}{top:Int}(h:G.leftsGo (G.rules.take k) (-1)=some top)(a:G.rules[k]? = some r):
 G.leftsGo (G.rules.take (k+1)) (-1)=if 0<=r.left/\r.left<=top+1/\G.ruleOK r=true then some (max top r.left) else none:=by
 rw[Du,a];show G.leftsGo (_++[r]) _=_;rw[Gr.leftsGo_snoc,h];rfl
theorem lefts_bad{G:Gr}{k:Nat}(h:G.leftsGo (G.rules.take k) (-1)=none):G.leftsGo G.rules (-1)=none:=by
 rw[<-List.take_append_drop k G.rules];exact G.leftsGo_none _ _ _ h
theorem cf_right1(s:ByteArray)(w:World):
 Calls prog 85 #[.string s] w λe w'=>e = .returned (.bool (!Xi (Zh s)))/\w=w':=by
 have c1:=lx_name s w;generalize Xi (Zh s)=p at *;have a:=LH c1;clear c1;go_enter func85,ntmps85;go_wp2_with (go_at_call 86;refine a.out.mono ?_;rintro e w'⟨rfl,rfl⟩);go_ret;exact⟨rfl,rfl⟩
theorem Zvy(p:Rul->List Bool->Bool)(a:List Rul)(N:List Bool):(Xs p a N).length=N.length:=(Ng p a).len N
theorem Ad(p:Rul->List Bool->Bool)(a:List Rul)(N:List Bool):∀k,(Z3 (Xs p a) k N).length=N.length
 | 0=>rfl
 | k+1=>by rw[Z3,Zvy,Ad p a N k]
theorem LeB.refl(a:List Bool):LeB a a:=⟨rfl,λ_ h=>h⟩
theorem LeB.anti{a b:List Bool}(h:LeB a b)(k:LeB b a):a=b:=Zvh h.1 h.2 k.2
theorem F5(N:List Bool):∀(l:List Int),LeB N (Jz N l):=λl=>by
 induction l generalizing N with
 | nil=>exact LeB.refl N
 | cons s l a=>exact (LeB.set N s.toNat).trans (a _)
theorem Zwc(N:List Bool)(l:List Int):(Jz N l).length=N.length:=(F5 N l).1.symm
theorem grew_set{a:List Bool}(h:LeB N a)(hi:i<a.length):L6 N (a.set i true)=(L6 N a || !a.getD i false):=by
 unfold L6;by_cases d:a=N
 ·subst d;cases b:a.getD i false
  ·have:a.set i true≠a:=λc=>by
    have:=congrArg (λl:List Bool=>l.getD i false) c;simp[AP,hi] at this b;rw[this] at b;cases b
   simp[this]
  have:a.set i true=a:=by
   rw[AP,AM hi] at b;have b:a[i]=true:=b;rw[<-b,List.set_getElem_self]
  simp[this]
 have:a.set i true≠N:=λc=>d ((LeB.anti h (by rw[<-c];exact LeB.set a i)).symm);simp[d,this]
def Bd(r:Rul)(N:List Bool):List Int:=if Xj false N r.right then [r.left] else []
theorem bD_set{C:Nat}{w:World}(h:Below C w w')(a:C<=w.heap.size)(g i:Nat)(v:Value)(b:C<=g):Below C w (w'.setCell ⟨g,i,none⟩ v):=h.trans (Zn (Zd _ _ _ _) (BC a h.size) b)
def Bn(r:Rul)(N:List Bool):List Int:=if Xj true N r.right then [r.left] else []
theorem Zxl{k:Nat}(h:ss[k]? = some s):Uq (ss.take (k+1))=if s<0 then Uq (ss.take k)++[-1-s] else Uq (ss.take k):=by
 unfold Uq;rw[Du,h];by_cases a:s<0
 ·simp[a,List.filter_append]
 simp[a,List.filter_append]
theorem allP_split{P:List Bool}{k:Nat}(a:ss[k]? = some s):Xj true P ss=(Xj true P (ss.take k)&&(Xj true P [s]&&Xj true P (ss.drop (k+1)))):=by
 have e:ss=ss.take k++([s]++ss.drop (k+1)):=by
  have c:=(AO.1 a).1;have b:ss.drop k=s::ss.drop (k+1):=by
   rw[Ec c];congr 1;exact (AO.1 a).2
  rw[List.singleton_append,<-b,List.take_append_drop]
 conv=>lhs;rw[e]
 unfold Xj;rw[List.all_append,List.all_append]
theorem Jg(f:Nat->Bool):∀n,Jb f n<4294967296
 | 0=>by simp[Jb]
 | n+1=>by
   rw[Mp];split
   ·exact Ct (Jg f n) (Ua _)
   exact Jg f n
theorem J5.done{S:List Nat}(c:InS S)(hi:i<S.length){R:Nat}(h:J5 S i R)(d:Qd S R (Wy R)=R):R=(Xu S).getD i 0:=by
 apply Nat.eq_of_testBit_eq;intro t;rw[Cs];refine⟨λa=>(h.2.2 t a).2,λa=>?_⟩;refine comes_in (S:=S) (λt=>R.testBit t=true) (λk g b t f=>?_) c hi (λt a=>h.2.1 t a) a;have:=Ma S t (Wy R) R;rw[d] at this;rw[this,CJ];right;rw[Ep];exact⟨k,(Zwo R k).2 ⟨Ztx h.1 b,b⟩,f⟩
theorem andN_le(a b:Nat):Ck a b<=a:=Zyd λt h=>by
 rw[Nu,AU] at h;exact h.1
theorem andn32(a b:Nat)(c:a<4294967296)(j:b<4294967296):bits .andNot .u32 (a:Int) (b:Int)=((Ck a b:Nat):Int):=by
 have k:Ck a b<4294967296:=En (andN_le a b) c;have d:(BitVec.ofInt 32 (a:Int)).toNat=a:=by rw[BitVec.ofInt_natCast,Er];exact Ee AA
 have f:(BitVec.ofInt 32 (b:Int)).toNat=b:=by rw[BitVec.ofInt_natCast,Er];exact Ee AA
 show IntKind.u32.wrap ((BitVec.ofInt 32 (a:Int) &&& ~~~ BitVec.ofInt 32 (b:Int)).toNat:Int)=_;have g:(BitVec.ofInt 32 (a:Int) &&& ~~~ BitVec.ofInt 32 (b:Int)).toNat=Ck a b:=by
  apply Nat.eq_of_testBit_eq;intro t;rw[BitVec.testBit_toNat,BitVec.getLsbD_and,BitVec.getLsbD_not,<-BitVec.testBit_toNat,<-BitVec.testBit_toNat,d,f,Nu];rcases BD t 32 with h | h
  ·simp[h]
  rw[Zx7 a c t h];rfl
 rw[g,IntKind.wrap_u32];omega
theorem B8(S:List Nat)(use n:Nat)(b:List Bool):∀k,(Z3 (Dn S use n) k b).length=b.length
 | 0=>rfl
 | k+1=>by rw[Z3,(Zzg S use n).len,B8 S use n b k]
theorem Co(S:List Nat)(use n:Nat):∀k,(Y4 S use n k).2=Nm (Z3 (Dn S use n) k (List.replicate n false))
 | 0=>by
   apply Nat.eq_of_testBit_eq;intro t;unfold Nm;rw[J3];simp only[Y4,Z3,Nat.zero_testBit,Eg];by_cases h:t<n
   ·simp[h]
   ·simp[h]
 | k+1=>by
   have c:=Co S use n k;have d:=B8 S use n (List.replicate n false) k;rw[Eg] at d;rw[Nf,Z3];generalize Z3 (Dn S use n) k (List.replicate n false)=b at *;cases a:Qx (U2 S use (Y4 S use n k).2) n with
   | none =>
     rw[Ln a];unfold Dn;rw[<-c,a];exact c
   | some i =>
     rw[Ly a];have hi:=(Cj a).1;unfold Dn;rw[<-c,a];rw[thereOf_set AA,c]
theorem Zse(h:ts[j]? = some t):(V8 ts)[j*3+0]? = some (.string t.name)/\(V8 ts)[j*3+1]? = some (.int .i64 t.level)/\(V8 ts)[j*3+2]? = some (.int .i64 t.assoc):=by
 induction ts generalizing j with
 | nil=>simp at h
 | cons u ts d =>
   rw[show V8 (u::ts)=[.string u.name,.int .i64 u.level,.int .i64 u.assoc]++V8 ts from rfl];cases j with
   | zero=>simp at h;subst h;exact⟨rfl,rfl,rfl⟩
   | succ j =>
     simp at h;obtain⟨a,b,c⟩:=d h;have e:∀i,(j+1)*3+i=1*3+(j*3+i):=λi=>AA
     exact⟨by rw[e,Y7 rfl];exact a,by rw[e,Y7 rfl];exact b,by rw[e,Y7 rfl];exact c⟩
theorem Cr{w:World}{e:Nat}(h:w.ownsRow base e 3 (.slice A n c) n (V8 ts)):N8 w A n c ts:=by
 have f:ts.length=n:=by have:=h.1;rw[Ff] at this;omega
 rcases h.2 with ⟨l,rfl⟩ | ⟨g,cap,s,l,u,m,r,p,v,z⟩
 ·injection l with a d h3;subst a;subst h3;exact⟨f,AJ _,AA,λb=>absurd b AA⟩
 injection l with a d h3;subst a;subst h3;have k:g<w.heap.size:=by
  rcases BD g w with k | q
  ·exact k
  rw[CZ q] at m;cases m
 refine⟨f,r,by simpa [maxLen] using p,λy=>⟨g,0,rfl,k,λj t o=>?_⟩⟩;have x:j<n:=by rw[<-f];exact (AO.1 o).1
 obtain⟨b,a,d⟩:=Zse o;refine⟨?_,?_,?_⟩
 ·rw[BF,h.cellAt (j*3) AA];exact b
 ·rw[BF,h.cellAt (j*3+1) AA];exact a
 rw[BF,h.cellAt (j*3+2) AA];exact d
theorem Zzc(p:Rul->List Bool->Bool):∀(a:List Rul) {N:List Bool},Xs p a N=N->∀r∈a,Qa p r N=N
 | [],N,h,r,b=>by cases b
 | q::a,N,h,r,b=>by
   have c:Qa p q N=N:=Qv.anti (f:=Qa p q) (g:=Xs p a) (N2 p q) (Ng p a) h;rcases BZ.1 b with rfl | b
   ·exact c
   refine Zzc p a ?_ r b;have:Xs p a (Qa p q N)=N:=h;rwa [c] at this
def Wu(a:List Rul):List Nat:=a.foldl (λo r=>N3 o r.left.toNat) []
theorem Vs(a:List Rul)(r:Rul):Wu (a++[r])=N3 (Wu a) r.left.toNat:=by simp[Wu]
theorem Ka{b:List Rul}:i∈Wu b↔∃r∈b,r.left.toNat=i:=by
 induction b using K3 with
 | h0=>simp[Wu]
 | h1 b r c =>
   rw[Vs];unfold N3;simp only[DD,BP];split
   ·rename_i h;rw[c];constructor
    ·rintro⟨q,a,rfl⟩;exact⟨q,.inl a,rfl⟩
    rintro⟨q,a | rfl,rfl⟩
    ·exact⟨q,a,rfl⟩
    exact c.1 h
   rw[DD,c,BP];constructor
   ·rintro (⟨q,a,rfl⟩ | rfl)
    ·exact⟨q,.inl a,rfl⟩
    exact⟨r,.inr rfl,rfl⟩
   rintro⟨q,a | rfl,rfl⟩
   ·exact .inl ⟨q,a,rfl⟩
   exact .inr rfl
theorem Nh(a:List Rul):(Wu a).Nodup:=by
 induction a using K3 with
 | h0=>simp[Wu]
 | h1 a r b=>rw[Vs];exact putO_nodup b _
def Ky(P Q:List Bool)(r:Rul):Bool:=Q.getD r.left.toNat false&&Xj true P r.right
def Xd(o:List Nat)(s:Int):Int:=if s<0 then -1-toI o (Zp s) else s
def Wb(o:List Nat)(r:Rul):Rul:=⟨toI o r.left.toNat,r.right.map (Xd o),r.prec⟩
theorem Mk(s:Int)(h:s<0->Zp s∈o):Xd o s<0↔s<0:=by
 unfold Xd;split
 ·rename_i h0;have:=h h0;have b:¬toI o (Zp s)<0:=λa=>Bx.1 a this;omega
 rfl
theorem G8(h0:s<0)(h:Zp s∈o):(Zp (Xd o s):Int)=toI o (Zp s):=by
 have b:¬toI o (Zp s)<0:=λa=>Bx.1 a h;show (((-1-Xd o s).toNat:Nat):Int)=_;unfold Xd;rw[if_pos h0];omega
theorem toI_part{b a:List Rul}(h:i∈Wu b):toI (Wu (b++a)) i=toI (Wu b) i:=by
 induction a using K3 with
 | h0=>rw[DK]
 | h1 a q c =>
   rw[<-DX,Vs];unfold N3;split
   ·exact c
   rename_i g;rw[Zx2 _ (λd=>g (by rw[<-d];rw[Ka] at h ⊢;obtain⟨r,j,f⟩:=h;exact⟨r,List.mem_append_left _ j,f⟩)),c]
def PreO(S:List Nat)(use n:Nat)(a:List Nat × Nat):Prop:=a.2=My a.1/\∀p i,a.1[p]? = some i->i<n/\U2 S use (My (a.1.take p)) i=true
theorem thereL_bit:∀(l:List Nat) (t:Nat),(∀i∈l,i<32)->((My l).testBit t=true↔t∈l):=by
 intro l
 induction l using K3 with
 | h0=>intro t _;simp[My]
 | h1 l i b =>
   intro t h;rw[Zzd,DS,CJ,b t λj a=>h j (List.mem_append_left _ a),Uv,DD,BP];have:=h i AE;simp[this]
theorem Mo.tail{x:Nat}{t:List Nat}(h:Mo (x::t)):Mo t:=λys y a=>h (x::ys) y (by rw[a];rfl)
theorem val_inj(xs:List Nat):∀ys,Lim xs->Lim ys->Mo xs->Mo ys->val xs=val ys->xs=ys:=by
 induction xs with
 | nil=>intro ys _ _ _ ty h;exact (Fv ys ty (by simpa [val] using h.symm)).symm
 | cons x t d =>
   intro ys a b c ty h;cases ys with
   | nil=>exact Fv _ c (by simpa [val] using h)
   | cons y s =>
     have h1:=a.cons.1;have f:=b.cons.1;simp only[val] at h;have e:x=y:=AA
     subst e;rw[d s a.cons.2 b.cons.2 c.tail ty.tail AA]
theorem toL_set(hi:i∉o):(toL n o).set i (o.length:Int)=toL n (o++[i]):=by
 refine List.ext_getElem? λj=>?_;rw[List.getElem?_set];by_cases b:j<n
 ·rw[Ji b,Cd,Ji b];split
  ·rename_i a;subst a;rw[if_pos b,Zsp hi]
  rename_i a;rw[Zx2 o (λh=>a h.symm)]
 have c:(toL n o)[j]? = none:=BE (by rw[Cd];omega);have d:(toL n (o++[i]))[j]? = none:=BE (by rw[Cd];omega);rw[c,d,Cd];split
 ·rename_i a;rw[if_neg AA]
 rfl
theorem D4{w:World}(h:N8 w A n c ts):(A=none->n=0)/\∀f,A=some f->∀j u,(V8 ts)[j]? = some u->w.cell? (f.add j)=some u:=by
 constructor
 ·intro h0;rcases BY n with h1 | h1
  ·exact h1
  obtain⟨b,g,d,_⟩:=h.2.2.2 h1;rw[h0] at d;cases d
 intro f p j u a;have s:=(AO.1 a).1;rw[Ff,h.1] at s;obtain⟨b,g,d,_,r⟩:=h.2.2.2 AA;rw[p] at d;injection d with d;subst d;have k:ts[j / 3]? = some (ts[j / 3]'(by rw[h.1];omega)):=AM _;obtain⟨c0,c1,c2⟩:=r _ _ k;obtain⟨l,m,o⟩:=Zse k;have q:(⟨b,g,none⟩:Addr).add j=⟨b,g+j,none⟩:=by
  unfold Addr.add;split
  ·rename_i h0;subst h0;rfl
  rfl
 rw[q];rcases (AA:j=j / 3*3+0\/j=j / 3*3+1\/j=j / 3*3+2) with e | e | e
 ·rw[e] at a;rw[l] at a;rw[<-BH a,<-c0];congr 2;omega
 ·rw[e] at a;rw[m] at a;rw[<-BH a,<-c1];congr 2;omega
 rw[e] at a;rw[o] at a;rw[<-BH a,<-c2];congr 2;omega
theorem nums_zeros(n:Nat):nums .i64 (List.replicate n 0)=ints .i64 (List.replicate n 0):=by simp[nums,ints]
theorem make_intsT(n:Nat)(a:n<=1000)(w:World):
 (Instr.makeSlice 30 (.int .i64 (n:Int)) (.int .i64 (n:Int))).run prog w = .ok (.slice (some ⟨w,0,none⟩) n n) (w.alloc (.cells (ints .i64 (List.replicate n 0)).toArray 3)):=by
 rw[<-nums_zeros];exact Wm (P:=prog) 30 3 .i64 8 underlying30 Tryz.infoInt n AA AA w
theorem fill_step(a:j<n):(Nb n j).set j (-1)=Nb n (j+1):=by
 unfold Nb;rw[List.set_append_right _ _ AE,Eg,Nat.sub_self];obtain⟨d,hd⟩:∃d,n-j=d+1:=⟨n-j-1,AA⟩;rw[hd,List.replicate_succ,List.set_cons_zero,show n-(j+1)=d by omega,List.replicate_succ',DX];rfl
theorem mems_get{R p:Nat}(h:(Z6 (Wy R))[p]? = some s):∃k:Nat,s=(k:Int)/\(Wy R)[p]? = some k:=by
 unfold Z6 at h;rw[BB] at h;cases a:(Wy R)[p]? with
 | none=>rw[a] at h;cases h
 | some k=>rw[a] at h;exact⟨k,by injection h with h;exact h.symm,rfl⟩
open Go.Lib Go.Sort in
theorem over_bare{w:World}{a g:Nat}(h:Zwl w a g n N)(l:a<w.heap.size)(d:g<w.heap.size)(j:n<=1000){b:Nat}(c size:Nat)(m:a≠b)(f:g≠b):
 PredOver prog 199 #[.pointer (some ⟨a,0,none⟩)] (encB n) (λs=>Xg N s.1) b c size w :=
 λk os o x _=>Zsz a g n N x.1 _ ⟨by
  unfold sortWorld
  rw[cell?_grow _ _ _ (by show a<(putRow _ _ _ _ _).heap.size;rw[size_putRow];exact l),cell?_putRow_other _ _ b c _ _ (Or.inl m)]
  exact h.1,λi hi=>by
  unfold sortWorld;rw[cell?_grow _ _ _ (by show g<(putRow _ _ _ _ _).heap.size;rw[size_putRow];exact d),cell?_putRow_other _ _ b c _ _ (Or.inl f)];exact h.2 i hi⟩ j x.2.1 x.2.2
def InG(G:Gr)(l:List Int):Prop:=∀s∈l,s<0->Zp s<G.nons.length
theorem InG.rule{G:Gr}(a:G.Fits){x:Rul}(c:x∈G.rules):InG G x.right:=λq b h0=>by
 have:=a.sym x c q b;unfold Zp;omega
theorem bare_map(N:List Bool)(ds:List (Sb n)):(ds.filter λx=>!Xg N x.1).map (λs=>s.1)=Vo N (ds.map λs=>s.1):=by
 unfold Vo;rw[List.filter_map];rfl
def Vq(xs a:List Nat):Int:=if Zm xs&&Zm a then Vm (val xs) (val a) else 0
def Zz9(xs:List Nat):Nat:=if Zm xs then bitLen (val xs) else 0
theorem bits_len32(x:Int)(w:World)(h0:0<=x)(h1:x<=4294967295):
 Calls prog 163 #[.int .u32 x] w λe w'=>e = .returned (.int .i64 (Lib.bitLen x.toNat))/\w=w':=by
 have a:Lib.len8tab.size=256:=rfl;go_enter func163,ntmps163;go_wp2;all_goals go_ret
 ·refine⟨Bo ?_,rfl⟩;have e:(x / 65536 / 256).toNat=x.toNat / 16777216:=AA
  have l:=Lib.bitLen_le8' (x / 65536 / 256) AA AA;have s:=Lib.bitLen_shift24 x.toNat AA AA;rw[<-e] at s;simp only[Bs];rw[Wq (Lib.bitLen _:Int) AA AA,Wq _ AA AA];omega
 ·refine⟨Bo ?_,rfl⟩;have e:(x / 65536).toNat=x.toNat / 65536:=AA
  have l:=Lib.bitLen_le8' (x / 65536) AA AA;have s:=Lib.bitLen_shift16 x.toNat AA AA;rw[<-e] at s;simp only[Bs];rw[Wq (Lib.bitLen _:Int) AA AA,Wq _ AA AA];omega
 ·refine⟨Bo ?_,rfl⟩;have e:(x / 256).toNat=x.toNat / 256:=AA
  have l:=Lib.bitLen_le8' (x / 256) AA AA;have s:=Lib.bitLen_shift8 x.toNat AA AA;rw[<-e] at s;simp only[Bs];rw[Wq (Lib.bitLen _:Int) AA AA,Wq _ AA AA];omega
 refine⟨Bo ?_,rfl⟩;have l:=Lib.bitLen_le8' x AA AA;simp only[Bs];rw[Wq (Lib.bitLen _:Int) AA AA,Wq _ AA AA]
theorem Be(k:IntKind)(xs:List Nat)(j x:Nat):nums k (xs.set j x)=(nums k xs).set j (.int k (x:Int)):=by simp[nums,List.map_set]
def SubRel(w:World)(A:Option Addr)(n c:Nat)(xs a:List Nat)(b i:Value)(wr:World):Prop :=
 ∃k:Nat,k<=n/\i = .int .i64 (k:Int)/\b = .int .u32 ((Xn xs a k).2:Int) /\
  wr.ownsRow w.heap.size 41 1 (.slice A n c) n (nums .u32 ((Xn xs a k).1++xs.drop k))/\Below w.heap.size w wr
theorem Zql(b:List Nat)(z:Nat)(l:Lim b)(f:z≠0):bitLen (val (b++[z]))=32*b.length+bitLen z:=by
 have c:=Ui b l;rw[Wf];have j:(4294967296:Nat) ^ b.length=2 ^ (32*b.length):=by rw[Nat.pow_mul]
 rw[j] at c ⊢;generalize val b=a at *;generalize 32*b.length=k at *;have h0:0<2 ^ k:=Nat.two_pow_pos k;have n:2 ^ k*1<=2 ^ k*z:=Ei _ AA;unfold bitLen;rw[if_neg AA,if_neg f];have e:(a+2 ^ k*z) / 2 ^ k=z:=by
  rw[Nat.add_mul_div_left _ _ h0,Nat.div_eq_of_lt c,BF]
 have h1:2 ^ (z.log2+k)<=a+2 ^ k*z:=by
  have:=Nat.log2_self_le f;rw[Nat.pow_add,Ef];have:=Ei (2 ^ k) this;omega
 have g:a+2 ^ k*z<2 ^ (z.log2+k+1):=by
  have m:z<2 ^ (z.log2+1):=Nat.lt_log2_self;have h:2 ^ k*(z+1)<=2 ^ k*2 ^ (z.log2+1):=Ei _ AA;rw[<-Nat.pow_add,DL] at h;rw[show z.log2+k+1=k+(z.log2+1) from by omega];omega
 have:(a+2 ^ k*z).log2=z.log2+k:=by
  have d:a+2 ^ k*z≠0:=AA
  apply Nat.le_antisymm
  ·have:=(Nat.log2_lt d).2 g;omega
  exact (Nat.le_log2 d).2 h1
 omega
def TwRel(w:World)(xs:List Nat)(bit:Nat)(b o i:Value)(wr:World):Prop :=
 ∃(k:Nat) (A:Option Addr) (a:Nat),k<=xs.length/\i = .int .i64 (k:Int)/\b = .int .u32 ((twP xs bit k).2:Int)/\o = .slice A k a /\
  wr.ownsRow w.heap.size 41 1 (.slice A k a) k (nums .u32 (twP xs bit k).1)/\Below w.heap.size w wr
@[irreducible] def RetTake (w:World) (xs d:List Nat) (e:Ending) (w':World):Prop :=
  ∃(A:Option Addr) (c:Nat),e = .returned (.tuple #[.slice A (Xx (Xn xs d xs.length).1).length c,.bool (decide ((Xn xs d xs.length).2=0/\d.length<=xs.length))]) /\
   Zq .u32 w' A (Xx (Xn xs d xs.length).1).length c (Xx (Xn xs d xs.length).1)/\Below w.heap.size w w'/\(∀b a,A=some ⟨b,a,none⟩->w.heap.size<=b)
@[irreducible] def RetTk (w:World) (a b:Nat) (e:Ending) (w':World):Prop :=
  ∃(A:Option Addr) (c:Nat) (d:List Nat),e = .returned (.tuple #[.slice A d.length c,.bool (decide (b<=a))]) /\
   Zq .u32 w' A d.length c d/\Below w.heap.size w w'/\(∀b f,A=some ⟨b,f,none⟩->w.heap.size<=b)/\Hid (b<=a->d=limbs (a-b))
def RLessRel(w:World)(xs b:List Nat)(o c i:Value)(wr:World):Prop :=
 ∃(k:Nat) (A:Option Addr) (a:Nat),k<=33/\i = .int .i64 (k:Int)/\c = .int .u64 ((Xn xs b k).2:Int)/\o = .slice A k a /\
  wr.ownsRow w.heap.size 41 1 (.slice A k a) k (nums .u32 (Xn xs b k).1)/\Below w.heap.size w wr
theorem Do.done{b:Nat->Bool}{u:Nat->Value}{p:Nat}{c:Value}(h:Do b u p c)(i:Nat)(v:Value):Do (Mz b p) (upd u p v) p c:=λa=>by
 rw[Ztw] at a;cases a
def badU(G:Gr)(n:Int)(a:List Nat):Prop:=G.right=false\/n<0\/10<n\/Zm a=false
def Zrs(xs:List Nat):Nat:=Zz9 (Mw xs (limbs 1)).1
def B9(xs:List Nat):Nat:=(Zrs xs+31) / 32
theorem Zqf(xs:List Nat)(h:B9 xs≠0):32*(B9 xs-1)<Zrs xs/\Zrs xs<=32*B9 xs:=by
 unfold B9 at *;omega
structure Zrk (w:World) (B:Nat) (A:Option Addr) (n c:Nat) (vs:List Value) (xss:List (List Nat)):Prop where
 own:w.ownsRow B 30 1 (.slice A n c) n vs
 noInt:∀g,(Value.slice A n c).ownBlock=some g->Qf w g
 len:xss.length=n
 row:∀(j:Nat) xs,xss[j]? = some xs->∃Aj cj,vs[j]? = some (.slice Aj xs.length cj)/\Za .i64 w Aj xs.length cj (Zrc xs)
def Zrn(w:World)(A:Option Addr)(n c:Nat)(g:List (List Nat)):Prop :=
 g.length=n/\n<=c/\c<=9223372036854775807/\(0<n->∃b f,A=some ⟨b,f,none⟩/\b<w.heap.size/\∀(j:Nat) xs,g[j]? = some xs->∃a d,w.cell? ⟨b,f+j,none⟩=some (.slice a xs.length d)/\Za .i64 w a xs.length d (Zrc xs))
section
variable {P:Program} {w:World}
theorem Zxz{o:Oper}{a:Act}(S:o.guard=none)(s x:Operand)(t:TypeId)(W:o.op = .call { callee := .builtin .append,args:=#[s,x],argTypes:=#[t,t] })(base:Nat)(e:TypeId)(z:Value)(bytes:Nat)(E:P.underlying t=some (.slice e))(hi:(P.info? e).map (λi=>(i.zero,i.size,i.bytes))=some (some z,1,bytes))(ae:z.cells.size=1)(A:Option Addr)(n c:Nat)(xs:List Value)(Y:a.eval s = .slice A n c)(B:w.ownsRow base e 1 (.slice A n c) n xs)(q:Option Addr)(m c2:Nat)(d:List Value)(hx:a.eval x = .slice q m c2)(k:Sl w q m c2 d)(G:∀u∈d,u.oneCell'=true)(I:n+m<=9223372036854775807)(N:(n+m)*bytes<=140737488355328)(L:base<=w.heap.size)(h:∀p r w',w'.ownsRow base e 1 (.slice p (n+m) r) (n+m) (xs++d)->w.grownBy w' (Value.slice A n c).ownBlock->
   wpList P ops Q rest (a.put o.dst (.slice p (n+m) r)) w'):wpList P ops Q (o::rest) a w:=by
 obtain⟨i,D,hz,Z,M⟩:=info_parts hi;have key:∃l w',(Builtin.append_ #[t,t] o.type #[.slice A n c,.slice q m c2]).run P w = .ok l w'/\w'.ownsRow base e 1 l (n+m) (xs++d)/\w.grownBy w' (Value.slice A n c).ownBlock:=by
  rcases q with _ | C
  ·have U:m=0:=by
    rcases BY m with f | f
    ·exact f
    obtain⟨b,af,g,_⟩:=k.2.2.2 (by rw[k.1];exact f);cases g
   subst U;have V:d=[]:=BJ k.1;subst V;exact⟨_,w,Gz base t o.type e i E D A n c xs B c2,by simpa using B,⟨rfl,rfl,rfl,AJ _,λ_ _ _=>rfl⟩⟩
  have R:∀j u,d[j]? = some u->w.cell? (C.add j)=some u:=by
   intro j u F;have T:j<d.length:=(AO.1 F).1;obtain⟨b,af,g,_,O⟩:=k.2.2.2 AA;injection g with g;subst g;have:=O j T;rw[F] at this;unfold Addr.add;split
   ·rename_i f;subst f;simpa using this
   exact this
  obtain⟨l,w',v,y,H,_⟩:=run_append_own (P:=P) w base t o.type e i z 1 bytes E D hz Z M ae AC _ n xs B C m c2 d (by rw[k.1,Ej]) R G (by simpa [maxLen] using I) N L;exact⟨l,w',v,y,H⟩
 obtain⟨l,w',X,v,y⟩:=key;obtain⟨p,r,rfl⟩:=M3 v;refine wpList_plain S λK J=>?_;unfold Oper.wp execOp;simp only[W,resolve,invoke,builtin,Sem.run_bind,Sem.run_pure,Result.andThen_ok,List.map_toArray,CU,List.map_nil,Y,hx,X];exact J _ _ (h p r w' v y)
theorem Vc{o:Oper}{a:Act}(v:o.guard=none)(s x:Operand)(t:TypeId)(B:o.op = .call { callee := .builtin .append,args:=#[s,x],argTypes:=#[t,t] })(base:Nat)(e:TypeId)(z:Value)(bytes:Nat)(E:P.underlying t=some (.slice e))(hi:(P.info? e).map (λi=>(i.zero,i.size,i.bytes))=some (some z,1,bytes))(G:z.cells.size=1)(A:Option Addr)(n c:Nat)(xs:List Value)(D:a.eval s = .slice A n c)(C:w.ownsRow base e 1 (.slice A n c) n xs)(u:Value)(F:a.eval x = .slice (some ⟨w,0,none⟩) 1 1)(m:u.oneCell'=true)(q:n+1<=9223372036854775807)(r:(n+1)*bytes<=140737488355328)(H:base<=w.heap.size)(h:∀f g w',w'.ownsRow base e 1 (.slice f (n+1) g) (n+1) (xs++[u])->w.grownBy w' (Value.slice A n c).ownBlock->
   wpList P ops Q rest (a.put o.dst (.slice f (n+1) g)) w'):wpList P ops Q (o::rest) a (w.alloc (.cells #[u] e)):=by
 have y:=World.ownsRow_lit (base:=w.heap.size) (e:=e) (size:=1) w #[u] 1 (AJ _) (by simp[maxLen]) AE;refine Zxz v s x t B base e z bytes E hi G A n c xs D (C.alloc _) _ 1 1 [u] F (Yl y) (by simpa using m) q r AG λf g w' p d=>?_;refine h f g w' p ?_;have b:w.grownBy (w.alloc (.cells #[u] e)) (Value.slice A n c).ownBlock:=World.grownBy_alloc _ _ _;refine⟨d.os.trans b.os,d.tape.trans b.tape,d.output.trans b.output,BC b.size d.size,λk j l=>?_⟩;exact (d.block k (AK j b.size) l).trans (b.block k j l)
end
section
open Go.ChangeShapes Go.WideShapes Go.ChangeAt Go.RowKit
open Ieee
theorem Ux{P:Program}(w:World)(src e f:TypeId)(l:P.underlying src=some (.slice e))(g:P.underlying e=some (.int .u8))(hd:P.underlying f=some .string)(A:Option Addr)(c:Nat)(a:List Nat)(h:Zq .u8 w A a.length c a):(convert src f (.slice A a.length c)).run P w = .ok (.string (str a)) w:=by
 have n:strOfNums (a.map λ(x:Nat)=>(x:Int))=str a:=by simp[strOfNums,str,Function.comp_def]
 rcases A with _ | m
 ·have d:a.length=0:=by
   rcases BY a.length with d | d
   ·exact d
   obtain⟨b,j,g,_⟩:=h.at_ d;cases g
  obtain rfl:=BJ d;exact run_convert_bytes_nil w src e l g _ _ f hd
 by_cases d:0<a.length
 ·obtain⟨b,j,k,_,o⟩:=h.at_ d;injection k with k;subst k;rw[run_convert_bytes_arg w src e l g b j a.length c (a.map λ(x:Nat)=>(x:Int)) AE (λi hi=>by
   rw[o i hi];simp[AM hi]) f hd,n]
 obtain rfl:=BJ (show a.length=0 by omega);obtain⟨b,j,p⟩:=m;simp only[DE];rw[run_convert_bytes_string w src f e _ _ _ l g hd,run_bytesToString w ⟨b,j,p⟩ 0 c [] (by simp[loadCells,loadCellsFrom])];rfl
theorem Vd(l:List Nat)(h:∀c∈l,c<256):Zh (str l)=l:=by
 simp only[Zh,str,List.map_map]
 conv=>rhs;rw[<-List.map_id l]
 apply List.map_congr_left;intro c a;have:=h c a;simp only[Function.comp,id,UInt8.toNat_ofNat'];omega
theorem Zs1(l:List Nat):(str l).size=l.length:=by
 show (str l).data.size=_;simp[str]
end
section
open Go.RowKit Go.Shelf
attribute [local go_sem] Oper.semAt_some
open Go.RowKit Go.Shelf Go.Sort
def RetSorted(w:World)(a:List ByteArray)(e:Ending)(w':World):Prop :=
 Below w.heap.size w w'/\((a=[]/\e = .returned (.slice none 0 0)) \/
  ∃g cap,e = .returned (.slice (some ⟨g,0,none⟩) a.length cap)/\w.heap.size<=g/\g<w'.heap.size/\a.length<=cap/\Holds encStr w' g 0 ((byL a).mergeSort λx y=>decide (x<=y)).toArray)
theorem Zxg(s:ByteArray)(w:World):
 Calls prog 113 #[.string s] w λe w'=>e = .returned (.bool (Q7 s))/\w=w':=by
 have c1:=Zx8 s w;have c2:=Gb s w;unfold Q7;generalize Xi (Zh s)=p at *;generalize H5 (Zh s)=q at *;have a:=LH c1;have b:=LH c2;clear c1 c2;cases p;all_goals
  go_enter func113,ntmps113;go_wp2_with (first
   | (go_at_call 116;refine a.out.mono ?_;rintro e w'⟨rfl,rfl⟩)
   | (go_at_call 169;refine b.out.mono ?_;rintro e w'⟨rfl,rfl⟩))
  go_ret;exact⟨rfl,rfl⟩
end
section
open Go.RowKit Go.Maps
theorem Ways.zero(h:Ways D p)(b:t.level=0):Ways D (p++[t]) :=
 ⟨h.tidy,λL a=>by rw[h.at_ L a,Nx,if_neg AA],λL a=>by rw[h.has_ L a,Kf,show decide (t.level=L)=false from by simp;omega,Bool.or_false],by rw[h.size_,cntL_zero p t b]⟩
theorem Ways.more(h:Ways D p)(d:1<=t.level)(f:t.level<=24):Ways (D.put (.int .i64 t.level) (.lit (.int .i64 t.assoc))) (p++[t]):=by
 refine⟨h.tidy.put (Zud _) _,λL c=>?_,λL c=>?_,?_⟩
 ·rw[Nx];by_cases b:t.level=L
  ·subst b;rw[if_pos rfl,atKey_put_same h.tidy.isMap (Zud _)]
  rw[if_neg b,atKey_put_other (by intro a;injection a with _ a;exact b a.symm),h.at_ L c]
 ·rw[Kf];by_cases b:t.level=L
  ·subst b;rw[has_put_same h.tidy.isMap (Zud _)];simp
  rw[has_put_other (by intro a;injection a with _ a;exact b a.symm),h.has_ L c];simp[b]
 rw[size_put h.tidy,h.has_ _ d,h.size_,cntL_snoc p t d f]
def Gr.aheadP(G:Gr):Bool:=H0 G.terms&&Yb G.nons.length 1 16&&Yb G.rules.length 1 40&&decide G.names.Nodup&&Yb G.start 0 ((G.nons.length:Int)-1)
def Gr.rightP(G:Gr):Bool:=G.aheadP&&!(G.nons.any λs=>!Xi (Zh s))&&decide (G.leftsGo G.rules (-1)=some ((G.nons.length:Int)-1))
theorem right_same(G:Gr):G.rightP=G.right:=by
 rw[Cs];unfold Gr.rightP Gr.right Gr.aheadP Gr.termsOK Gr.nonsOK H0 Yb;simp only[AU,decide_eq_true_eq,BG,names_nodup,allI_iff,Gr.termOK,Gr.nonOK,Bool.not_eq_true',List.any_eq_false,Bool.not_eq_true,Bool.not_eq_false'];constructor
 ·rintro⟨⟨⟨⟨⟨⟨⟨f,c,h⟩,g⟩,o⟩,k,l⟩,q⟩,p⟩,n⟩;rw[Zzf _ f,BG] at h;exact⟨⟨⟨⟨⟨c,λj t a=>⟨⟨l j t a,f t (AN a)⟩,h t (AN a)⟩⟩,AA,λj s b=>⟨⟨by simpa using p s (AN b),(k j s b).1⟩,(k j s b).2⟩⟩,AA⟩,AA⟩,n⟩
 rintro⟨⟨⟨⟨⟨f,c⟩,h,g⟩,o⟩,k⟩,l⟩;have m:∀t∈G.terms,Up t=true:=λt a=>by
  obtain⟨j,d⟩:=BU a;exact (c j t d).1.2
 refine⟨⟨⟨⟨⟨⟨⟨m,f,?_⟩,AA⟩,AA⟩,λi s b=>⟨(g i s b).1.2,(g i s b).2⟩,λi t a=>(c i t a).1.1⟩,AA⟩,λs b=>?_⟩,l⟩
 ·rw[Zzf _ m,BG];intro t a;obtain⟨j,d⟩:=BU a;exact (c j t d).2
 obtain⟨j,d⟩:=BU b;simpa using (g j s d).1.1
theorem Tryz.infoStr:(prog.info? 9).map (λi=>(i.zero,i.size,i.bytes))=some (some (.string ByteArray.empty),1,16):=AB
theorem leftsP_bad(G:Gr){k:Nat}{r:Rul}{T:Int}(j:G.rules[k]? = some r)(h:G.leftsGo (G.rules.take k) (-1)=some T)(d:(Yb r.left 0 (T+1)&&G.ruleOK r)=false):G.rightP=false:=by
 have g:G.leftsGo (G.rules.take (k+1)) (-1)=none:=by
  rw[Du,j,Option.toList_some,Gr.leftsGo_snoc,h];simp only[Option.bind_some];rw[if_neg];rintro⟨a,b,c⟩;rw[c] at d;unfold Yb at d;simp[a,b] at d
 have f:=Gr.leftsGo_none G (G.rules.take (k+1)) (G.rules.drop (k+1)) (-1) g;rw[List.take_append_drop] at f;unfold Gr.rightP;rw[f];simp
theorem leftsP_good(G:Gr){k:Nat}{r:Rul}{T:Int}(c:G.rules[k]? = some r)(h:G.leftsGo (G.rules.take k) (-1)=some T)(a:Yb r.left 0 (T+1)=true)(b:G.ruleOK r=true):G.leftsGo (G.rules.take (k+1)) (-1)=some (max T r.left):=by
 rw[Du,c,Option.toList_some,Gr.leftsGo_snoc,h];simp only[Option.bind_some];have:=Ud a;rw[if_pos ⟨this.1,this.2,b⟩]
theorem Blk.frozen{w:World}{g:Nat}{t:TypeId}(h:Blk w g t cs)(i:Nat):w.frozen? ⟨g,i,none⟩=false:=by
 unfold Blk at h;simp[World.frozen?,h]
theorem Zg{w:World}(h:Below w w w')(g i:Nat)(v:Value)(a:w.heap.size<=g):Below w w (w'.setCell ⟨g,i,none⟩ v):=h.trans (Zn (Zd _ _ _ _) h.size a)
theorem Tryz.infoBool:(prog.info? 4).map (λi=>(i.zero,i.size,i.bytes))=some (some (.bool false),1,1):=AB
end
theorem Tryz.infoI64C:(prog.info? 3).map (λi=>(i.zero,i.size,i.bytes))=some (some (.int .i64 0),1,8):=AB
section
variable {P:Program}
def Zvw(ops:Array Oper):Bool:=(List.range ops.size).all λi=>((ops[i]?).map λo=>o.after.all λe=>decide (e.on<i)).getD true
theorem F6(hi:i<n)(b:listed.getD i true=false):leftN n (listed.setIfInBounds i true)<leftN n listed:=by
 unfold leftN;have c:i<listed.size:=by
  rcases BD i listed.size with h | h
  ·exact h
  simp[Array.getD,Nat.not_lt.2 h] at b
 have e:((List.range n).filter λj=>!(listed.setIfInBounds i true).getD j true)=(((List.range n).filter λj=>!listed.getD j true).filter λj=>decide (j≠i)):=by
  rw[List.filter_filter];apply List.filter_congr;intro j _;by_cases a:i=j
  ·subst a;simp[Array.getD,c]
  rw[getD_set_ne true a];simp[Ne.symm a]
 rw[e,List.length_filter_lt_length_iff_exists];exact⟨i,List.mem_filter.2 ⟨BQ.2 hi,by simp[b]⟩,AE⟩
theorem Zwd(f:Zvw ops=true)(h:Region.ready .any ops listed=[]):∀i,i<ops.size->listed.getD i true=true:=by
 intro i
 induction i using Nat.strongRecOn with
 | ind i k =>
   intro hi;cases b:listed.getD i true with
   | true=>rfl
   | false =>
     exfalso;have a:i∈Region.ready .any ops listed:=by
      refine mem_ready.2 ⟨b,ops[i],Array.getElem?_eq_getElem hi,λe g _=>?_⟩;have h1:=BG.1 f i (BQ.2 hi);rw[Array.getElem?_eq_getElem hi,Ek,Option.getD_some,Array.all_eq_true_iff_forall_mem] at h1;have c:=DI (h1 e g);have d:=k e.on c AA;have l:i<listed.size:=by
       rcases BD i listed.size with h | h
       ·exact h
       simp[Array.getD,Nat.not_lt.2 h] at b
      have j:e.on<listed.size:=AA
      simpa [Array.getD,j] using d
     rw[h] at a;cases a
end
section
open Go.Maps (Keyed IsMap Tidy)
theorem toI_more(a:j∉o)(h:i≠j):toI (o++[j]) i=toI o i:=by
 have e:=toL_set (n:=i+j+1) (o:=o) (i:=j) a;have h1:=Ji (n:=i+j+1) (o:=o++[j]) (i:=i) AA;rw[<-e,List.getElem?_set_ne AA,Ji AA] at h1;exact (BH h1).symm
theorem Fy(n:Nat):(zeroCells n).size=n*2:=by
 unfold zeroCells;simp only[List.size_toArray]
 induction n with
 | zero=>rfl
 | succ n a=>rw[DQ,List.flatMap_append,AV,a];simp;omega
def AddRel(w:World)(xs ys:List Nat)(n:Nat)(B:Nat)(c i:Value)(wr:World):Prop :=
 ∃k:Nat,k<=n/\i = .int .i64 (k:Int)/\c = .int .u32 ((V4 xs ys k).2:Int)/\Own wr B 41 .u32 ((V4 xs ys k).1++List.replicate (n+1-k) 0)/\Below B w wr
def RAddRel(w:World)(xs ys:List Nat)(o c i:Value)(wr:World):Prop :=
 ∃(k:Nat) (A:Option Addr) (a:Nat),k<=33/\i = .int .i64 (k:Int)/\c = .int .u64 ((V4 xs ys k).2:Int)/\o = .slice A k a /\
  wr.ownsRow w.heap.size 41 1 (.slice A k a) k (nums .u32 (V4 xs ys k).1)/\Below w.heap.size w wr
theorem Tryz.keyKT:Keyed prog 257:=Keyed.of_law (deep_law_laid Tryz.laidOut (m:=2) AA Tryz.rowKT AB Tryz.wideKT)
theorem Tryz.keyKF:Keyed prog 261:=Keyed.of_law (deep_law_laid Tryz.laidOut (m:=2) AA Tryz.rowKF AB Tryz.wideKF)
end
section
variable {P:Program} {M:World->Prop} {R:World->World->Prop}
def JF(l:List Oper)(n:Nat)(M:World->Prop)(F:(Nat->Value)->Act)(D:Nat->Value->World->Prop)(fin:(Nat->Value)->World->Prop)(listed:Array Bool)(a:Act)(X:World):Prop :=
 ∃u,a=F u/\listed.size=l.length/\(∀i o,l[i]? = some o->listed.getD i false=true->∀p,onB o p=true->listed.getD p false=true) /\
  (∀i,i≠n->listed.getD i false=true->listed.getD n false=false->D i (u i) X)/\(listed.getD n false=false->M X)/\(listed.getD n false=true->fin u X)
theorem Uj(hi:i<listed.size):(listed.setIfInBounds i true).getD j false=if j=i then true else listed.getD j false:=by
 by_cases h:j=i
 ·subst h;rw[if_pos rfl];simp[Array.getD,hi]
 rw[if_neg h,Array.getD_eq_getD_getElem?,Array.getD_eq_getD_getElem?,Array.getElem?_setIfInBounds_ne (Ne.symm h)]
theorem Zu4(h:listed.getD i true=false):i<listed.size/\listed.getD i false=false:=by
 simp only[Array.getD] at h ⊢;split at h
 ·rename_i hi;exact⟨hi,by rw[dif_pos hi];exact h⟩
 cases h
theorem D9{l:List Oper}(c:∀i o,l[i]? = some o->listed.getD i false=true->∀p,onB o p=true->listed.getD p false=true):
 ∀(f j i:Nat),ancF l f j i=true->listed.getD j false=true->listed.getD i false=true
 | 0,_,_,h,_=>by cases h
 | f+1,j,i,h,hj=>by
   unfold ancF at h;cases b:l[j]? with
   | none=>rw[b] at h;cases h
   | some o =>
     rw[b] at h;simp only[Array.any_eq_true] at h;obtain⟨k,g,h⟩:=h;rw[AU,CJ,BA] at h;have d:=c j o b hj _ (Zyf.2 ⟨_,Array.getElem_mem g,h.1,rfl⟩);rcases h.2 with a | a
     ·rw[<-a];exact d
     exact D9 c f _ i a d
end
section
open Ieee
theorem Own.drew{w:World}{g:Nat}{t:TypeId}{k:IntKind}(h:Own w g t k a):Own w.drew g t k a:=h
theorem Zq.drew{k:IntKind}{w:World}(h:Zq k w A n c xs):Zq k w.drew A n c xs:=h
end
section
open Ieee
open Go.Maps (Keyed IsMap Tidy)
theorem Tryz.keyKB:Keyed prog 220:=Keyed.of_law (deep_law_laid Tryz.laidOut (m:=2) AA Tryz.rowKB AB Tryz.wideKB)
def codeB:Value->Nat
 | .agg cs=>(match cs.getD 0 undef with | .string t=>Ds (Zh t) | _=>0)*1000+(intOf (cs.getD 1 undef)).toNat
 | _=>0
theorem Zx6(h:Zwx l)(n:Nat):codeB (kB l n)=Ds (Vr l)*1000+n:=by
 show Ds (Zh (str (Vr l)))*1000+n=_;rw[Vd _ λc a=>by have:=Dy h c a;omega]
theorem lefts_range(G:Gr):∀(a:List Rul) (t:Int),G.leftsGo a (-1)=some t->Wu a=List.range (t+1).toNat:=by
 intro a
 induction a using K3 with
 | h0=>intro t h;simp[Gr.leftsGo] at h;subst h;rfl
 | h1 a r f =>
   intro t h;rw[Gr.leftsGo_snoc] at h;cases b:G.leftsGo a (-1) with
   | none=>rw[b] at h;cases h
   | some l =>
     rw[b,Option.bind_some] at h;have g:=G.leftsGo_bd a (-1) l AA b;split at h
     ·rename_i j;have e:max l r.left=t:=BH h;rw[Vs,f l b];unfold N3;by_cases k:r.left<=l
      ·rw[if_pos (by rw[BQ];omega)];congr 1;omega
      rw[if_neg (by rw[BQ];omega)];have c:r.left=l+1:=AA
      have d:(t+1).toNat=(l+1).toNat+1:=AA
      rw[d,DQ,c]
     cases h
end
section
variable {P:Program} {Γ:Type} {R:World->World->Prop}
def JG(l:List Oper)(M:Γ->(Nat->Bool)->(Nat->Value)->World->Prop)(F:(Nat->Value)->Act)(D:Nat->Value->World->Prop)(listed:Array Bool)(a:Act)(X:World):Prop :=
 ∃u g,a=F u/\listed.size=l.length/\G9 l (λi=>listed.getD i false)/\M g (λi=>listed.getD i false) u X/\(∀i,listed.getD i false=true->D i (u i) X)
def backA(l:List Oper):Bool:=(List.range l.length).all λi=>((l[i]?).map λo=>o.after.toList.all λe=>!Region.binds .any e || decide (e.on<i)).getD true
end
section
variable {W0:World} {k:BkH} {h:GH} {G:Gr} {S':Nat->Prop} {w:World} {gR:Nat} {b:Nat->Bool} {u:Nat->Value} {X:World}
def Zu(w w':World):Prop:=w.heap.size<=w'.heap.size/\∀b,b<w.heap.size->(∃o z,w.cell? ⟨b,o,none⟩=some (Value.int .u32 z))->w'.heap[b]? = w.heap[b]?
theorem Zu.of_int{w:World}(h:Zf w w'):Zu w w':=⟨h.1,λb a ⟨o,z,c⟩=>h.2 b a ⟨o,.u32,z,c⟩⟩
def M4(w:World)(base:Nat)(A:Option Addr)(n c:Nat)(xs:List Int):Prop :=
 w.ownsRow base 3 1 (.slice A n c) n (ints .i64 xs)/\∀g,(Value.slice A n c).ownBlock=some g->∀(o:Nat) (v:Value),w.cell? ⟨g,o,none⟩=some v->∃z,v = .int .i64 z
theorem M4.no32{w:World}{xs:List Int}(h:M4 w base A n c xs):∀g,(Value.slice A n c).ownBlock=some g->∀o z,w.cell? ⟨g,o,none⟩≠some (Value.int .u32 z):=λg b o z a=>by
 obtain⟨y,d⟩:=h.2 g b o _ a;cases d
theorem Xy(T:Int->Nat->Nat)(s:Int)(l:List Int)(n k:Nat):Yv T s l n (k+1)=Yv T s l n k+T s k*Zx T l (n-k):=Nr (λj=>T s j*Zx T l (n-j)) k
theorem Jn(T:Int->Nat->Nat)(s:Int)(l:List Int)(n:Nat):Yv T s l n (n+1)=Zx T (s::l) n:=rfl
theorem Wz(T:Int->Nat->Nat)(s:Int)(l:List Int)(n:Nat){k a:Nat}(h:k<=a):Yv T s l n k<=Yv T s l n a:=by
 obtain⟨d,rfl⟩:=Nat.exists_eq_add_of_le h
 induction d with
 | zero=>exact AJ _
 | succ d b=>rw[<-DZ,Xy];exact BC (b (DF _ _)) (DF _ _)
theorem InG.tail{G:Gr}(h:InG G (s::l)):InG G l:=λq a=>h q (BO _ a)
theorem Lc{a q T F r:Nat}(h1:a+q<T)(b:r<F):(a+q)*F+r<T*F :=
 AK (Nat.add_lt_add_left b _) (by rw[<-Nat.succ_mul];exact Es _ h1)
theorem ahead_one{k v f:Nat}(h1:v<T s k*Zx T l (n-k))(g:f<T s c*Zx T l (n-c))(h:Yv T s l n k+v=Yv T s l n c+f):k=c/\v=f:=by
 have a:=Xy T s l n k;have b:=Xy T s l n c;rcases Nat.lt_trichotomy k c with d | rfl | d
 ·have:=Wz T s l n (show k+1<=c from d);omega
 ·exact⟨rfl,AA⟩
 have:=Wz T s l n (show c+1<=k from d);omega
theorem Zwn{r:Nat}:∀{m:Nat},r<Yv T s l n m->∃k v,k<m/\r=Yv T s l n k+v/\v<T s k*Zx T l (n-k)
 | 0,h=>absurd h (Nat.not_lt_zero _)
 | m+1,h=>by
   by_cases b:r<Yv T s l n m
   ·obtain⟨k,v,c,h1,a⟩:=Zwn b;exact⟨k,v,AA,h1,a⟩
   rw[Xy] at h;exact⟨m,r-Yv T s l n m,AA,AA,AA⟩
end
theorem Zxk{k q:Nat}(j:k<=n)(m:q<T s k)(d:c<Zx T l (n-k))(h:Zx T (s::l) n<big):
 T s k<big/\Zx T l (n-k)<big/\q*Zx T l (n-k)+c<T s k*Zx T l (n-k):=by
 have h1:Yv T s l n (k+1)<=Zx T (s::l) n:=by
  rw[<-Jn];exact Wz T s l n AA
 rw[Xy] at h1;have f:T s k<=T s k*Zx T l (n-k):=Nat.le_mul_of_pos_right _ AA;have g:Zx T l (n-k)<=T s k*Zx T l (n-k):=Nat.le_mul_of_pos_left _ AA;have b:=Lc (a:=0) (q:=q) (AA:0+q<T s k) d;rw[BF] at b;exact⟨AA,AA,b⟩
theorem made_vals(n:Nat):madeCells #[Value.slice none 0 0,Value.bool false] (n*2)=zeroCells n:=by
 apply Array.ext_getElem?;intro j;by_cases c:j<n*2
 ·have b:=Cl n (j / 2) AA;have a:(madeCells #[Value.slice none 0 0,Value.bool false] (n*2))[j]? = some (if j % 2=0 then Value.slice none 0 0 else Value.bool false):=by
   simp[madeCells,c];rcases Nat.mod_two_eq_zero_or_one j with h | h <;> simp[h]
  rw[a];rcases Nat.mod_two_eq_zero_or_one j with h | h
  ·rw[if_pos h,<-b.1];congr 1;omega
  rw[if_neg AA,<-b.2];congr 1;omega
 have a:(madeCells #[Value.slice none 0 0,Value.bool false] (n*2)).size=n*2:=by simp[madeCells]
 have d:=Fy n;rw[CZ AA,CZ AA]
section
open Go.RowKit Go.Shelf
attribute [local go_sem] Oper.semAt_some
open Go.RowKit Go.Shelf
open Go.RowKit Go.Shelf
attribute [local go_sem] Oper.semAt_some
theorem nobad24(h:Zm a=true):¬badU Xt 4 a:=by
 rintro (x | x | x | x)
 ·rw[Zxf] at x;cases x
 ·omega
 ·omega
 rw[h] at x;cases x
end
