/- Words for slices that read as lists: no program in sight. -/
import Derived.Test.YtaagompdgiobeaaGreatDoorV00
import Derived.Test.YtaagompdgiobeaaGreatDoorUQGrShelf
import Derived.SliceStrings
import Derived.Lib.SmallJoins
import Derived.Deep.Slices
set_option linter.all false
set_option maxHeartbeats 1500000
set_option maxRecDepth 100000
namespace Go.Proofs.YtaagompdgiobeaaGreatDoor
open Go.RowKit Go.Proofs.Tryz
variable{a k j base' e size N i:Nat}{b:Nat->Bool}{l:List Oper}{α:Type}{v:Value}{xs:List Value}{A:Option Addr}{L:Array Bool->Act->Prop}{Q':Exit->Act->World->Prop}{u:Nat->Value}{tab:Nat->Nat->Nat}
def lenOf:Value->Nat
 | .slice _ n _=>n
 | _=>0
def hasN(s:Nat)(n:Int):Bool:=decide (0<=n/\n<32)&&s.testBit n.toNat
def Wy(s:Nat):List Nat:=(List.range 32).filter (λn=>s.testBit n)
theorem Ct{b:Nat}(c:a<4294967296)(d:b<4294967296):a ||| b<4294967296:=Nat.or_lt_two_pow (n:=32) c d
theorem and_pow(s k:Nat):s &&& 2 ^ k=if s.testBit k then 2 ^ k else 0:=by
 apply Nat.eq_of_testBit_eq;intro i;rw[Nat.testBit_and,Nat.testBit_two_pow];by_cases h:k=i
 ·subst h;cases a:s.testBit k <;> simp
 cases a:s.testBit k <;> simp[h,Nat.testBit_two_pow]
theorem Zx7(s:Nat)(a:s<4294967296)(i:Nat)(hi:32<=i):s.testBit i=false :=
 Nat.testBit_lt_two_pow (AK a (by simpa using CV (n:=2) AC hi))
theorem Zwo(s:Nat)(n:Nat):n∈Wy s↔n<32/\s.testBit n=true:=by simp[Wy]
theorem sub_low(k m:Nat):(2 ^ k*(2*m+1)) &&& (2 ^ k*(2*m+1)-1)=2 ^ k*(2*m):=by
 apply Nat.eq_of_testBit_eq;intro i;have e:2 ^ k*(2*m+1)-1=2 ^ k*(2*m)+(2 ^ k-1):=by
  have:=Nat.two_pow_pos k;rw[DL,Ej];omega
 rw[Nat.testBit_and,e,Nat.testBit_two_pow_mul,Nat.testBit_two_pow_mul,Nat.testBit_two_pow_mul_add _ (by have:=Nat.two_pow_pos k;omega)];by_cases h:i<k
 ·simp[h,Nat.not_le.2 h]
 have c:k<=i:=AA
 simp only[c,decide_true,Bool.true_and,h,if_false];obtain⟨j,rfl⟩:∃j,i=k+j:=⟨i-k,AA⟩;rw[Nat.add_sub_cancel_left];cases j with
 | zero=>simp[Nat.testBit_zero]
 | succ j =>
   rw[Nat.testBit_succ,Nat.testBit_succ];have a:(2*m+1) / 2=m:=AA
   have b:2*m / 2=m:=AA
   rw[a,b,Bool.and_self]
theorem filter_range_split(p:Nat->Bool)(k n:Nat)(f:k<n)(b:∀i,i<k->p i=false)(c:p k=true):
 (List.range n).filter p=k::((List.range n).filter (λi=>p i&&decide (i≠k))):=by
 obtain⟨d,rfl⟩:∃d,n=k+(d+1):=⟨n-k-1,AA⟩;have e:List.range (k+(d+1))=List.range k++k::(List.range d).map (λi=>k+1+i):=by
  rw[List.range_add,List.range_succ_eq_map];simp[Function.comp_def];intro a _;omega
 have a1:(List.range k).filter p=[]:=List.filter_eq_nil_iff.2 λi hi=>by simp[b i (BQ.1 hi)]
 have a2:(List.range k).filter (λi=>p i&&decide (i≠k))=[]:=List.filter_eq_nil_iff.2 λi hi=>by simp[b i (BQ.1 hi)]
 rw[e,List.filter_append,List.filter_append,a1,a2,List.filter_cons,List.filter_cons,if_pos c];simp only[DA,ne_eq,not_true_eq_false,decide_false,Bool.and_false];congr 1;apply List.filter_congr;intro i hi;obtain⟨j,_,rfl⟩:=CW.1 hi;have:k+1+j≠k:=AA
 simp[this]
theorem Zt1(s:Nat)(g:s≠0)(o:s<4294967296):
 Lib.ctz 32 s<32/\(∀i,i<Lib.ctz 32 s->s.testBit i=false)/\s.testBit (Lib.ctz 32 s)=true/\(∀i,(s &&& (s-1)).testBit i=(s.testBit i&&decide (i≠Lib.ctz 32 s)))/\s &&& (s-1)<s:=by
 obtain⟨m,a,l⟩:=Lib.ctzFrom_spec 32 s AA o;have e:Lib.ctz 32 s=Lib.ctzFrom 32 s:=by simp[Lib.ctz,g]
 rw[e];generalize Lib.ctzFrom 32 s=k at *;have b:=sub_low k m;rw[<-a] at b;have n:=Nat.two_pow_pos k;refine⟨l,λi hi=>?_,?_,λi=>?_,?_⟩
 ·rw[a,Nat.testBit_two_pow_mul];simp[Nat.not_le.2 hi]
 ·rw[a,Nat.testBit_two_pow_mul];simp[Nat.testBit_zero]
 ·rw[b,Nat.testBit_two_pow_mul,a,Nat.testBit_two_pow_mul];by_cases h:k<=i
  ·simp only[h,decide_true,Bool.true_and];obtain⟨j,rfl⟩:∃j,i=k+j:=⟨i-k,AA⟩;rw[Nat.add_sub_cancel_left];cases j with
   | zero=>simp[Nat.testBit_zero]
   | succ j =>
     rw[Nat.testBit_succ,Nat.testBit_succ];have c:(2*m+1) / 2=m:=AA
     have d:2*m / 2=m:=AA
     have f:k+(j+1)≠k:=AA
     simp[c,d,f]
  simp[h]
 rw[b];have:2 ^ k*(2*m)<2 ^ k*(2*m+1):=Nat.mul_lt_mul_of_pos_left AA n;omega
theorem mems_step(s:Nat)(a:s≠0)(g:s<4294967296):Wy s=Lib.ctz 32 s::Wy (s &&& (s-1)):=by
 obtain⟨f,b,c,d,_⟩:=Zt1 s a g;unfold Wy;rw[filter_range_split (λi=>s.testBit i) (Lib.ctz 32 s) 32 f b c];congr 1;apply List.filter_congr;intro i _;rw[d]
theorem mems_zero:Wy 0=[]:=by
 unfold Wy;exact List.filter_eq_nil_iff.2 λi _=>AE
theorem or32(a b:Nat)(f:a<4294967296)(g:b<4294967296):bits .or .u32 (a:Int) (b:Int)=((a ||| b:Nat):Int):=by
 have h:a ||| b<2 ^ 32:=Nat.or_lt_two_pow AA AA
 have c:(BitVec.ofInt 32 (a:Int)).toNat=a:=by rw[BitVec.ofInt_natCast,Er];exact Ee AA
 have d:(BitVec.ofInt 32 (b:Int)).toNat=b:=by rw[BitVec.ofInt_natCast,Er];exact Ee AA
 show IntKind.u32.wrap ((BitVec.ofInt 32 (a:Int) ||| BitVec.ofInt 32 (b:Int)).toNat:Int)=_;rw[BitVec.toNat_or,c,d,IntKind.wrap_u32];omega
theorem and32(a b:Nat)(f:a<4294967296)(g:b<4294967296):bits .and .u32 (a:Int) (b:Int)=((a &&& b:Nat):Int):=by
 have h:a &&& b<2 ^ 32:=Nat.and_lt_two_pow _ AA;have c:(BitVec.ofInt 32 (a:Int)).toNat=a:=by rw[BitVec.ofInt_natCast,Er];exact Ee AA
 have d:(BitVec.ofInt 32 (b:Int)).toNat=b:=by rw[BitVec.ofInt_natCast,Er];exact Ee AA
 show IntKind.u32.wrap ((BitVec.ofInt 32 (a:Int) &&& BitVec.ofInt 32 (b:Int)).toNat:Int)=_;rw[BitVec.toNat_and,c,d,IntKind.wrap_u32];omega
theorem tz32_key(s a:Nat)(d:s<4294967296)(f:s≠0)(c:s &&& (4294967296-s)=a):
 bits BinOp.and IntKind.u32 (s:Int) (-(s:Int) % 4294967296)*125613361 % 4294967296 / 134217728=((a*125613361 % 4294967296 / 134217728:Nat):Int):=by
 have b:-(s:Int) % 4294967296=((4294967296-s:Nat):Int):=AA
 rw[b,and32 s _ d AA,c];omega
theorem tz32_core(s k a:Nat)(w:World)(d:((s:Int)==0)=false)(key:bits BinOp.and IntKind.u32 (s:Int) (-(s:Int) % 4294967296)*125613361 % 4294967296 / 134217728=(a:Int))(hi:a<32)(c:k<32)(b:w.cell? ⟨0,a,none⟩=some (.int .u8 (k:Int))):
 Calls prog 218 #[.int .u32 (s:Int)] w λe w'=>e = .returned (.int .i64 (k:Int))/\w=w':=by
 go_enter func218,ntmps218;go_wp2_with (simp only[key]);go_ret;exact⟨rfl,rfl⟩
theorem Zt7(s:Nat):(Wy s).length<=32:=by
 have:=List.length_filter_le (λn=>s.testBit n) (List.range 32);simpa [Wy] using this
theorem Yn{l:List Nat}{x d:Nat}(h:l[k]? = some x):l.getD k d=x:=by rw[AP,h];rfl
theorem all_get{p:α->Bool}{l:List α}(h:l.all p=true){y:α}(a:l[j]? = some y):p y=true:=(BG.1 h) y (AN a)
theorem Cv{p:α->Bool}{l:List α}(h:∀(j:Nat) y,l[j]? = some y->p y=true):l.all p=true:=by
 rw[BG];intro x b;obtain⟨j,a⟩:=BU b;exact h j x a
theorem Jy{p:α->Bool}{l:List α}{y:α}(b:l[j]? = some y)(h:p y=false):l.all p=false:=by
 cases a:l.all p
 ·rfl
 rw[all_get a b] at h;cases h
theorem countP_full(q:Nat->Bool)(j:∀n,q n=true->1<=n):∀m,(List.range (m+1)).countP q<=m/\((List.range (m+1)).countP q=m↔∀n,1<=n->n<=m->q n=true):=by
 intro m
 induction m with
 | zero =>
   have:q 0=false:=by
    cases h:q 0
    ·rfl
    have:=j 0 h;omega
   simp[DQ,this];intro n a c;omega
 | succ m d =>
   rw[DQ,List.countP_append,List.countP_singleton];cases h:q (m+1)
   ·simp only[Bool.false_eq_true,if_false,DO];refine⟨AA,?_,?_⟩
    ·intro g;omega
    intro b;have:=b (m+1) AA (AJ _);rw[h] at this;cases this
   simp only[if_true];refine⟨AA,?_,?_⟩
   ·intro g n a c;rcases BD n (m+1) with f | f
    ·exact (d.2.1 AA) n a AA
    obtain rfl:n=m+1:=AA
    exact h
   intro b;have:=d.2.2 λn a c=>b n a AA;omega
theorem countP_cut(q:Nat->Bool)(T:Nat)(b:∀n,q n=true->n<=T):∀N,T<N->(List.range N).countP q=(List.range (T+1)).countP q:=by
 intro N d
 induction N with
 | zero=>omega
 | succ N c =>
   by_cases h:N=T
   ·subst h;rfl
   rw[DQ,List.countP_append,c AA,List.countP_singleton];have:q N=false:=by
    cases a:q N
    ·rfl
    have:=b N a;omega
   rw[this];simp
theorem Zvh{a b:List Bool}(j:a.length=b.length)(g:∀i:Nat,a[i]? = some true->b[i]? = some true)(h:∀i:Nat,b[i]? = some true->a[i]? = some true):a=b:=by
 refine List.ext_getElem? λi=>?_;cases c:a[i]? with
 | none =>
   rw[List.getElem?_eq_none_iff] at c;exact (BE AA).symm
 | some x =>
   have hi:=(AO.1 c).1;have d:b[i]? = some (b[i]' AA):=AM AA;cases x with
   | true=>exact (g i c).symm
   | false =>
     cases f:b[i]' AA with
     | false=>rw[d,f]
     | true =>
       rw[f] at d;have:=h i d;rw[c] at this;cases this
def Yb(n a b:Int):Bool:=decide (a<=n/\n<=b)
theorem Jx(n a b:Int)(w:World):
 Calls prog 82 #[.int .i64 n,.int .i64 a,.int .i64 b] w λe w'=>e = .returned (.bool (Yb n a b))/\w=w':=by
 have c:Yb n a b=(decide (a<=n)&&decide (n<=b)):=by unfold Yb;rw[Bool.decide_and]
 rw[c];clear c;by_cases h:a<=n;all_goals
  go_enter func82,ntmps82;go_wp2_with fail;go_ret;exact⟨by first | rfl | (simp[h];done) | (simp[h];omega),rfl⟩
theorem enters_rule1:∀args w,(callFunc 147 args).run prog w = .ok (.enter 147 args) w:=λargs w=>AB
theorem enters_right1:∀args w,(callFunc 85 args).run prog w = .ok (.enter 85 args) w:=λargs w=>AB
theorem enters_bare1:∀args w,(callFunc 220 args).run prog w = .ok (.enter 220 args) w:=λargs w=>AB
theorem enters_within1:∀args w,(callFunc 151 args).run prog w = .ok (.enter 151 args) w:=λargs w=>AB
theorem tr_bare1(s:Int)(w:World):Calls prog 220 #[.int .i64 s] w λe w'=>e = .returned (.bool (decide (0<=s)))/\w=w':=by
 go_enter func220,ntmps220;go_wp2_with fail;go_ret;exact⟨rfl,rfl⟩
def Apart(A:Option Addr)(g:Nat):Prop:=∀b a,A=some ⟨b,a,none⟩->b≠g
def L6(N a:List Bool):Bool:=!decide (a=N)
theorem Zwk(N:List Bool):L6 N N=false:=by simp[L6]
theorem enters_null1:∀args w,(callFunc 202 args).run prog w = .ok (.enter 202 args) w:=λargs w=>AB
theorem enters_prod1:∀args w,(callFunc 149 args).run prog w = .ok (.enter 149 args) w:=λargs w=>AB
def Le'(N M:List Bool):Prop:=N.length=M.length/\∀i,N.getD i false=true->M.getD i false=true
theorem Zyd{b:Nat}(h:∀t,a.testBit t=true->b.testBit t=true):a<=b:=by
 have:a &&& b=a:=by
  apply Nat.eq_of_testBit_eq;intro t;rw[Nat.testBit_and];cases c:a.testBit t
  ·rfl
  rw[h t c];rfl
 rw[<-this];exact Nat.and_le_right
theorem sets_ext{F a:List Nat}(d:F.length=a.length)(h:∀i,i<F.length->∀t,(F.getD i 0).testBit t=(a.getD i 0).testBit t):F=a:=by
 refine List.ext_getElem d λi b c=>?_;have:=Nat.eq_of_testBit_eq (h i b);rw[AP,AP,AM b,AM c] at this;exact this
def Qd(S:List Nat)(R:Nat)(l:List Nat):Nat:=l.foldl (λm k=>m ||| S.getD k 0) R
theorem moreN_snoc(S:List Nat)(R:Nat)(l:List Nat)(k:Nat):Qd S R (l++[k])=Qd S R l ||| S.getD k 0:=by simp[Qd]
theorem Ma(S:List Nat)(t:Nat):∀(l:List Nat) (R:Nat),(Qd S R l).testBit t=(R.testBit t || l.any λk=>(S.getD k 0).testBit t)
 | [],R=>by simp[Qd]
 | k::l,R=>by
   show (Qd S (R ||| S.getD k 0) l).testBit t=_;rw[Ma S t l,DS,List.any_cons,Bool.or_assoc]
theorem moreN_le(S:List Nat)(l:List Nat)(R:Nat):R<=Qd S R l:=Zyd λt h=>by rw[Ma,h];rfl
theorem Ztx{s t:Nat}(b:s<4294967296)(h:s.testBit t=true):t<32:=by
 rcases BD t 32 with a | a
 ·exact a
 rw[Zx7 s b t a] at h;cases h
theorem Zvf{x:Nat}(h:x≠0):∃t,x.testBit t=true:=by
 apply DV;intro a;apply h;apply Nat.eq_of_testBit_eq;intro t;rw[Nat.zero_testBit];cases b:x.testBit t
 ·rfl
 exact absurd ⟨t,b⟩ a
structure OrdI (S:List Nat) (use n:Nat) (st:List Nat × Nat):Prop where
 lt:st.2<4294967296
 mem:∀t,st.2.testBit t=true↔t∈st.1
 use:∀t∈st.1,use.testBit t=true/\t<n
def Jv(x:Nat):Bool:=x==32 || x==9 || x==10 || x==13
def L0(x:Nat):Int:=if x=58 then 10 else if x=124 then 11 else if x=59 then 12 else 0
theorem rf_mark7(x:Nat)(w:World):Calls prog 183 #[.int .u8 (x:Int)] w λe w'=>e = .returned (.int .i64 (L0 x))/\w=w':=by
 have f:x=58\/x=124\/x=59\/(((x:Int)==58)=false/\((x:Int)==124)=false/\((x:Int)==59)=false/\L0 x=0):=by
  by_cases a:x=58
  ·exact .inl a
  by_cases b:x=124
  ·exact .inr (.inl b)
  by_cases c:x=59
  ·exact .inr (.inr (.inl c))
  refine .inr (.inr (.inr ⟨?_,?_,?_,by simp[L0,a,b,c]⟩)) <;> (rw[AQ];omega)
 rcases f with rfl | rfl | rfl | ⟨a,b,c,d⟩;all_goals
  first
   | rw[d]
   | rw[show L0 58=10 from rfl]
   | rw[show L0 124=11 from rfl]
   | rw[show L0 59=12 from rfl]
  go_enter func183,ntmps183;go_wp2_with fail;go_ret;exact⟨rfl,rfl⟩
structure Af where
 kind:Int
 text:List Nat
 at_:Nat
def Fz(k:Int):Bool:=decide (k=1) || decide (k=2)
def errS:ByteArray:=⟨#[101,114,114,111,114]⟩
theorem tw_in(p:Nat->Bool)(l:List Nat):∀m,m<(l.takeWhile p).length->p (l.getD m 0)=true:=by
 induction l with
 | nil=>intro m h;simp at h
 | cons x l b =>
   intro m h;by_cases a:p x=true
   ·rw[List.takeWhile_cons_of_pos a] at h;cases m with
    | zero=>exact a
    | succ m=>exact b m (by simpa using h)
   rw[List.takeWhile_cons_of_neg a] at h;simp at h
theorem tw_out(p:Nat->Bool)(l:List Nat):(l.takeWhile p).length<l.length->p (l.getD (l.takeWhile p).length 0)=false:=by
 induction l with
 | nil=>intro h;simp at h
 | cons x l b =>
   intro h;by_cases a:p x=true
   ·rw[List.takeWhile_cons_of_pos a] at h ⊢;exact b (by simpa using h)
   rw[List.takeWhile_cons_of_neg a];simpa using a
theorem Zu3(p:Nat->Bool)(l:List Nat):(l.takeWhile p).length<=l.length:=by
 induction l with
 | nil=>simp
 | cons x l b =>
   by_cases a:p x=true
   ·rw[List.takeWhile_cons_of_pos a];simp;exact b
   rw[List.takeWhile_cons_of_neg a];simp
theorem F0(xs:List Nat)(a m:Nat):(xs.drop a).getD m 0=xs.getD (a+m) 0:=by simp[AP,DY]
def Dd(ts:List Af):Nat:=(ts.filter λt=>decide (t.kind=9)).length
theorem Cw(a b:List Af):Dd (a++b)=Dd a+Dd b:=by simp[Dd]
def Zyp(w:World)(p:Nat):Nat:=match w.cell? ⟨p,0,none⟩ with
 | some (.slice _ n _)=>n
 | _=>0
theorem Zzw{w:World}{base:Nat}{n:Nat}(h:w.ownsRow base e size v n xs)(d:base'<=base):w.ownsRow base' e size v n xs:=by
 refine⟨h.1,?_⟩;rcases h.2 with b | ⟨g,cap,a,c,f,rest⟩
 ·exact .inl b
 exact .inr ⟨g,cap,a,c,AA,rest⟩
theorem enters_reach1:∀args w,(callFunc 150 args).run prog w = .ok (.enter 150 args) w:=λargs w=>AB
theorem hasN_nat{s:Nat}(a:s<4294967296)(k:Nat):hasN s (k:Int)=s.testBit k:=by
 unfold hasN;rw[DC];rcases BD k 32 with h | h
 ·rw[DW AA,Bool.true_and]
 rw[Zx7 s a k h,Bool.and_false]
theorem bne_cast(z:Nat):((z:Int) != 0)=(z != 0):=by
 rw[Cs,BK,BK];omega
theorem getD_lt{N:List Bool}(h:N.getD i false=true):i<N.length:=by
 rcases BD i N.length with a | a
 ·exact a
 rw[AP,BE a] at h;cases h
theorem Zve(n i:Nat):(List.replicate n false).getD i false=false:=by
 rw[AP,List.getElem?_replicate];split <;> rfl
theorem K3{M:List α->Prop}(h0:M [])(h1:∀l x,M l->M (l++[x]))(l:List α):M l:=by
 have key:∀q:List α,M q.reverse:=by
  intro q
  induction q with
  | nil=>exact h0
  | cons x q a=>rw[List.reverse_cons];exact h1 _ x a
 have:=key l.reverse;rwa [List.reverse_reverse] at this
theorem Br:∀(n:Nat) (l:List Nat),l.Nodup->(∀i∈l,i<n)->l.length<=n
 | 0,l,_,h=>by
   cases l with
   | nil=>simp
   | cons x l=>exact absurd (h x (By ..)) AA
 | n+1,l,hn,h=>by
   by_cases a:n∈l
   ·have:=Br n (l.erase n) (hn.erase n) λi hi=>by
     rw[hn.mem_erase_iff] at hi;have:=h i hi.2;omega
    rw[List.length_erase_of_mem a] at this;omega
   have:=Br n l hn λi hi=>by
    have:=h i hi;have:i≠n:=λb=>a (b ▸ hi);omega
   omega
def N3(o:List Nat)(i:Nat):List Nat:=if i∈o then o else o++[i]
theorem putO_nodup{o:List Nat}(h:o.Nodup)(i:Nat):(N3 o i).Nodup:=by
 unfold N3;split
 ·exact h
 rename_i hi;rw[List.nodup_append];refine⟨h,AE,λa d b c=>?_⟩;rw[BP] at c;subst c;rintro rfl;exact hi d
theorem Zum[BEq α][LawfulBEq α]:∀{l m:List α},l.Nodup->(∀x∈l,x∈m)->l.length<=m.length
 | [],_,_,_=>AS _
 | x::l,m,h,hs=>by
   rw[List.nodup_cons] at h;have a:x∈m:=hs x AE;have:=Zum (l:=l) (m:=m.erase x) h.2 λy b=>by
    have c:y≠x:=λe=>h.1 (e ▸ b);exact (List.mem_erase_of_ne c).2 (hs y (by simp[b]))
   rw[List.length_erase_of_mem a] at this;have:0<m.length:=List.length_pos_of_mem a;rw[AY];omega
theorem beq0_cast(z:Nat):((z:Int)==0)=(z==0):=by
 rw[Cs,BW,BW];omega
def Nb(n j:Nat):List Int:=List.replicate j (-1)++List.replicate (n-j) 0
theorem fill_end(n:Nat):Nb n n=List.replicate n (-1):=by simp[Nb]
theorem fill_start(n:Nat):Nb n 0=List.replicate n 0:=by simp[Nb]
theorem fill_len{n:Nat}(a:j<=n):(Nb n j).length=n:=by simp[Nb];omega
theorem Cx{w:World}{base:Nat}{n:Nat}{ys:List Value}(h:w.ownsRow base e size v n xs)(f:w.ownsRow base' j size v n ys):xs=ys:=by
 have b:=h.1;have c:=f.1;rcases h.2 with ⟨_,rfl⟩ | ⟨g,cap,q,o,_,k,_,_,_,l⟩
 ·simp at b c;rw[b,c]
 rcases f.2 with ⟨d,rfl⟩ | ⟨s,p,r,d,_,a,_,_,_,m⟩
 ·simp at b c;rw[b,c]
 rw[o] at d;injection d with h1 h2 h3;injection h1 with h1;injection h1 with h1;subst h1;rw[k] at a;injection a with a;injection a with hg1 hg2 hg3;rw[<-l,<-m,hg1]
abbrev Sb(n:Nat):Type:={s:Int // -(n:Int)<=s/\s<=1000}
instance (n:Nat):Inhabited (Sb n):=⟨⟨0,by omega,by omega⟩⟩
def encB(n:Nat):Sb n->Value:=λs => .int .i64 s.1
theorem put_grown{n:Nat}(w:World)(q g b:Nat)(d:Array (Sb n)):w.grownBy (Sort.putRow (encB n) (Sort.ahead w q) g b d) (some g):=by
 refine⟨rfl,rfl,rfl,AE,λk c a=>?_⟩;have:g≠k:=λe=>a (by rw[e]);simp[Sort.putRow,Sort.mapBlock,Sort.ahead,Array.getElem?_modify,this]
theorem i64w{n:Int}(h0:0<=n)(h1:n<9223372036854775808):IntKind.i64.wrap n=n:=by rw[IntKind.wrap_i64];omega
theorem u64w{n:Int}(h0:0<=n)(h1:n<18446744073709551616):IntKind.u64.wrap n=n:=by rw[IntKind.wrap_u64];omega
theorem Ld(n:Int)(w:World):Calls prog 39 #[.int .i64 n] w λe w'=>e = .returned (.bool (decide (0<=n)&&decide (n<=10)))/\w=w':=by
 go_enter func39,ntmps39;by_cases h0:0<=n
 ·by_cases h1:n<=10
  ·have a:Hid ((decide (0<=n)&&decide (n<=10))=true):=LH (by simp[h0,h1]);go_wp2_with fail;go_ret;exact⟨by first | (rw[a.out];rfl) | (rw[show decide (n<=10)=false by simp[h1]];rfl) | (rw[show decide (0<=n)=false by simp[h0]];rfl) | rfl,rfl⟩
  have a:Hid ((decide (0<=n)&&decide (n<=10))=false):=LH (by simp[h0,h1]);go_wp2_with fail;go_ret;exact⟨by first | (rw[a.out];rfl) | (rw[show decide (n<=10)=false by simp[h1]];rfl) | (rw[show decide (0<=n)=false by simp[h0]];rfl) | rfl,rfl⟩
 have a:Hid ((decide (0<=n)&&decide (n<=10))=false):=LH (by simp[h0]);go_wp2_with fail;go_ret;exact⟨by first | (rw[a.out];rfl) | (rw[show decide (n<=10)=false by simp[h1]];rfl) | (rw[show decide (0<=n)=false by simp[h0]];rfl) | rfl,rfl⟩
theorem enters_crule1:∀args w,(callFunc 238 args).run prog w = .ok (.enter 238 args) w:=λargs w=>AB
theorem L8:∀args w,(callFunc 160 args).run prog w = .ok (.enter 160 args) w:=λargs w=>AB
theorem Zx5{a b:ByteArray}:(a==b)=true↔a=b:=by
 obtain⟨⟨x⟩⟩:=a;obtain⟨⟨y⟩⟩:=b;show ((⟨x⟩:Array UInt8)==⟨y⟩)=true↔_;simp
theorem Tryz.structTerm:prog.underlying 140=some (.struct (prog.fieldsOf 140)):=AB
theorem Tryz.heldTerm:prog.stoodInHeld 140=false:=AB
theorem Tryz.guardTerm:prog.eqGuardType prog.depth 140=false:=AB
theorem enters_bare:∀args w,(callFunc 199 args).run prog w = .ok (.enter 199 args) w:=enters_of func199 AB rfl
theorem sb_list{n:Nat}:∀(ss:List Int),(∀s∈ss,-(n:Int)<=s/\s<=1000)->∃ds:List (Sb n),ds.map (λs=>s.1)=ss
 | [],_=>⟨[],rfl⟩
 | s::ss,h=>by
   obtain⟨ds,hd⟩:=sb_list ss λs a=>h s (BO _ a);exact⟨⟨s,h s (By ..)⟩::ds,by rw[CU,hd]⟩
theorem enters_cof1:∀args w,(callFunc 95 args).run prog w = .ok (.enter 95 args) w:=λargs w=>AB
def Zyh:List Nat:=[37,37,32,115,32,58,32,115,32,115,32,124,32,39,97,39,32,59]
def Vm(a b:Nat):Int:=if a<b then -1 else if b<a then 1 else 0
def bitLen(n:Nat):Nat:=if n=0 then 0 else n.log2+1
theorem Bo{k:IntKind}{a b:Int}(h:a=b):Ending.returned (.int k a) = .returned (.int k b):=by rw[h]
theorem borrow_bit(x y c:Nat)(j:x<4294967296)(a:y<4294967296)(n:c<=1):
 (((4294967295 ^^^ x) &&& y) ||| ((4294967295 ^^^ (x ^^^ y)) &&& ((4294967296+x-y-c) % 4294967296))) / 2147483648=1-(4294967296+x-y-c) / 4294967296:=by
 have key:∀z:Nat,z<4294967296->z / 2147483648=(z.testBit 31).toNat:=λz p=>by
  rw[Nat.testBit_eq_decide_div_mod_eq];have:z / 2 ^ 31 % 2=z / 2147483648:=by
   have:z / 2 ^ 31=z / 2147483648:=rfl;omega
  rw[this];have:z / 2147483648=0\/z / 2147483648=1:=AA
  rcases this with h | h <;> simp[h]
 have hd:(4294967296+x-y-c) % 4294967296<4294967296:=Nat.mod_lt _ AC;generalize o:(4294967296+x-y-c) % 4294967296=d at *;have g:(((4294967295 ^^^ x) &&& y) ||| ((4294967295 ^^^ (x ^^^ y)) &&& d))<2 ^ 32 :=
  Nat.or_lt_two_pow (Nat.and_lt_two_pow _ a) (Nat.and_lt_two_pow _ hd)
 rw[key _ g];have t:Nat.testBit 4294967295 31=true:=AC
 simp only[DS,Nat.testBit_and,Nat.testBit_xor,t];have l:=key x j;have m:=key y a;have k:=key d hd;cases f:x.testBit 31 <;> cases by_:y.testBit 31 <;> cases b:d.testBit 31 <;> simp[f,by_,b] at l m k ⊢ <;> omega
theorem Wq(n:Int)(h0:0<=n)(h1:n<1000000):wrap64 n=n:=by unfold wrap64;omega
theorem Ztl(a b:Int)(w:World):
 Calls prog 106 #[.int .i64 a,.int .i64 b] w λe w'=>e = .returned (.int .i64 (if a<b then -1 else if b<a then 1 else 0))/\w=w':=by
 by_cases h1:a<b
 ·go_enter func106,ntmps106;go_wp2;go_ret;exact⟨AE,rfl⟩
 by_cases c:b<a
 ·go_enter func106,ntmps106;go_wp2;go_ret;exact⟨AE,rfl⟩
 go_enter func106,ntmps106;go_wp2;go_ret;exact⟨AE,rfl⟩
theorem Zto(a b:Int)(w:World):
 Calls prog 107 #[.int .u32 a,.int .u32 b] w λe w'=>e = .returned (.int .i64 (if a<b then -1 else if b<a then 1 else 0))/\w=w':=by
 by_cases h1:a<b
 ·go_enter func107,ntmps107;go_wp2;go_ret;exact⟨AE,rfl⟩
 by_cases c:b<a
 ·go_enter func107,ntmps107;go_wp2;go_ret;exact⟨AE,rfl⟩
 go_enter func107,ntmps107;go_wp2;go_ret;exact⟨AE,rfl⟩
theorem bitLen_lib:∀(f x:Nat),x<2 ^ f->Lib.bitLenAux f x=bitLen x:=by
 intro f
 induction f with
 | zero=>intro x h;simp at h;subst h;rfl
 | succ f b =>
   intro x h;unfold Lib.bitLenAux;by_cases h0:x=0
   ·subst h0;rfl
   rw[if_neg h0,b (x / 2) (by rw[Nat.pow_succ] at h;omega)];by_cases h1:x / 2=0
   ·have a:x=1:=AA
    subst a;rfl
   have:=Go.bitLen_shift x 1 (by simpa using h1);exact this.symm
theorem Bm(x:Nat)(h:x<4294967296):Lib.bitLen x=bitLen x:=bitLen_lib 64 x AA
theorem Zsy(a b i:Nat)(d:0<b):
 let r:=a / 2 ^ (i+1) % b
 let c:=2*r+a / 2 ^ i % 2
 (b<=c->a / 2 ^ i % b=c-b/\a / 2 ^ i / b=2*(a / 2 ^ (i+1) / b)+1) /\
 (c<b->a / 2 ^ i % b=c/\a / 2 ^ i / b=2*(a / 2 ^ (i+1) / b)):=by
 intro r c;have h:a / 2 ^ (i+1)=a / 2 ^ i / 2:=by rw[Nat.pow_succ,Nat.div_div_eq_div_mul]
 have p:r<b:=Nat.mod_lt _ d;have j:a / 2 ^ i=2*(a / 2 ^ (i+1))+a / 2 ^ i % 2:=by rw[h];omega
 have k:a / 2 ^ (i+1)=b*(a / 2 ^ (i+1) / b)+r:=(Nat.div_add_mod _ _).symm;have n:a / 2 ^ i % 2<2:=Nat.mod_lt _ AC;have m:c=2*r+a / 2 ^ i % 2:=rfl;generalize a / 2 ^ (i+1) / b=q at *
 clear_value r c
 have f:a / 2 ^ i=b*(2*q)+c:=by
  rw[j,k,DL,m,<-DU,Ef 2 b,DU];omega
 constructor
 ·intro o;have l:a / 2 ^ i=b*(2*q+1)+(c-b):=by rw[f,DL,Ej];omega
  rw[l];constructor
  ·rw[Nat.mul_add_mod,Ee AA]
  rw[Nat.mul_add_div d,Nat.div_eq_of_lt AA,DO]
 intro g;rw[f];constructor
 ·rw[Nat.mul_add_mod,Ee g]
 rw[Nat.mul_add_div d,Nat.div_eq_of_lt g,DO]
theorem Zv3{w:World}{base:Nat}{n c:Nat}(h:w.ownsRow base e 1 (.slice A n c) n xs)(b f:Nat)(a:A=some ⟨b,f,none⟩):base<=b:=by
 rcases h.2 with ⟨d,rfl⟩ | ⟨g,cap,j,d,k,o,p,l,m,q⟩
 ·simp at d;rw[d.1] at a;cases a
 injection d with h1 h2 h3;rw[h1] at a;injection a with a;injection a with a;omega
theorem shl_or(x c:Nat)(b:x<4294967296)(a:c<=1):bits .or .u32 ((x:Int)*2 % 4294967296) (c:Int)=(((2*x+c) % 4294967296:Nat):Int):=by
 have e:(x:Int)*2 % 4294967296=((2*x % 4294967296:Nat):Int):=AA
 rw[e,u32_or_nat _ _ AA AA,nat_join 1 _ _ AA AA];congr 1;omega
theorem bitLen_lt(v:Nat):v<2 ^ bitLen v:=by
 unfold bitLen;split
 ·omega
 exact Nat.lt_log2_self
theorem bitLen_le(v k:Nat)(a:k<bitLen v):2 ^ k<=v:=by
 unfold bitLen at a;split at a
 ·omega
 rename_i h;exact BC (CV AC AA) (Nat.log2_self_le h)
theorem Q5{b:Nat}:Vm a b<0↔a<b:=by unfold Vm;split <;> (try split) <;> omega
def Do(b:Nat->Bool)(u:Nat->Value)(p:Nat)(a:Value):Prop:=b p=false->u p=a
def slLen:Value->Nat
 | .slice _ n _=>n
 | _=>0
theorem shl_hand(r:Nat)(b:r<32):Op.shift .shl .u32 1 .i64 (r:Int)=pure (.int .u32 ((2 ^ r:Nat):Int)):=by
 rw[shift_shl _ _ _ _ AA (by show (r:Int)<=32;omega)];have h:(2:Nat) ^ r<4294967296:=by
  have:=Nat.pow_lt_pow_right (a:=2) AC b;simpa using this
 have e:(1:Int)*2 ^ (r:Int).toNat=((2 ^ r:Nat):Int):=AE
 rw[e,IntKind.wrap_u32];generalize (2:Nat) ^ r=z at *;have:(z:Int) % 4294967296=(z:Int):=AA
 rw[this]
structure Qr where
 ia:Nat
 is:Nat
 ic:Nat
 ty:TypeId
 z:Array Value
section
variable {P:Program} {w:World}
theorem Gz(base:Nat)(t ty e:TypeId)(i:TypeInfo)(b:P.underlying t=some (.slice e))(hi:P.info? e=some i)(A:Option Addr)(n c:Nat)(xs:List Value)(f:w.ownsRow base e 1 (.slice A n c) n xs)(c2:Nat):
 (Builtin.append_ #[t,t] ty #[.slice A n c,.slice none 0 c2]).run P w = .ok (.slice A n c) w:=by
 rcases f.2 with ⟨a,rfl⟩ | ⟨g,cap,h,a,_,_,d,_⟩
 ·rw[a];simp[Builtin.append_,run_underlying b,sizeOf,typeInfo,hi,Builtin.lenOf,Builtin.firstCells]
 rw[a];simp[Builtin.append_,run_underlying b,sizeOf,typeInfo,hi,Builtin.lenOf,Builtin.firstCells,d,storeCells]
theorem M3{base:Nat}{n:Nat}(h:w.ownsRow base e 1 v n xs):∃A c,v = .slice A n c:=by
 rcases h.2 with ⟨rfl,rfl⟩ | ⟨g,cap,a,rfl,_⟩
 ·exact⟨_,_,rfl⟩
 exact⟨_,_,rfl⟩
theorem Lt{base:Nat}{g n c:Nat}(h:w.ownsRow base e 1 (.slice (some ⟨g,0,none⟩) n c) n xs)(j:Nat)(u:Value):
 (w.setCell ⟨g,j,none⟩ u).ownsRow base e 1 (.slice (some ⟨g,0,none⟩) n c) n (xs.set j u):=(h.stored j u).1
theorem Bv{base:Nat}{n:Nat}(h:w.ownsRow base e 1 v n xs)(d:base'<=base):w.ownsRow base' e 1 v n xs:=by
 refine⟨h.1,?_⟩;rcases h.2 with b | ⟨g,cap,a,c,f,rest⟩
 ·exact .inl b
 exact .inr ⟨g,cap,a,c,AA,rest⟩
theorem Zuk{base:Nat}{n:Nat}(h:w.ownsRow base e size v n xs):∃A c,v = .slice A n c:=by
 rcases h.2 with ⟨rfl,rfl⟩ | ⟨g,cap,a,rfl,_⟩
 ·exact⟨_,_,rfl⟩
 exact⟨_,_,rfl⟩
theorem run_append_nilS(base size:Nat)(t ty e:TypeId)(i:TypeInfo)(b:P.underlying t=some (.slice e))(hi:P.info? e=some i)(A:Option Addr)(n c:Nat)(xs:List Value)(f:w.ownsRow base e size (.slice A n c) n xs)(c2:Nat):
 (Builtin.append_ #[t,t] ty #[.slice A n c,.slice none 0 c2]).run P w = .ok (.slice A n c) w:=by
 rcases f.2 with ⟨a,rfl⟩ | ⟨g,cap,h,a,_,_,d,_⟩
 ·rw[a];simp[Builtin.append_,run_underlying b,sizeOf,typeInfo,hi,Builtin.lenOf,Builtin.firstCells]
 rw[a];simp[Builtin.append_,run_underlying b,sizeOf,typeInfo,hi,Builtin.lenOf,Builtin.firstCells,d,storeCells]
end
section
open Go.ChangeShapes Go.WideShapes Go.ChangeAt Go.RowKit
def Nn:List (String × DataW Unit):=[("math/bits.deBruijn32tab",Rows.laid_math_bits_deBruijn32tab)]
theorem gTab:prog.globalNamed "math/bits.deBruijn32tab"=some 0:=AB
theorem tTab:(prog.globals[0]?).map (·.type)=some 272:=AB
theorem Cb(os:Os)(args:Array Value):laidMetH prog Nn ((World.doorLaid prog 400 os).forCall (λ_ _=>0) ⟨#[],args,[]⟩).memory :=
 laidMetH_of_parts3 (fuel:=8) (laidMet_of_run' 8 AB AB) AB AB
theorem tab_lits:(Rows.laid_math_bits_deBruijn32tab:DataW Unit) = .agg (Lib.deBruijn32tab.map λ(n:Nat) => .lit (.int .u8 (n:Int))):=by rfl
end
section
open Go.ChangeShapes Go.WideShapes Go.ChangeAt Go.RowKit
open Ieee
def fN(n:Nat):Nat:=Ieee.double.nearest false n 0
theorem fN_zero:fN 0=0:=AC
def okN(n:Nat):Bool:=decide (1<=n/\n<=1073741824)
def okP(l c:Nat):Bool:=okN l&&okN c
def PV(l c:Nat):Value := .complex .f64 (fN l) (fN c)
theorem PV_zero:PV 0 0 = .complex .f64 0 0:=by unfold PV;rw[fN_zero]
theorem Fm(n:Nat):floatOfInt .f64 (n:Int)=fN n:=by
 unfold floatOfInt FloatKind.nearest;have a:decide ((n:Int)<0)=false:=AE
 rw[a,Int.natAbs_natCast];rfl
def ofP(a b:Int):Value:=if 1<=a/\a<=1073741824/\1<=b/\b<=1073741824 then PV a.toNat b.toNat else PV 0 0
theorem ref_of(a b:Int)(w:World):Calls prog 180 #[.int .i64 a,.int .i64 b] w λe w'=>e = .returned (ofP a b)/\w=w':=by
 by_cases h:1<=a/\a<=1073741824/\1<=b/\b<=1073741824
 ·unfold ofP;rw[if_pos h];obtain⟨n,rfl⟩:∃n:Nat,a=(n:Int):=⟨a.toNat,AA⟩;obtain⟨m,rfl⟩:∃m:Nat,b=(m:Int):=⟨b.toNat,AA⟩;have g:=Fm n;have j:=Fm m;obtain⟨c,d,f,k⟩:=h;unfold PV;rw[DC,DC];generalize fN n=x at *;generalize fN m=y at *;go_enter func180,ntmps180;go_wp2;go_ret;exact⟨by simp[g,j],rfl⟩
 unfold ofP;rw[if_neg h,PV_zero];have l:a<1\/(1<=a/\1073741824<a)\/(1<=a/\a<=1073741824/\b<1)\/(1<=a/\a<=1073741824/\1<=b/\1073741824<b):=AA
 rcases l with c | ⟨c,d⟩ | ⟨c,d,f⟩ | ⟨c,d,f,k⟩;all_goals
  go_enter func180,ntmps180;go_wp2;go_ret;exact⟨rfl,rfl⟩
def H9(p:Nat × Nat)(b:Nat):Nat × Nat:=if b=10 then (p.1+1,1) else (p.1,p.2+1)
def atN(a:List Nat):Nat × Nat:=a.foldl H9 (1,1)
theorem atN_snoc(a:List Nat)(b:Nat):atN (a++[b])=H9 (atN a) b:=by simp[atN]
theorem atN_go(a:List Nat):∀p:Nat × Nat,1<=p.1->1<=p.2->1<=(a.foldl H9 p).1/\(a.foldl H9 p).1<=p.1+a.length/\1<=(a.foldl H9 p).2/\(a.foldl H9 p).2<=p.2+a.length:=by
 induction a with
 | nil=>intro p d f;simp;omega
 | cons b a g =>
   intro p d f;have c:1<=(H9 p b).1/\(H9 p b).1<=p.1+1/\1<=(H9 p b).2/\(H9 p b).2<=p.2+1:=by
    unfold H9;split <;> simp <;> omega
   have:=g (H9 p b) c.1 c.2.2.1;rw[List.foldl_cons,AY];omega
theorem atN_bd(a:List Nat):1<=(atN a).1/\(atN a).1<=a.length+1/\1<=(atN a).2/\(atN a).2<=a.length+1:=by
 have:=atN_go a (1,1) AC AC;unfold atN;omega
theorem okP_of{l c:Nat}(a:1<=l)(b:l<=1073741824)(d:1<=c)(f:c<=1073741824):okP l c=true:=by simp[okP,okN,a,b,d,f]
theorem ofP_of(l c:Nat)(h:okP l c=true):ofP (l:Int) (c:Int)=PV l c:=by
 simp[okP,okN] at h;unfold ofP;rw[if_pos AA];simp
def str(l:List Nat):ByteArray:=⟨(l.map UInt8.ofNat).toArray⟩
end
section
open Go.RowKit Go.Shelf
attribute [local go_sem] Oper.semAt_some
open Go.RowKit Go.Shelf Go.Sort
theorem compact_len(l:List (List UInt8))(v:l.Pairwise (λx y=>x<=y)):(Lib.compact l).length=l.length↔l.Nodup:=by
 unfold Lib.compact Lib.compactUpTo;rw[BI];have s:(List.filter (Lib.keeps l.toArray) (List.range l.length)).length=l.length↔∀j∈List.range l.length,Lib.keeps l.toArray j=true:=by
  have:=List.length_filter_eq_length_iff (p:=Lib.keeps l.toArray) (l:=List.range l.length);rwa [List.length_range] at this
 rw[s];have q:∀j,0<j->j<l.length->(Lib.keeps l.toArray j=true↔l[j]? ≠ l[j-1]?):=by
  intro j f c;have g:l.toArray[j]! = l[j]'c:=by simp[c]
  have k:l.toArray[j-1]! = l[j-1]' AA:=by simp[show j-1<l.length by omega]
  rw[AM c,AM (show j-1<l.length by omega)];constructor
  ·intro h d;injection d with d;rw[Lib.keeps_neg f (by rw[g,k];exact d)] at h;cases h
  intro h;exact Lib.keeps_pos (by rw[g,k];intro d;exact h (by rw[d]))
 constructor
 ·intro h;rw[List.nodup_iff_pairwise_ne,List.pairwise_iff_getElem];intro i j hi c A d;have r:∀a b (n:a<l.length) (o:b<l.length),a<=b->l[a]<=l[b]:=by
   intro a b n o z;rcases BD a b with h | h
   ·exact List.pairwise_iff_getElem.1 v a b n o h
   obtain rfl:a=b:=AA
   exact List.le_refl _
  have m:=r i (j-1) hi AA AA;have t:=r (j-1) j AA c AA;rw[d] at m;have:=List.le_antisymm t m;have u:=(q j AA c).1 (h j (by rw[BQ];exact c));apply u;rw[AM c,AM (show j-1<l.length by omega),this]
 intro h j c;rw[BQ] at c;rcases BY j with f | f
 ·subst f;simp[Lib.keeps]
 rw[q j f c,AM c,AM (show j-1<l.length by omega)];intro d;injection d with d;rw[List.nodup_iff_pairwise_ne,List.pairwise_iff_getElem] at h;exact h (j-1) j AA c AA d.symm
theorem sorted_len(ss:List (List UInt8)):(Lib.compact (ss.mergeSort λx y=>decide (x<=y))).length=ss.length↔ss.Nodup:=by
 have d:=List.mergeSort_perm ss (λx y=>decide (x<=y));have j:(ss.mergeSort λx y=>decide (x<=y)).Pairwise (λx y=>x<=y):=by
  have:=List.pairwise_mergeSort (le:=λx y:List UInt8=>decide (x<=y)) (λa b c f g=>by
   simp only[decide_eq_true_eq] at *;exact List.le_trans f g) (λa b=>by
   simp only[CJ,decide_eq_true_eq];exact List.le_total _ _) ss
  exact this.imp λh=>by simpa using h
 rw[<-d.nodup_iff,<-d.length_eq];exact compact_len _ j
def byL(a:List ByteArray):List (List UInt8):=a.map λz=>z.data.toList
theorem byL_nodup(f:List ByteArray):(byL f).Nodup↔f.Nodup:=by
 unfold byL;rw[List.nodup_iff_pairwise_ne,List.nodup_iff_pairwise_ne,List.pairwise_map];constructor
 ·intro h;exact h.imp λd c=>d (by rw[c])
 intro h;refine h.imp λ{a b} d c=>d ?_;cases a;cases b;simp only[ByteArray.mk.injEq];exact Array.toList_inj.1 c
theorem encStr_byL(a:List ByteArray):(byL a).map encStr=a.map Value.string:=by
 unfold byL;rw[List.map_map];refine List.map_congr_left λz _=>?_;cases z;simp[encStr]
theorem Ql(a b:ByteArray):(a.toList==b.toList)=decide (a=b):=by
 rw[Cs,BW,BA];constructor
 ·intro h;rw[ByteArray.toList_eq,ByteArray.toList_eq] at h;cases a;cases b;simp only[ByteArray.mk.injEq];exact Array.toList_inj.1 h
 intro h;rw[h]
theorem Vz{p:α->Bool}{l:List α}{x:α}(h:∀j,j<k->∀y,l[j]? = some y->p y=false)(d:l[k]? = some x)(c:p x=false):∀j,j<k+1->∀y,l[j]? = some y->p y=false:=by
 intro j g y a;rcases BD j k with b | f
 ·exact h j b y a
 obtain rfl:j=k:=AA
 rw[d] at a;injection a with a;rw[<-a];exact c
theorem Q8{l:List α}{x:α}(h:l[k]? = some x):l.drop k=x::l.drop (k+1):=by
 obtain⟨a,rfl⟩:=AO.1 h;exact Ec a
end
section
open Go.RowKit Go.Shelf Go.Sort
theorem grow_none(w:World):grow w #[]=w:=by unfold grow;simp
end
section
open Go.RowKit Go.Maps
theorem Ud{n a b:Int}(h:Yb n a b=true):a<=n/\n<=b:=by unfold Yb at h;simpa using h
theorem Jl(w:World)(r:Option Nat):w.grownBy w r:=⟨rfl,rfl,rfl,AJ _,λ_ _ _=>rfl⟩
theorem Zd(w:World)(g i:Nat)(v:Value):w.grownBy (w.setCell ⟨g,i,none⟩ v) (some g) :=
 ⟨rfl,rfl,rfl,AE,λk _ a=>Eb w ⟨g,i,none⟩ v k λh=>a (by rw[h])⟩
end
section
variable {P:Program} {ops:Array Oper} {md:Region.Mode} {C:World->Prop}
def headQ(P:Program)(md:Region.Mode)(ops:Array Oper)(C:World->Prop)(n:Nat)(L:Array Bool->Act->Prop):Nat->Array Bool->Act->Prop
 | 0,listed,a=>L listed a
 | f+1,listed,a=>Region.ready md ops listed≠[]/\∀i∈Region.ready md ops listed,i<n/\qOp P ops C i (headQ P md ops C n L f (listed.setIfInBounds i true)) a
theorem Bh{n g:Nat}(b:∀listed a w,C w->L listed a->wpAny P md ops Q' g listed a w):
 ∀(f:Nat) (listed:Array Bool) (a:Act) (w:World),C w->headQ P md ops C n L f listed a->wpAny P md ops Q' (f+g) listed a w
 | 0,listed,a,w,hw,h=>by rw[BF];exact b _ _ _ hw h
 | f+1,listed,a,w,hw,h=>by
   rw[show f+1+g=(f+g)+1 by omega];exact⟨λj=>absurd j h.1,λi hi=>wpOp_of_qOp hw (λc w' k d=>Bh b f _ c w' k d) (h.2 i hi).2⟩
end
abbrev TokV(a:Int)(b:List Nat)(at_:Value):Value := .agg #[.int .i64 a,.string (str b),at_]
section
open Go.Maps (Keyed IsMap Tidy)
theorem keyInt:Keyed prog 3:=Maps.int_keyed underlying3
theorem zeroInt(w:World):(zeroValue 3).run prog w = .ok (.int .i64 0) w:=AB
theorem Zst{k l:IntKind}{a b c d:Int}(h:a=b)(f:c=d):Ending.returned (.tuple #[.int k a,.int l c]) = .returned (.tuple #[.int k b,.int l d]):=by rw[h,f]
theorem Dg(x y c:Nat)(w:World)(b:x<4294967296)(d:y<4294967296)(a:c<=1):
 Calls prog 239 #[.int .u32 (x:Int),.int .u32 (y:Int),.int .u32 (c:Int)] w λe w' =>
  e = .returned (.tuple #[.int .u32 (((x+y+c) % 4294967296:Nat):Int),.int .u32 (((x+y+c) / 4294967296:Nat):Int)])/\w=w':=by
 go_enter func239,ntmps239;go_wp2;go_ret2;exact⟨Zst AA AA,rfl⟩
theorem L5(x c:Nat)(w:World)(b:x<4294967296)(a:c<=1):
 Calls prog 239 #[.int .u32 (x:Int),.int .u32 0,.int .u32 (c:Int)] w λe w' =>
  e = .returned (.tuple #[.int .u32 (((x+0+c) % 4294967296:Nat):Int),.int .u32 (((x+0+c) / 4294967296:Nat):Int)])/\w=w' :=
 Dg x 0 c w b AA a
theorem Tryz.laidOut:laidOutB prog=true:=AB
theorem Tryz.wideKT:(match prog.underlying 257 with | some (.array _ _) | some (.struct _)=>true | _=>false)=true:=AB
theorem Tryz.wideKF:(match prog.underlying 261 with | some (.array _ _) | some (.struct _)=>true | _=>false)=true:=AB
theorem Mb{x:Int}(h1:-1000<=x)(a:x<=1000):(Lit.int .i64 x).wf=true:=WalkArith.wf_i64 AA
end
section
open Go.Maps (Keyed IsMap Tidy)
open Go.Maps (Keyed IsMap Tidy)
theorem Gq{l:List α}(f:α->Nat)(N:Nat)(c:l.Nodup)(hi:∀x∈l,∀y∈l,f x=f y->x=y)(a:∀x∈l,f x<N):l.length<=N:=by
 have h1:(l.map f).Nodup:=by
  unfold List.Nodup at c ⊢;rw[List.pairwise_map];have:l.Pairwise λx y=>x∈l/\y∈l/\x≠y:=List.Pairwise.imp_of_mem (λb a h=>⟨b,a,h⟩) c;exact this.imp λ⟨b,a,h⟩ e=>h (hi _ b _ a e)
 have d:=Zum (l:=l.map f) (m:=List.range N) h1 λx g=>by
  obtain⟨y,j,rfl⟩:=CW.1 g;exact BQ.2 (a y j)
 simpa using d
end
section
variable {P:Program} {M:World->Prop} {R:World->World->Prop}
def upd(u:Nat->Value)(i:Nat)(v:Value):Nat->Value:=λj=>if j=i then v else u j
def onB(o:Oper)(p:Nat):Bool:=o.after.toList.any λe=>Region.binds .any e&&decide (e.on=p)
def ancF(l:List Oper):Nat->Nat->Nat->Bool
 | 0,_,_=>false
 | f+1,j,i=>match l[j]? with
   | none=>false
   | some o=>o.after.any λe=>Region.binds .any e&&(decide (e.on=i) || ancF l f e.on i)
def Zti(l:List Oper)(n:Nat):Bool:=decide (n=l.length) || (List.range n).all λi=>ancF l l.length n i
theorem Zyf{o:Oper}{p:Nat}:onB o p=true↔∃e∈o.after,Region.binds .any e=true/\e.on=p:=by
 unfold onB;rw[Ep];constructor
 ·rintro⟨e,a,h⟩;rw[AU,BA] at h;exact⟨e,Array.mem_def.2 a,h⟩
 rintro⟨e,a,h⟩;exact⟨e,Array.mem_def.1 a,by rw[AU,BA];exact h⟩
def Zwm(R:World->World->Prop):List (Value->World->Prop)->Prop
 | []=>True
 | d::ds=>(∀v X a,d v X->R X a->d v a)/\Zwm R ds
end
section
open Ieee
open Go.Maps (Keyed IsMap Tidy)
theorem Tryz.wideKB:(match prog.underlying 220 with | some (.array _ _) | some (.struct _)=>true | _=>false)=true:=AB
def Vr(l:List Int):List Nat:=l.map λs=>(s+16).toNat
def kB(l:List Int)(n:Nat):Value := .agg #[.string (str (Vr l)),.int .i64 (n:Int)]
def Zwx(l:List Int):Prop:=∀s∈l,-16<=s/\s<40
theorem Dy{l:List Int}(h:Zwx l):∀c∈Vr l,c<56:=by
 intro c a;obtain⟨s,b,rfl⟩:=CW.1 a;have:=h s b;omega
theorem Zwi:∀{l m:List Int},Zwx l->Zwx m->Vr l=Vr m->l=m
 | [],[],_,_,_=>rfl
 | [],s::m,_,_,h=>by cases h
 | s::l,[],_,_,h=>by cases h
 | s::l,t::m,hl,hm,h=>by
   have h1:=hl s (By ..);have b:=hm t (By ..);unfold Vr at h;rw[CU,CU] at h;injection h with h3 h4;have e:s=t:=AA
   rw[e,Zwi (λq a=>hl q (BO _ a)) (λq a=>hm q (BO _ a)) h4]
def Ds:List Nat->Nat
 | []=>0
 | c::l=>(c+1)+64*Ds l
theorem Zsb:∀{l m:List Nat},(∀c∈l,c<60)->(∀c∈m,c<60)->Ds l=Ds m->l=m
 | [],[],_,_,_=>rfl
 | [],c::m,_,_,h=>by unfold Ds at h;omega
 | c::l,[],_,_,h=>by unfold Ds at h;omega
 | c::l,d::m,hl,hm,h=>by
   have h1:=hl c (By ..);have g:=hm d (By ..);unfold Ds at h;have b:c=d:=AA
   have f:Ds l=Ds m:=AA
   rw[b,Zsb (λq a=>hl q (BO _ a)) (λq a=>hm q (BO _ a)) f]
theorem encT_lt:∀{l:List Nat},(∀c∈l,c<60)->Ds l<64 ^ l.length
 | [],_=>by unfold Ds;simp
 | c::l,hl=>by
   have h1:=hl c (By ..);have b:=encT_lt (l:=l) λq a=>hl q (BO _ a);unfold Ds;rw[AY,Nat.pow_succ];omega
structure J1 (l:List Int) (n:Nat):Prop where
 sym:Zwx l
 len:l.length<=6
 n:n<=10
structure BkH where
 c:Nat
 t:Nat
abbrev BkH.map(k:BkH):Nat->Prop:=λb=>b=k.t
end
section
variable {P:Program} {Γ:Type} {R:World->World->Prop}
def Mz(b:Nat->Bool)(i:Nat):Nat->Bool:=λj=>if j=i then true else b j
def G9(l:List Oper)(b:Nat->Bool):Prop:=∀i o,l[i]? = some o->b i=true->∀p,onB o p=true->b p=true
theorem G9.anc(d:G9 l b):∀(f j i:Nat),ancF l f j i=true->b j=true->b i=true
 | 0,_,_,h,_=>by cases h
 | f+1,j,i,h,hj=>by
   unfold ancF at h;cases c:l[j]? with
   | none=>rw[c] at h;cases h
   | some o =>
     rw[c] at h;simp only[Array.any_eq_true] at h;obtain⟨k,m,h⟩:=h;rw[AU,CJ,BA] at h;have g:=d j o c hj _ (Zyf.2 ⟨_,Array.getElem_mem m,h.1,rfl⟩);rcases h.2 with a | a
     ·rw[<-a];exact g
     exact d.anc f _ i a g
theorem G9.no(d:G9 l b)(H:b i=false)(h:ancF l l.length j i=true):b j=false :=
 Bool.eq_false_iff.2 λa=>by
  have h1:=d.anc _ _ _ h a;rw[H] at h1;cases h1
end
theorem Ys(h:j≠i):Mz b i j=b j:=if_neg h
theorem Yj(h:j≠i):upd u i v j=u j:=if_neg h
theorem Ztw:Mz b i i=true:=if_pos rfl
theorem D1:upd u i v i=v:=if_pos rfl
theorem Dj(x y c:Nat)(w:World)(a:x<4294967296)(b:y<4294967296)(o:c<=1):
 Calls prog 161 #[.int .u32 (x:Int),.int .u32 (y:Int),.int .u32 (c:Int)] w λe w' =>
  e = .returned (.tuple #[.int .u32 (((4294967296+x-y-c) % 4294967296:Nat):Int),.int .u32 ((1-(4294967296+x-y-c) / 4294967296:Nat):Int)])/\w=w':=by
 have hd:((x:Int)-(y:Int)-(c:Int)) % 4294967296=(((4294967296+x-y-c) % 4294967296:Nat):Int):=AA
 have k:=borrow_bit x y c a b o;have f:(4294967296+x-y-c) % 4294967296<4294967296:=Nat.mod_lt _ AC;have h1:(4294967295 ^^^ x)<2 ^ 32:=Nat.xor_lt_two_pow AC a;have d:(x ^^^ y)<2 ^ 32:=Nat.xor_lt_two_pow a b;have g:(4294967295 ^^^ (x ^^^ y))<2 ^ 32:=Nat.xor_lt_two_pow AC d;have h:((4294967295 ^^^ x) &&& y)<2 ^ 32:=Nat.and_lt_two_pow _ b;have j:((4294967295 ^^^ (x ^^^ y)) &&& ((4294967296+x-y-c) % 4294967296))<2 ^ 32:=Nat.and_lt_two_pow _ f;have l:IntKind.u32.max=((4294967295:Nat):Int):=rfl;have e:bits .or .u32 (bits .and .u32 (bits .xor .u32 IntKind.u32.max (x:Int)) (y:Int)) (bits .and .u32 (bits .xor .u32 IntKind.u32.max (bits .xor .u32 (x:Int) (y:Int))) (((x:Int)-(y:Int)-(c:Int)) % 4294967296)) / 2147483648=((1-(4294967296+x-y-c) / 4294967296:Nat):Int):=by
  rw[hd,l,u32_xor_nat _ _ AC a,u32_xor_nat _ _ a b,u32_xor_nat _ _ AC d,u32_and_nat _ _ h1 b,u32_and_nat _ _ g f,u32_or_nat _ _ h j,<-k];rfl
 have n:=LH e;have m:=LH hd;clear e hd l h1 d g h j f k;go_enter func161,ntmps161;go_wp2;go_ret2;exact⟨Zst m n,rfl⟩
theorem L7(x c:Nat)(w:World)(b:x<4294967296)(a:c<=1):
 Calls prog 161 #[.int .u32 (x:Int),.int .u32 0,.int .u32 (c:Int)] w λe w' =>
  e = .returned (.tuple #[.int .u32 (((4294967296+x-0-c) % 4294967296:Nat):Int),.int .u32 ((1-(4294967296+x-0-c) / 4294967296:Nat):Int)])/\w=w' :=
 Dj x 0 c w b AA a
abbrev Zrc(xs:List Nat):List Int:=xs.map λi:Nat=>(i:Int)
theorem zero_row(N m:Nat)(h:∀i,tab m i=0):List.replicate N 0=(List.range N).map (tab m):=by
 refine List.ext_getElem? λj=>?_;rw[List.getElem?_replicate,BB];by_cases a:j<N
 ·rw[List.getElem?_range a,if_pos a,Ek,h]
 rw[BE (by simpa using a),if_neg a];rfl
theorem slices_noInt{b:List Nat}:∀u∈b.map (λg=>Value.slice (some ⟨g,0,none⟩) N N),∀k x,u≠Value.int k x:=by
 intro u a k x c;rw[CW] at a;obtain⟨g,_,rfl⟩:=a;cases c
section
open Go.RowKit Go.Shelf
attribute [local go_sem] Oper.semAt_some
abbrev Zrl(L N:Nat):={ p:Nat × Nat // p.1+p.2<=L/\p.2<=N }
def Zre(L N j:Nat):Zrl L N:=⟨(min (N*j) L,min N (L-N*j)),by omega⟩
def Zrw(L N k:Nat):List (Zrl L N):=(List.range k).map (Zre L N)
theorem Zrb(L N k:Nat):Zrw L N (k+1)=Zrw L N k++[Zre L N k]:=by simp[Zrw,DQ]
theorem Zr1(L N k:Nat):(Zrw L N k).length=k:=by simp[Zrw]
def encP(b a:Nat){L N:Nat}(x:Zrl L N):Array Value:=#[.slice (some ⟨b,a+x.1.1,none⟩) x.1.2 x.1.2]
def Zrq(a b:Nat)(W c:World):Prop:=c.heap[a]? = W.heap[a]? /\ c.heap[b]? = W.heap[b]?
theorem Zrg{W a:World}{b o:Nat}(h:a.heap[b]? = W.heap[b]?):a.cell? ⟨b,o,none⟩=W.cell? ⟨b,o,none⟩:=DH h
end
section
open Go.RowKit Go.Shelf
attribute [local go_sem] Oper.semAt_some
open Go.RowKit Go.Shelf
theorem Zqm{L:Nat}(b:0<N)(h:(Zre L N k).1.2=N):(Zre L N k).1=(N*k,N)/\N*(k+1)<=L:=by
 have a:min N (L-N*k)=N:=h;rw[DL,Ej];refine⟨?_,AA⟩;show (min (N*k) L,min N (L-N*k))=_;rw[Nat.min_eq_left AA,a]
theorem pieces_mem{L:Nat}(h:j<k):Zre L N j∈Zrw L N k:=CW.2 ⟨j,BQ.2 h,rfl⟩
end
section
open Go.RowKit Go.Shelf
attribute [local go_sem] Oper.semAt_some
open Go.RowKit Go.Shelf
open Go.RowKit Go.Shelf
attribute [local go_sem] Oper.semAt_some
theorem keep2_far{b c:Nat}(W:World)(d:a≠c)(f:b≠c)(u:Value):Zrq a b W (W.setCell ⟨c,0,none⟩ u):=⟨Eb _ _ _ _ d,Eb _ _ _ _ f⟩
end
section
open Go.ChangeShapes Go.WideShapes Go.ChangeAt Go.RowKit
open Go.ChangeShapes Go.WideShapes Go.ChangeAt Go.RowKit
open Go.ChangeShapes Go.WideShapes Go.ChangeAt Go.RowKit Go.Lib Go.Deep
variable {H:Type} {enc:TypeId × Value->H} {w:World} {base:Nat} {sp:Nat->Bool} {held:Bool}
theorem Bi(b a i:Nat):(⟨b,a,none⟩:Addr).add i=⟨b,a+i,none⟩:=by
 unfold Addr.add;split
 ·rename_i h;subst h;rfl
 rfl
end
