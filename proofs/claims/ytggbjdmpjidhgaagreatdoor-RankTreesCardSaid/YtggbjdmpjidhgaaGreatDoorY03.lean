/- Words for slices that read as lists: no program in sight. -/
import Derived.Test.YtggbjdmpjidhgaaGreatDoorY00
import Derived.Test.YtggbjdmpjidhgaaGreatDoorUQGrShelf
set_option linter.all false
set_option maxHeartbeats 1500000
set_option maxRecDepth 100000
namespace Go.Proofs.YtggbjdmpjidhgaaGreatDoor
open Go.RowKit Go.Proofs.Tryz
variable{a base' e size i j:Nat}{b:Nat->Bool}{v:Value}{xs:List Value}{N:List Bool}{α:Type}{A:Option Addr}{L:Array Bool->Act->Prop}{Q':Exit->Act->World->Prop}{tab:Nat->Nat->Nat}
def lenOf:Value->Nat
 | .slice _ n _=>n
 | _=>0
def hasN(s:Nat)(n:Int):Bool:=decide (0<=n/\n<32)&&s.testBit n.toNat
def Wy(s:Nat):List Nat:=(List.range 32).filter (λn=>s.testBit n)
theorem Ct{b:Nat}(c:a<4294967296)(d:b<4294967296):a ||| b<4294967296:=Nat.or_lt_two_pow (n:=32) c d
theorem and_pow(s k:Nat):s &&& 2 ^ k=if s.testBit k then 2 ^ k else 0:=by
 apply Nat.eq_of_testBit_eq;intro i;rw[Nat.testBit_and,Nat.testBit_two_pow];by_cases h:k=i
 ·subst h;cases a:s.testBit k <;> simp
 cases a:s.testBit k <;> simp[h,Nat.testBit_two_pow]
theorem Zx7(s:Nat)(a:s<4294967296)(i:Nat)(hi:32<=i):s.testBit i=false :=
 Nat.testBit_lt_two_pow (AK a (by simpa using DA (n:=2) AC hi))
theorem Zwo(s:Nat)(n:Nat):n∈Wy s↔n<32/\s.testBit n=true:=by simp[Wy]
theorem sub_low(k m:Nat):(2 ^ k*(2*m+1)) &&& (2 ^ k*(2*m+1)-1)=2 ^ k*(2*m):=by
 apply Nat.eq_of_testBit_eq;intro i;have e:2 ^ k*(2*m+1)-1=2 ^ k*(2*m)+(2 ^ k-1):=by
  have:=Nat.two_pow_pos k;rw[Eb,Ep];omega
 rw[Nat.testBit_and,e,Nat.testBit_two_pow_mul,Nat.testBit_two_pow_mul,Nat.testBit_two_pow_mul_add _ (by have:=Nat.two_pow_pos k;omega)];by_cases h:i<k
 ·simp[h,Nat.not_le.2 h]
 have c:k<=i:=AA
 simp only[c,decide_true,Bool.true_and,h,if_false];obtain⟨j,rfl⟩:∃j,i=k+j:=⟨i-k,AA⟩;rw[Nat.add_sub_cancel_left];cases j with
 | zero=>simp[Nat.testBit_zero]
 | succ j =>
   rw[Nat.testBit_succ,Nat.testBit_succ];have a:(2*m+1) / 2=m:=AA
   have b:2*m / 2=m:=AA
   rw[a,b,Bool.and_self]
theorem filter_range_split(p:Nat->Bool)(k n:Nat)(f:k<n)(b:∀i,i<k->p i=false)(c:p k=true):
 (List.range n).filter p=k::((List.range n).filter (λi=>p i&&decide (i≠k))):=by
 obtain⟨d,rfl⟩:∃d,n=k+(d+1):=⟨n-k-1,AA⟩;have e:List.range (k+(d+1))=List.range k++k::(List.range d).map (λi=>k+1+i):=by
  rw[List.range_add,List.range_succ_eq_map];simp[Function.comp_def];intro a _;omega
 have a1:(List.range k).filter p=[]:=List.filter_eq_nil_iff.2 λi hi=>by simp[b i (BP.1 hi)]
 have a2:(List.range k).filter (λi=>p i&&decide (i≠k))=[]:=List.filter_eq_nil_iff.2 λi hi=>by simp[b i (BP.1 hi)]
 rw[e,List.filter_append,List.filter_append,a1,a2,List.filter_cons,List.filter_cons,if_pos c];simp only[DD,ne_eq,not_true_eq_false,decide_false,Bool.and_false];congr 1;apply List.filter_congr;intro i hi;obtain⟨j,_,rfl⟩:=CV.1 hi;have:k+1+j≠k:=AA
 simp[this]
theorem Zt1(s:Nat)(g:s≠0)(o:s<4294967296):
 Lib.ctz 32 s<32/\(∀i,i<Lib.ctz 32 s->s.testBit i=false)/\s.testBit (Lib.ctz 32 s)=true/\(∀i,(s &&& (s-1)).testBit i=(s.testBit i&&decide (i≠Lib.ctz 32 s)))/\s &&& (s-1)<s:=by
 obtain⟨m,a,l⟩:=Lib.ctzFrom_spec 32 s AA o;have e:Lib.ctz 32 s=Lib.ctzFrom 32 s:=by simp[Lib.ctz,g]
 rw[e];generalize Lib.ctzFrom 32 s=k at *;have b:=sub_low k m;rw[<-a] at b;have n:=Nat.two_pow_pos k;refine⟨l,λi hi=>?_,?_,λi=>?_,?_⟩
 ·rw[a,Nat.testBit_two_pow_mul];simp[Nat.not_le.2 hi]
 ·rw[a,Nat.testBit_two_pow_mul];simp[Nat.testBit_zero]
 ·rw[b,Nat.testBit_two_pow_mul,a,Nat.testBit_two_pow_mul];by_cases h:k<=i
  ·simp only[h,decide_true,Bool.true_and];obtain⟨j,rfl⟩:∃j,i=k+j:=⟨i-k,AA⟩;rw[Nat.add_sub_cancel_left];cases j with
   | zero=>simp[Nat.testBit_zero]
   | succ j =>
     rw[Nat.testBit_succ,Nat.testBit_succ];have c:(2*m+1) / 2=m:=AA
     have d:2*m / 2=m:=AA
     have f:k+(j+1)≠k:=AA
     simp[c,d,f]
  simp[h]
 rw[b];have:2 ^ k*(2*m)<2 ^ k*(2*m+1):=Nat.mul_lt_mul_of_pos_left AA n;omega
theorem mems_step(s:Nat)(a:s≠0)(g:s<4294967296):Wy s=Lib.ctz 32 s::Wy (s &&& (s-1)):=by
 obtain⟨f,b,c,d,_⟩:=Zt1 s a g;unfold Wy;rw[filter_range_split (λi=>s.testBit i) (Lib.ctz 32 s) 32 f b c];congr 1;apply List.filter_congr;intro i _;rw[d]
theorem mems_zero:Wy 0=[]:=by
 unfold Wy;exact List.filter_eq_nil_iff.2 λi _=>AE
theorem or32(a b:Nat)(f:a<4294967296)(g:b<4294967296):bits .or .u32 (a:Int) (b:Int)=((a ||| b:Nat):Int):=by
 have h:a ||| b<2 ^ 32:=Nat.or_lt_two_pow AA AA
 have c:(BitVec.ofInt 32 (a:Int)).toNat=a:=by rw[BitVec.ofInt_natCast,Et];exact Eh AA
 have d:(BitVec.ofInt 32 (b:Int)).toNat=b:=by rw[BitVec.ofInt_natCast,Et];exact Eh AA
 show IntKind.u32.wrap ((BitVec.ofInt 32 (a:Int) ||| BitVec.ofInt 32 (b:Int)).toNat:Int)=_;rw[BitVec.toNat_or,c,d,IntKind.wrap_u32];omega
theorem and32(a b:Nat)(f:a<4294967296)(g:b<4294967296):bits .and .u32 (a:Int) (b:Int)=((a &&& b:Nat):Int):=by
 have h:a &&& b<2 ^ 32:=Nat.and_lt_two_pow _ AA;have c:(BitVec.ofInt 32 (a:Int)).toNat=a:=by rw[BitVec.ofInt_natCast,Et];exact Eh AA
 have d:(BitVec.ofInt 32 (b:Int)).toNat=b:=by rw[BitVec.ofInt_natCast,Et];exact Eh AA
 show IntKind.u32.wrap ((BitVec.ofInt 32 (a:Int) &&& BitVec.ofInt 32 (b:Int)).toNat:Int)=_;rw[BitVec.toNat_and,c,d,IntKind.wrap_u32];omega
theorem tz32_key(s a:Nat)(d:s<4294967296)(f:s≠0)(c:s &&& (4294967296-s)=a):
 bits BinOp.and IntKind.u32 (s:Int) (-(s:Int) % 4294967296)*125613361 % 4294967296 / 134217728=((a*125613361 % 4294967296 / 134217728:Nat):Int):=by
 have b:-(s:Int) % 4294967296=((4294967296-s:Nat):Int):=AA
 rw[b,and32 s _ d AA,c];omega
theorem tz32_core(s k a:Nat)(w:World)(d:((s:Int)==0)=false)(key:bits BinOp.and IntKind.u32 (s:Int) (-(s:Int) % 4294967296)*125613361 % 4294967296 / 134217728=(a:Int))(hi:a<32)(c:k<32)(b:w.cell? ⟨0,a,none⟩=some (.int .u8 (k:Int))):
 Calls prog 196 #[.int .u32 (s:Int)] w λe w'=>e = .returned (.int .i64 (k:Int))/\w=w':=by
 go_enter func196,ntmps196;go_wp2_with (simp only[key]);go_ret;exact⟨rfl,rfl⟩
theorem Zt7(s:Nat):(Wy s).length<=32:=by
 have:=List.length_filter_le (λn=>s.testBit n) (List.range 32);simpa [Wy] using this
theorem countP_full(q:Nat->Bool)(j:∀n,q n=true->1<=n):∀m,(List.range (m+1)).countP q<=m/\((List.range (m+1)).countP q=m↔∀n,1<=n->n<=m->q n=true):=by
 intro m
 induction m with
 | zero =>
   have:q 0=false:=by
    cases h:q 0
    ·rfl
    have:=j 0 h;omega
   simp[DZ,this];intro n a c;omega
 | succ m d =>
   rw[DZ,List.countP_append,List.countP_singleton];cases h:q (m+1)
   ·simp only[Bool.false_eq_true,if_false,DG];refine⟨AA,?_,?_⟩
    ·intro g;omega
    intro b;have:=b (m+1) AA (AJ _);rw[h] at this;cases this
   simp only[if_true];refine⟨AA,?_,?_⟩
   ·intro g n a c;rcases BC n (m+1) with f | f
    ·exact (d.2.1 AA) n a AA
    obtain rfl:n=m+1:=AA
    exact h
   intro b;have:=d.2.2 λn a c=>b n a AA;omega
theorem countP_cut(q:Nat->Bool)(T:Nat)(b:∀n,q n=true->n<=T):∀N,T<N->(List.range N).countP q=(List.range (T+1)).countP q:=by
 intro N d
 induction N with
 | zero=>omega
 | succ N c =>
   by_cases h:N=T
   ·subst h;rfl
   rw[DZ,List.countP_append,c AA,List.countP_singleton];have:q N=false:=by
    cases a:q N
    ·rfl
    have:=b N a;omega
   rw[this];simp
theorem Zvh{a b:List Bool}(j:a.length=b.length)(g:∀i:Nat,a[i]? = some true->b[i]? = some true)(h:∀i:Nat,b[i]? = some true->a[i]? = some true):a=b:=by
 refine List.ext_getElem? λi=>?_;cases c:a[i]? with
 | none =>
   rw[List.getElem?_eq_none_iff] at c;exact (BE AA).symm
 | some x =>
   have hi:=(AO.1 c).1;have d:b[i]? = some (b[i]' AA):=AN AA;cases x with
   | true=>exact (g i c).symm
   | false =>
     cases f:b[i]' AA with
     | false=>rw[d,f]
     | true =>
       rw[f] at d;have:=h i d;rw[c] at this;cases this
theorem enters_rule1:∀args w,(callFunc 167 args).run prog w = .ok (.enter 167 args) w:=λargs w=>AB
theorem enters_right1:∀args w,(callFunc 102 args).run prog w = .ok (.enter 102 args) w:=λargs w=>AB
theorem enters_bare1:∀args w,(callFunc 198 args).run prog w = .ok (.enter 198 args) w:=λargs w=>AB
theorem enters_within1:∀args w,(callFunc 170 args).run prog w = .ok (.enter 170 args) w:=λargs w=>AB
theorem tr_bare1(s:Int)(w:World):Calls prog 198 #[.int .i64 s] w λe w'=>e = .returned (.bool (decide (0<=s)))/\w=w':=by
 go_enter func198,ntmps198;go_wp2_with fail;go_ret;exact⟨rfl,rfl⟩
def Apart(A:Option Addr)(g:Nat):Prop:=∀b a,A=some ⟨b,a,none⟩->b≠g
def L6(N a:List Bool):Bool:=!decide (a=N)
theorem Zwk(N:List Bool):L6 N N=false:=by simp[L6]
theorem enters_null1:∀args w,(callFunc 151 args).run prog w = .ok (.enter 151 args) w:=λargs w=>AB
theorem enters_prod1:∀args w,(callFunc 168 args).run prog w = .ok (.enter 168 args) w:=λargs w=>AB
def Le'(N M:List Bool):Prop:=N.length=M.length/\∀i,N.getD i false=true->M.getD i false=true
theorem Zyd{b:Nat}(h:∀t,a.testBit t=true->b.testBit t=true):a<=b:=by
 have:a &&& b=a:=by
  apply Nat.eq_of_testBit_eq;intro t;rw[Nat.testBit_and];cases c:a.testBit t
  ·rfl
  rw[h t c];rfl
 rw[<-this];exact Nat.and_le_right
theorem sets_ext{F a:List Nat}(d:F.length=a.length)(h:∀i,i<F.length->∀t,(F.getD i 0).testBit t=(a.getD i 0).testBit t):F=a:=by
 refine List.ext_getElem d λi b c=>?_;have:=Nat.eq_of_testBit_eq (h i b);rw[AP,AP,AN b,AN c] at this;exact this
def Qd(S:List Nat)(R:Nat)(l:List Nat):Nat:=l.foldl (λm k=>m ||| S.getD k 0) R
theorem moreN_snoc(S:List Nat)(R:Nat)(l:List Nat)(k:Nat):Qd S R (l++[k])=Qd S R l ||| S.getD k 0:=by simp[Qd]
theorem Ma(S:List Nat)(t:Nat):∀(l:List Nat) (R:Nat),(Qd S R l).testBit t=(R.testBit t || l.any λk=>(S.getD k 0).testBit t)
 | [],R=>by simp[Qd]
 | k::l,R=>by
   show (Qd S (R ||| S.getD k 0) l).testBit t=_;rw[Ma S t l,DX,List.any_cons,Bool.or_assoc]
theorem moreN_le(S:List Nat)(l:List Nat)(R:Nat):R<=Qd S R l:=Zyd λt h=>by rw[Ma,h];rfl
theorem Ztx{s t:Nat}(b:s<4294967296)(h:s.testBit t=true):t<32:=by
 rcases BC t 32 with a | a
 ·exact a
 rw[Zx7 s b t a] at h;cases h
theorem Zvf{x:Nat}(h:x≠0):∃t,x.testBit t=true:=by
 apply DW;intro a;apply h;apply Nat.eq_of_testBit_eq;intro t;rw[Nat.zero_testBit];cases b:x.testBit t
 ·rfl
 exact absurd ⟨t,b⟩ a
structure OrdI (S:List Nat) (use n:Nat) (st:List Nat × Nat):Prop where
 lt:st.2<4294967296
 mem:∀t,st.2.testBit t=true↔t∈st.1
 use:∀t∈st.1,use.testBit t=true/\t<n
def Jv(x:Nat):Bool:=x==32 || x==9 || x==10 || x==13
def L0(x:Nat):Int:=if x=58 then 10 else if x=124 then 11 else if x=59 then 12 else 0
theorem rf_mark7(x:Nat)(w:World):Calls prog 223 #[.int .u8 (x:Int)] w λe w'=>e = .returned (.int .i64 (L0 x))/\w=w':=by
 have f:x=58\/x=124\/x=59\/(((x:Int)==58)=false/\((x:Int)==124)=false/\((x:Int)==59)=false/\L0 x=0):=by
  by_cases a:x=58
  ·exact .inl a
  by_cases b:x=124
  ·exact .inr (.inl b)
  by_cases c:x=59
  ·exact .inr (.inr (.inl c))
  refine .inr (.inr (.inr ⟨?_,?_,?_,by simp[L0,a,b,c]⟩)) <;> (rw[AQ];omega)
 rcases f with rfl | rfl | rfl | ⟨a,b,c,d⟩;all_goals
  first
   | rw[d]
   | rw[show L0 58=10 from rfl]
   | rw[show L0 124=11 from rfl]
   | rw[show L0 59=12 from rfl]
  go_enter func223,ntmps223;go_wp2_with fail;go_ret;exact⟨rfl,rfl⟩
structure Af where
 kind:Int
 text:List Nat
 at_:Nat
def Fz(k:Int):Bool:=decide (k=1) || decide (k=2)
def errS:ByteArray:=⟨#[101,114,114,111,114]⟩
theorem tw_in(p:Nat->Bool)(l:List Nat):∀m,m<(l.takeWhile p).length->p (l.getD m 0)=true:=by
 induction l with
 | nil=>intro m h;simp at h
 | cons x l b =>
   intro m h;by_cases a:p x=true
   ·rw[List.takeWhile_cons_of_pos a] at h;cases m with
    | zero=>exact a
    | succ m=>exact b m (by simpa using h)
   rw[List.takeWhile_cons_of_neg a] at h;simp at h
theorem tw_out(p:Nat->Bool)(l:List Nat):(l.takeWhile p).length<l.length->p (l.getD (l.takeWhile p).length 0)=false:=by
 induction l with
 | nil=>intro h;simp at h
 | cons x l b =>
   intro h;by_cases a:p x=true
   ·rw[List.takeWhile_cons_of_pos a] at h ⊢;exact b (by simpa using h)
   rw[List.takeWhile_cons_of_neg a];simpa using a
theorem Zu3(p:Nat->Bool)(l:List Nat):(l.takeWhile p).length<=l.length:=by
 induction l with
 | nil=>simp
 | cons x l b =>
   by_cases a:p x=true
   ·rw[List.takeWhile_cons_of_pos a];simp;exact b
   rw[List.takeWhile_cons_of_neg a];simp
theorem F0(xs:List Nat)(a m:Nat):(xs.drop a).getD m 0=xs.getD (a+m) 0:=by simp[AP,DY]
def Dd(ts:List Af):Nat:=(ts.filter λt=>decide (t.kind=9)).length
theorem Cw(a b:List Af):Dd (a++b)=Dd a+Dd b:=by simp[Dd]
def Zyp(w:World)(p:Nat):Nat:=match w.cell? ⟨p,0,none⟩ with
 | some (.slice _ n _)=>n
 | _=>0
theorem Zzw{w:World}{base:Nat}{n:Nat}(h:w.ownsRow base e size v n xs)(d:base'<=base):w.ownsRow base' e size v n xs:=by
 refine⟨h.1,?_⟩;rcases h.2 with b | ⟨g,cap,a,c,f,rest⟩
 ·exact .inl b
 exact .inr ⟨g,cap,a,c,AA,rest⟩
theorem enters_reach1:∀args w,(callFunc 169 args).run prog w = .ok (.enter 169 args) w:=λargs w=>AB
theorem hasN_nat{s:Nat}(a:s<4294967296)(k:Nat):hasN s (k:Int)=s.testBit k:=by
 unfold hasN;rw[DC];rcases BC k 32 with h | h
 ·rw[Eg AA,Bool.true_and]
 rw[Zx7 s a k h,Bool.and_false]
theorem bne_cast(z:Nat):((z:Int) != 0)=(z != 0):=by
 rw[BZ,BM,BM];omega
theorem getD_lt(h:N.getD i false=true):i<N.length:=by
 rcases BC i N.length with a | a
 ·exact a
 rw[AP,BE a] at h;cases h
theorem Zve(n i:Nat):(List.replicate n false).getD i false=false:=by
 rw[AP,List.getElem?_replicate];split <;> rfl
theorem K3{M:List α->Prop}(h0:M [])(h1:∀l x,M l->M (l++[x]))(l:List α):M l:=by
 have key:∀q:List α,M q.reverse:=by
  intro q
  induction q with
  | nil=>exact h0
  | cons x q a=>rw[List.reverse_cons];exact h1 _ x a
 have:=key l.reverse;rwa [List.reverse_reverse] at this
theorem Br:∀(n:Nat) (l:List Nat),l.Nodup->(∀i∈l,i<n)->l.length<=n
 | 0,l,_,h=>by
   cases l with
   | nil=>simp
   | cons x l=>exact absurd (h x (AX ..)) AA
 | n+1,l,hn,h=>by
   by_cases a:n∈l
   ·have:=Br n (l.erase n) (hn.erase n) λi hi=>by
     rw[hn.mem_erase_iff] at hi;have:=h i hi.2;omega
    rw[List.length_erase_of_mem a] at this;omega
   have:=Br n l hn λi hi=>by
    have:=h i hi;have:i≠n:=λb=>a (b ▸ hi);omega
   omega
def N3(o:List Nat)(i:Nat):List Nat:=if i∈o then o else o++[i]
theorem putO_nodup{o:List Nat}(h:o.Nodup)(i:Nat):(N3 o i).Nodup:=by
 unfold N3;split
 ·exact h
 rename_i hi;rw[List.nodup_append];refine⟨h,AE,λa d b c=>?_⟩;rw[BU] at c;subst c;rintro rfl;exact hi d
theorem Zum[BEq α][LawfulBEq α]:∀{l m:List α},l.Nodup->(∀x∈l,x∈m)->l.length<=m.length
 | [],_,_,_=>AV _
 | x::l,m,h,hs=>by
   rw[List.nodup_cons] at h;have a:x∈m:=hs x AE;have:=Zum (l:=l) (m:=m.erase x) h.2 λy b=>by
    have c:y≠x:=λe=>h.1 (e ▸ b);exact (List.mem_erase_of_ne c).2 (hs y (by simp[b]))
   rw[List.length_erase_of_mem a] at this;have:0<m.length:=List.length_pos_of_mem a;rw[AZ];omega
theorem beq0_cast(z:Nat):((z:Int)==0)=(z==0):=by
 rw[BZ,BO,BO];omega
def Nb(n j:Nat):List Int:=List.replicate j (-1)++List.replicate (n-j) 0
theorem fill_end(n:Nat):Nb n n=List.replicate n (-1):=by simp[Nb]
theorem fill_start(n:Nat):Nb n 0=List.replicate n 0:=by simp[Nb]
theorem fill_len{n:Nat}(a:j<=n):(Nb n j).length=n:=by simp[Nb];omega
theorem Cx{w:World}{base:Nat}{n:Nat}{ys:List Value}(h:w.ownsRow base e size v n xs)(f:w.ownsRow base' j size v n ys):xs=ys:=by
 have b:=h.1;have c:=f.1;rcases h.2 with ⟨_,rfl⟩ | ⟨g,cap,q,o,_,k,_,_,_,l⟩
 ·simp at b c;rw[b,c]
 rcases f.2 with ⟨d,rfl⟩ | ⟨s,p,r,d,_,a,_,_,_,m⟩
 ·simp at b c;rw[b,c]
 rw[o] at d;injection d with h1 h2 h3;injection h1 with h1;injection h1 with h1;subst h1;rw[k] at a;injection a with a;injection a with hg1 hg2 hg3;rw[<-l,<-m,hg1]
abbrev Sb(n:Nat):Type:={s:Int // -(n:Int)<=s/\s<=1000}
instance (n:Nat):Inhabited (Sb n):=⟨⟨0,by omega,by omega⟩⟩
def encB(n:Nat):Sb n->Value:=λs => .int .i64 s.1
theorem put_grown{n:Nat}(w:World)(q g b:Nat)(d:Array (Sb n)):w.grownBy (Sort.putRow (encB n) (Sort.ahead w q) g b d) (some g):=by
 refine⟨rfl,rfl,rfl,AE,λk c a=>?_⟩;have:g≠k:=λe=>a (by rw[e]);simp[Sort.putRow,Sort.mapBlock,Sort.ahead,Array.getElem?_modify,this]
theorem i64w{n:Int}(h0:0<=n)(h1:n<9223372036854775808):IntKind.i64.wrap n=n:=by rw[IntKind.wrap_i64];omega
theorem u64w{n:Int}(h0:0<=n)(h1:n<18446744073709551616):IntKind.u64.wrap n=n:=by rw[IntKind.wrap_u64];omega
theorem Ld(n:Int)(w:World):Calls prog 43 #[.int .i64 n] w λe w'=>e = .returned (.bool (decide (0<=n)&&decide (n<=10)))/\w=w':=by
 go_enter func43,ntmps43;by_cases h0:0<=n
 ·by_cases h1:n<=10
  ·have a:Hid ((decide (0<=n)&&decide (n<=10))=true):=LH (by simp[h0,h1]);go_wp2_with fail;go_ret;exact⟨by first | (rw[a.out];rfl) | (rw[show decide (n<=10)=false by simp[h1]];rfl) | (rw[show decide (0<=n)=false by simp[h0]];rfl) | rfl,rfl⟩
  have a:Hid ((decide (0<=n)&&decide (n<=10))=false):=LH (by simp[h0,h1]);go_wp2_with fail;go_ret;exact⟨by first | (rw[a.out];rfl) | (rw[show decide (n<=10)=false by simp[h1]];rfl) | (rw[show decide (0<=n)=false by simp[h0]];rfl) | rfl,rfl⟩
 have a:Hid ((decide (0<=n)&&decide (n<=10))=false):=LH (by simp[h0]);go_wp2_with fail;go_ret;exact⟨by first | (rw[a.out];rfl) | (rw[show decide (n<=10)=false by simp[h1]];rfl) | (rw[show decide (0<=n)=false by simp[h0]];rfl) | rfl,rfl⟩
theorem enters_crule1:∀args w,(callFunc 228 args).run prog w = .ok (.enter 228 args) w:=λargs w=>AB
theorem L8:∀args w,(callFunc 93 args).run prog w = .ok (.enter 93 args) w:=λargs w=>AB
theorem Zx5{a b:ByteArray}:(a==b)=true↔a=b:=by
 obtain⟨⟨x⟩⟩:=a;obtain⟨⟨y⟩⟩:=b;show ((⟨x⟩:Array UInt8)==⟨y⟩)=true↔_;simp
theorem Tryz.structTerm:prog.underlying 91=some (.struct (prog.fieldsOf 91)):=AB
theorem Tryz.heldTerm:prog.stoodInHeld 91=false:=AB
theorem Tryz.guardTerm:prog.eqGuardType prog.depth 91=false:=AB
theorem enters_bare:∀args w,(callFunc 147 args).run prog w = .ok (.enter 147 args) w:=enters_of func147 AB rfl
theorem sb_list{n:Nat}:∀(ss:List Int),(∀s∈ss,-(n:Int)<=s/\s<=1000)->∃ds:List (Sb n),ds.map (λs=>s.1)=ss
 | [],_=>⟨[],rfl⟩
 | s::ss,h=>by
   obtain⟨ds,hd⟩:=sb_list ss λs a=>h s (BN _ a);exact⟨⟨s,h s (AX ..)⟩::ds,by rw[CJ,hd]⟩
theorem enters_cof1:∀args w,(callFunc 45 args).run prog w = .ok (.enter 45 args) w:=λargs w=>AB
def Zyh:List Nat:=[37,37,32,115,32,58,32,115,32,115,32,124,32,39,97,39,32,59]
theorem Lc{q T F r:Nat}(h1:a+q<T)(b:r<F):(a+q)*F+r<T*F :=
 AK (Nat.add_lt_add_left b _) (by rw[<-Nat.succ_mul];exact Eu _ h1)
theorem quo_one{b F r c:Nat}(h1:r<F)(j:c<F)(h:a*F+r=b*F+c):a=b/\r=c:=by
 have d:0<F:=AA
 have f:(a*F+r) / F=a:=by rw[Eo,Nat.add_mul_div_right _ _ d,Nat.div_eq_of_lt h1,BH]
 have g:(b*F+c) / F=b:=by rw[Eo,Nat.add_mul_div_right _ _ d,Nat.div_eq_of_lt j,BH]
 have:a=b:=by rw[<-f,<-g,h]
 subst this;exact⟨rfl,AA⟩
def Vm(a b:Nat):Int:=if a<b then -1 else if b<a then 1 else 0
def bitLen(n:Nat):Nat:=if n=0 then 0 else n.log2+1
theorem Bo{k:IntKind}{a b:Int}(h:a=b):Ending.returned (.int k a) = .returned (.int k b):=by rw[h]
theorem borrow_bit(x y c:Nat)(j:x<4294967296)(a:y<4294967296)(n:c<=1):
 (((4294967295 ^^^ x) &&& y) ||| ((4294967295 ^^^ (x ^^^ y)) &&& ((4294967296+x-y-c) % 4294967296))) / 2147483648=1-(4294967296+x-y-c) / 4294967296:=by
 have key:∀z:Nat,z<4294967296->z / 2147483648=(z.testBit 31).toNat:=λz p=>by
  rw[Nat.testBit_eq_decide_div_mod_eq];have:z / 2 ^ 31 % 2=z / 2147483648:=by
   have:z / 2 ^ 31=z / 2147483648:=rfl;omega
  rw[this];have:z / 2147483648=0\/z / 2147483648=1:=AA
  rcases this with h | h <;> simp[h]
 have hd:(4294967296+x-y-c) % 4294967296<4294967296:=Nat.mod_lt _ AC;generalize o:(4294967296+x-y-c) % 4294967296=d at *;have g:(((4294967295 ^^^ x) &&& y) ||| ((4294967295 ^^^ (x ^^^ y)) &&& d))<2 ^ 32 :=
  Nat.or_lt_two_pow (Nat.and_lt_two_pow _ a) (Nat.and_lt_two_pow _ hd)
 rw[key _ g];have t:Nat.testBit 4294967295 31=true:=AC
 simp only[DX,Nat.testBit_and,Nat.testBit_xor,t];have l:=key x j;have m:=key y a;have k:=key d hd;cases f:x.testBit 31 <;> cases by_:y.testBit 31 <;> cases b:d.testBit 31 <;> simp[f,by_,b] at l m k ⊢ <;> omega
theorem Wq(n:Int)(h0:0<=n)(h1:n<1000000):wrap64 n=n:=by unfold wrap64;omega
theorem Ztl(a b:Int)(w:World):
 Calls prog 127 #[.int .i64 a,.int .i64 b] w λe w'=>e = .returned (.int .i64 (if a<b then -1 else if b<a then 1 else 0))/\w=w':=by
 by_cases h1:a<b
 ·go_enter func127,ntmps127;go_wp2;go_ret;exact⟨AE,rfl⟩
 by_cases c:b<a
 ·go_enter func127,ntmps127;go_wp2;go_ret;exact⟨AE,rfl⟩
 go_enter func127,ntmps127;go_wp2;go_ret;exact⟨AE,rfl⟩
theorem Zto(a b:Int)(w:World):
 Calls prog 128 #[.int .u32 a,.int .u32 b] w λe w'=>e = .returned (.int .i64 (if a<b then -1 else if b<a then 1 else 0))/\w=w':=by
 by_cases h1:a<b
 ·go_enter func128,ntmps128;go_wp2;go_ret;exact⟨AE,rfl⟩
 by_cases c:b<a
 ·go_enter func128,ntmps128;go_wp2;go_ret;exact⟨AE,rfl⟩
 go_enter func128,ntmps128;go_wp2;go_ret;exact⟨AE,rfl⟩
theorem bitLen_lib:∀(f x:Nat),x<2 ^ f->Lib.bitLenAux f x=bitLen x:=by
 intro f
 induction f with
 | zero=>intro x h;simp at h;subst h;rfl
 | succ f b =>
   intro x h;unfold Lib.bitLenAux;by_cases h0:x=0
   ·subst h0;rfl
   rw[if_neg h0,b (x / 2) (by rw[Nat.pow_succ] at h;omega)];by_cases h1:x / 2=0
   ·have a:x=1:=AA
    subst a;rfl
   have:=Go.bitLen_shift x 1 (by simpa using h1);exact this.symm
theorem Bm(x:Nat)(h:x<4294967296):Lib.bitLen x=bitLen x:=bitLen_lib 64 x AA
theorem Zsy(a b i:Nat)(d:0<b):
 let r:=a / 2 ^ (i+1) % b
 let c:=2*r+a / 2 ^ i % 2
 (b<=c->a / 2 ^ i % b=c-b/\a / 2 ^ i / b=2*(a / 2 ^ (i+1) / b)+1) /\
 (c<b->a / 2 ^ i % b=c/\a / 2 ^ i / b=2*(a / 2 ^ (i+1) / b)):=by
 intro r c;have h:a / 2 ^ (i+1)=a / 2 ^ i / 2:=by rw[Nat.pow_succ,Nat.div_div_eq_div_mul]
 have p:r<b:=Nat.mod_lt _ d;have j:a / 2 ^ i=2*(a / 2 ^ (i+1))+a / 2 ^ i % 2:=by rw[h];omega
 have k:a / 2 ^ (i+1)=b*(a / 2 ^ (i+1) / b)+r:=(Nat.div_add_mod _ _).symm;have n:a / 2 ^ i % 2<2:=Nat.mod_lt _ AC;have m:c=2*r+a / 2 ^ i % 2:=rfl;generalize a / 2 ^ (i+1) / b=q at *
 clear_value r c
 have f:a / 2 ^ i=b*(2*q)+c:=by
  rw[j,k,Eb,m,<-DU,Ei 2 b,DU];omega
 constructor
 ·intro o;have l:a / 2 ^ i=b*(2*q+1)+(c-b):=by rw[f,Eb,Ep];omega
  rw[l];constructor
  ·rw[Nat.mul_add_mod,Eh AA]
  rw[Nat.mul_add_div d,Nat.div_eq_of_lt AA,DG]
 intro g;rw[f];constructor
 ·rw[Nat.mul_add_mod,Eh g]
 rw[Nat.mul_add_div d,Nat.div_eq_of_lt g,DG]
theorem Zv3{w:World}{base:Nat}{n c:Nat}(h:w.ownsRow base e 1 (.slice A n c) n xs)(b f:Nat)(a:A=some ⟨b,f,none⟩):base<=b:=by
 rcases h.2 with ⟨d,rfl⟩ | ⟨g,cap,j,d,k,o,p,l,m,q⟩
 ·simp at d;rw[d.1] at a;cases a
 injection d with h1 h2 h3;rw[h1] at a;injection a with a;injection a with a;omega
theorem shl_or(x c:Nat)(b:x<4294967296)(a:c<=1):bits .or .u32 ((x:Int)*2 % 4294967296) (c:Int)=(((2*x+c) % 4294967296:Nat):Int):=by
 have e:(x:Int)*2 % 4294967296=((2*x % 4294967296:Nat):Int):=AA
 rw[e,u32_or_nat _ _ AA AA,nat_join 1 _ _ AA AA];congr 1;omega
theorem bitLen_lt(v:Nat):v<2 ^ bitLen v:=by
 unfold bitLen;split
 ·omega
 exact Nat.lt_log2_self
theorem bitLen_le(v k:Nat)(a:k<bitLen v):2 ^ k<=v:=by
 unfold bitLen at a;split at a
 ·omega
 rename_i h;exact BD (DA AC AA) (Nat.log2_self_le h)
theorem Q5{b:Nat}:Vm a b<0↔a<b:=by unfold Vm;split <;> (try split) <;> omega
def Do(b:Nat->Bool)(u:Nat->Value)(p:Nat)(a:Value):Prop:=b p=false->u p=a
def slLen:Value->Nat
 | .slice _ n _=>n
 | _=>0
section
variable {P:Program} {w:World}
theorem M3{base:Nat}{n:Nat}(h:w.ownsRow base e 1 v n xs):∃A c,v = .slice A n c:=by
 rcases h.2 with ⟨rfl,rfl⟩ | ⟨g,cap,a,rfl,_⟩
 ·exact⟨_,_,rfl⟩
 exact⟨_,_,rfl⟩
theorem Lt{base:Nat}{g n c:Nat}(h:w.ownsRow base e 1 (.slice (some ⟨g,0,none⟩) n c) n xs)(j:Nat)(u:Value):
 (w.setCell ⟨g,j,none⟩ u).ownsRow base e 1 (.slice (some ⟨g,0,none⟩) n c) n (xs.set j u):=(h.stored j u).1
theorem Bv{base:Nat}{n:Nat}(h:w.ownsRow base e 1 v n xs)(d:base'<=base):w.ownsRow base' e 1 v n xs:=by
 refine⟨h.1,?_⟩;rcases h.2 with b | ⟨g,cap,a,c,f,rest⟩
 ·exact .inl b
 exact .inr ⟨g,cap,a,c,AA,rest⟩
theorem Zuk{base:Nat}{n:Nat}(h:w.ownsRow base e size v n xs):∃A c,v = .slice A n c:=by
 rcases h.2 with ⟨rfl,rfl⟩ | ⟨g,cap,a,rfl,_⟩
 ·exact⟨_,_,rfl⟩
 exact⟨_,_,rfl⟩
theorem run_append_nilS(base size:Nat)(t ty e:TypeId)(i:TypeInfo)(b:P.underlying t=some (.slice e))(hi:P.info? e=some i)(A:Option Addr)(n c:Nat)(xs:List Value)(f:w.ownsRow base e size (.slice A n c) n xs)(c2:Nat):
 (Builtin.append_ #[t,t] ty #[.slice A n c,.slice none 0 c2]).run P w = .ok (.slice A n c) w:=by
 rcases f.2 with ⟨a,rfl⟩ | ⟨g,cap,h,a,_,_,d,_⟩
 ·rw[a];simp[Builtin.append_,run_underlying b,sizeOf,typeInfo,hi,Builtin.lenOf,Builtin.firstCells]
 rw[a];simp[Builtin.append_,run_underlying b,sizeOf,typeInfo,hi,Builtin.lenOf,Builtin.firstCells,d,storeCells]
end
section
open Go.ChangeShapes Go.WideShapes Go.ChangeAt Go.RowKit
def Nn:List (String × DataW Unit):=[("math/bits.deBruijn32tab",Rows.laid_math_bits_deBruijn32tab)]
theorem gTab:prog.globalNamed "math/bits.deBruijn32tab"=some 0:=AB
theorem tTab:(prog.globals[0]?).map (·.type)=some 270:=AB
theorem Cb(os:Os)(args:Array Value):laidMetH prog Nn ((World.doorLaid prog 400 os).forCall (λ_ _=>0) ⟨#[],args,[]⟩).memory :=
 laidMetH_of_parts3 (fuel:=8) (laidMet_of_run' 8 AB AB) AB AB
theorem tab_lits:(Rows.laid_math_bits_deBruijn32tab:DataW Unit) = .agg (Lib.deBruijn32tab.map λ(n:Nat) => .lit (.int .u8 (n:Int))):=by rfl
end
section
open Go.ChangeShapes Go.WideShapes Go.ChangeAt Go.RowKit
open Ieee
def fN(n:Nat):Nat:=Ieee.double.nearest false n 0
theorem fN_zero:fN 0=0:=AC
def okN(n:Nat):Bool:=decide (1<=n/\n<=1073741824)
def okP(l c:Nat):Bool:=okN l&&okN c
def PV(l c:Nat):Value := .complex .f64 (fN l) (fN c)
theorem PV_zero:PV 0 0 = .complex .f64 0 0:=by unfold PV;rw[fN_zero]
theorem Fm(n:Nat):floatOfInt .f64 (n:Int)=fN n:=by
 unfold floatOfInt FloatKind.nearest;have a:decide ((n:Int)<0)=false:=AE
 rw[a,Int.natAbs_natCast];rfl
def ofP(a b:Int):Value:=if 1<=a/\a<=1073741824/\1<=b/\b<=1073741824 then PV a.toNat b.toNat else PV 0 0
theorem ref_of(a b:Int)(w:World):Calls prog 220 #[.int .i64 a,.int .i64 b] w λe w'=>e = .returned (ofP a b)/\w=w':=by
 by_cases h:1<=a/\a<=1073741824/\1<=b/\b<=1073741824
 ·unfold ofP;rw[if_pos h];obtain⟨n,rfl⟩:∃n:Nat,a=(n:Int):=⟨a.toNat,AA⟩;obtain⟨m,rfl⟩:∃m:Nat,b=(m:Int):=⟨b.toNat,AA⟩;have g:=Fm n;have j:=Fm m;obtain⟨c,d,f,k⟩:=h;unfold PV;rw[DC,DC];generalize fN n=x at *;generalize fN m=y at *;go_enter func220,ntmps220;go_wp2;go_ret;exact⟨by simp[g,j],rfl⟩
 unfold ofP;rw[if_neg h,PV_zero];have l:a<1\/(1<=a/\1073741824<a)\/(1<=a/\a<=1073741824/\b<1)\/(1<=a/\a<=1073741824/\1<=b/\1073741824<b):=AA
 rcases l with c | ⟨c,d⟩ | ⟨c,d,f⟩ | ⟨c,d,f,k⟩;all_goals
  go_enter func220,ntmps220;go_wp2;go_ret;exact⟨rfl,rfl⟩
def H9(p:Nat × Nat)(b:Nat):Nat × Nat:=if b=10 then (p.1+1,1) else (p.1,p.2+1)
def atN(a:List Nat):Nat × Nat:=a.foldl H9 (1,1)
theorem atN_snoc(a:List Nat)(b:Nat):atN (a++[b])=H9 (atN a) b:=by simp[atN]
theorem atN_go(a:List Nat):∀p:Nat × Nat,1<=p.1->1<=p.2->1<=(a.foldl H9 p).1/\(a.foldl H9 p).1<=p.1+a.length/\1<=(a.foldl H9 p).2/\(a.foldl H9 p).2<=p.2+a.length:=by
 induction a with
 | nil=>intro p d f;simp;omega
 | cons b a g =>
   intro p d f;have c:1<=(H9 p b).1/\(H9 p b).1<=p.1+1/\1<=(H9 p b).2/\(H9 p b).2<=p.2+1:=by
    unfold H9;split <;> simp <;> omega
   have:=g (H9 p b) c.1 c.2.2.1;rw[List.foldl_cons,AZ];omega
theorem atN_bd(a:List Nat):1<=(atN a).1/\(atN a).1<=a.length+1/\1<=(atN a).2/\(atN a).2<=a.length+1:=by
 have:=atN_go a (1,1) AC AC;unfold atN;omega
theorem okP_of{l c:Nat}(a:1<=l)(b:l<=1073741824)(d:1<=c)(f:c<=1073741824):okP l c=true:=by simp[okP,okN,a,b,d,f]
theorem ofP_of(l c:Nat)(h:okP l c=true):ofP (l:Int) (c:Int)=PV l c:=by
 simp[okP,okN] at h;unfold ofP;rw[if_pos AA];simp
def str(l:List Nat):ByteArray:=⟨(l.map UInt8.ofNat).toArray⟩
end
section
open Go.RowKit Go.Shelf
attribute [local go_sem] Oper.semAt_some
open Go.RowKit Go.Shelf Go.Sort
theorem Ql(a b:ByteArray):(a.toList==b.toList)=decide (a=b):=by
 rw[BZ,BO,BB];constructor
 ·intro h;rw[ByteArray.toList_eq,ByteArray.toList_eq] at h;cases a;cases b;simp only[ByteArray.mk.injEq];exact Array.toList_inj.1 h
 intro h;rw[h]
theorem Q8{l:List α}{k:Nat}{x:α}(h:l[k]? = some x):l.drop k=x::l.drop (k+1):=by
 obtain⟨a,rfl⟩:=AO.1 h;exact DV a
end
section
open Go.RowKit Go.Shelf Go.Sort
theorem grow_none(w:World):grow w #[]=w:=by unfold grow;simp
end
section
open Go.RowKit Go.Maps
theorem Jl(w:World)(r:Option Nat):w.grownBy w r:=⟨rfl,rfl,rfl,AJ _,λ_ _ _=>rfl⟩
end
section
variable {P:Program} {ops:Array Oper} {md:Region.Mode} {C:World->Prop}
def headQ(P:Program)(md:Region.Mode)(ops:Array Oper)(C:World->Prop)(n:Nat)(L:Array Bool->Act->Prop):Nat->Array Bool->Act->Prop
 | 0,listed,a=>L listed a
 | f+1,listed,a=>Region.ready md ops listed≠[]/\∀i∈Region.ready md ops listed,i<n/\qOp P ops C i (headQ P md ops C n L f (listed.setIfInBounds i true)) a
theorem Bh{n g:Nat}(b:∀listed a w,C w->L listed a->wpAny P md ops Q' g listed a w):
 ∀(f:Nat) (listed:Array Bool) (a:Act) (w:World),C w->headQ P md ops C n L f listed a->wpAny P md ops Q' (f+g) listed a w
 | 0,listed,a,w,hw,h=>by rw[BH];exact b _ _ _ hw h
 | f+1,listed,a,w,hw,h=>by
   rw[show f+1+g=(f+g)+1 by omega];exact⟨λj=>absurd j h.1,λi hi=>wpOp_of_qOp hw (λc w' k d=>Bh b f _ c w' k d) (h.2 i hi).2⟩
end
abbrev TokV(a:Int)(b:List Nat)(at_:Value):Value := .agg #[.int .i64 a,.string (str b),at_]
section
open Go.Maps (Keyed IsMap Tidy)
theorem keyInt:Keyed prog 3:=Maps.int_keyed underlying3
theorem zeroInt(w:World):(zeroValue 3).run prog w = .ok (.int .i64 0) w:=AB
theorem Tryz.laidOut:laidOutB prog=true:=AB
theorem Tryz.wideKT:(match prog.underlying 247 with | some (.array _ _) | some (.struct _)=>true | _=>false)=true:=AB
theorem Tryz.wideKF:(match prog.underlying 251 with | some (.array _ _) | some (.struct _)=>true | _=>false)=true:=AB
theorem Mb{x:Int}(h1:-1000<=x)(a:x<=1000):(Lit.int .i64 x).wf=true:=WalkArith.wf_i64 AA
theorem Tryz.wideKB:(match prog.underlying 223 with | some (.array _ _) | some (.struct _)=>true | _=>false)=true:=AB
def Vr(l:List Int):List Nat:=l.map λs=>(s+16).toNat
def kB(l:List Int)(n:Nat):Value := .agg #[.string (str (Vr l)),.int .i64 (n:Int)]
def Zwx(l:List Int):Prop:=∀s∈l,-16<=s/\s<40
theorem Dy{l:List Int}(h:Zwx l):∀c∈Vr l,c<56:=by
 intro c a;obtain⟨s,b,rfl⟩:=CV.1 a;have:=h s b;omega
theorem Zwi:∀{l m:List Int},Zwx l->Zwx m->Vr l=Vr m->l=m
 | [],[],_,_,_=>rfl
 | [],s::m,_,_,h=>by cases h
 | s::l,[],_,_,h=>by cases h
 | s::l,t::m,hl,hm,h=>by
   have h1:=hl s (AX ..);have b:=hm t (AX ..);unfold Vr at h;rw[CJ,CJ] at h;injection h with h3 h4;have e:s=t:=AA
   rw[e,Zwi (λq a=>hl q (BN _ a)) (λq a=>hm q (BN _ a)) h4]
def Ds:List Nat->Nat
 | []=>0
 | c::l=>(c+1)+64*Ds l
theorem Zsb:∀{l m:List Nat},(∀c∈l,c<60)->(∀c∈m,c<60)->Ds l=Ds m->l=m
 | [],[],_,_,_=>rfl
 | [],c::m,_,_,h=>by unfold Ds at h;omega
 | c::l,[],_,_,h=>by unfold Ds at h;omega
 | c::l,d::m,hl,hm,h=>by
   have h1:=hl c (AX ..);have g:=hm d (AX ..);unfold Ds at h;have b:c=d:=AA
   have f:Ds l=Ds m:=AA
   rw[b,Zsb (λq a=>hl q (BN _ a)) (λq a=>hm q (BN _ a)) f]
theorem encT_lt:∀{l:List Nat},(∀c∈l,c<60)->Ds l<64 ^ l.length
 | [],_=>by unfold Ds;simp
 | c::l,hl=>by
   have h1:=hl c (AX ..);have b:=encT_lt (l:=l) λq a=>hl q (BN _ a);unfold Ds;rw[AZ,Nat.pow_succ];omega
structure J1 (l:List Int) (n:Nat):Prop where
 sym:Zwx l
 len:l.length<=6
 n:n<=10
structure BkH where
 c:Nat
 t:Nat
abbrev BkH.map(k:BkH):Nat->Prop:=λb=>b=k.t
end
section
open Go.Maps (Keyed IsMap Tidy)
open Go.Maps (Keyed IsMap Tidy)
theorem Gq{l:List α}(f:α->Nat)(N:Nat)(c:l.Nodup)(hi:∀x∈l,∀y∈l,f x=f y->x=y)(a:∀x∈l,f x<N):l.length<=N:=by
 have h1:(l.map f).Nodup:=by
  unfold List.Nodup at c ⊢;rw[List.pairwise_map];have:l.Pairwise λx y=>x∈l/\y∈l/\x≠y:=List.Pairwise.imp_of_mem (λb a h=>⟨b,a,h⟩) c;exact this.imp λ⟨b,a,h⟩ e=>h (hi _ b _ a e)
 have d:=Zum (l:=l.map f) (m:=List.range N) h1 λx g=>by
  obtain⟨y,j,rfl⟩:=CV.1 g;exact BP.2 (a y j)
 simpa using d
end
section
variable {P:Program} {M:World->Prop} {R:World->World->Prop}
def Zwm(R:World->World->Prop):List (Value->World->Prop)->Prop
 | []=>True
 | d::ds=>(∀v X a,d v X->R X a->d v a)/\Zwm R ds
end
section
open Ieee
structure WSt where
 rest:List Int
 word:List Int
 posts:List Int
def Wt(f:WSt->Int->Option (WSt × Nat)):List Int->WSt->Nat->Option (WSt × Nat)
 | [],st,top=>some (st,top)
 | s::ss,st,top =>
   if 0<=s then Wt f ss { st with word:=st.word++[s] } top
   else match f st (-1-s) with
    | none=>none
    | some (st',n)=>Wt f ss st' (max top n)
structure Less (st st':WSt):Prop where
 rest:st'.rest.length<=st.rest.length
 word:st'.word.length+6*st'.rest.length<=st.word.length+6*st.rest.length
 posts:st'.posts.length+st'.rest.length<=st.posts.length+st.rest.length
end
section
open Go.Maps (Keyed IsMap Tidy)
open Go.Maps (Keyed IsMap Tidy)
variable {P:Program} {Γ:Type} {R:World->World->Prop}
def Mz(b:Nat->Bool)(i:Nat):Nat->Bool:=λj=>if j=i then true else b j
end
section
open Go.Maps (Keyed IsMap Tidy)
open Go.Maps (Keyed IsMap Tidy)
theorem Ys(h:j≠i):Mz b i j=b j:=if_neg h
theorem Ztw:Mz b i i=true:=if_pos rfl
end
theorem Ba:∀{a b:List Nat},a.map (λi:Nat=>(i:Int))=b.map (λi:Nat=>(i:Int))->a=b
 | [],[],_=>rfl
 | [],_::_,h=>by cases h
 | _::_,[],h=>by cases h
 | x::a,y::b,h=>by
   rw[CJ,CJ] at h;injection h with h1 h2;have c:x=y:=AA
   rw[c,Ba h2]
theorem zero_row(N m:Nat)(h:∀i,tab m i=0):List.replicate N 0=(List.range N).map (tab m):=by
 refine List.ext_getElem? λj=>?_;rw[List.getElem?_replicate,By];by_cases a:j<N
 ·rw[List.getElem?_range a,if_pos a,Ek,h]
 rw[BE (by simpa using a),if_neg a];rfl
theorem slices_noInt{b:List Nat}{N:Nat}:∀u∈b.map (λg=>Value.slice (some ⟨g,0,none⟩) N N),∀k x,u≠Value.int k x:=by
 intro u a k x c;rw[CV] at a;obtain⟨g,_,rfl⟩:=a;cases c
section
open Go.Shelf
def Tryz.lays108_ren:Go.Shelf.Ren:=⟨fun | 108=>71 | n=>n,fun | 28=>27 | 3=>3 | 0=>0 | 4=>4 | n=>n,fun | n=>n⟩
end
section
open Go.Shelf
open Go.ChangeShapes Go.WideShapes Go.ChangeAt Go.RowKit
open Go.ChangeShapes Go.WideShapes Go.ChangeAt Go.RowKit
open Go.ChangeShapes Go.WideShapes Go.ChangeAt Go.RowKit Go.Lib Go.Deep
variable {H:Type} {enc:TypeId × Value->H} {w:World} {base:Nat} {sp:Nat->Bool} {held:Bool}
theorem Bi(b a i:Nat):(⟨b,a,none⟩:Addr).add i=⟨b,a+i,none⟩:=by
 unfold Addr.add;split
 ·rename_i h;subst h;rfl
 rfl
end
