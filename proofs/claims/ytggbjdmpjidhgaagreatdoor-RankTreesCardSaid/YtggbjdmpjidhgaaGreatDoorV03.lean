/- Words for slices that read as lists: no program in sight. -/
import Derived.Test.YtggbjdmpjidhgaaGreatDoorV00
import Derived.Test.YtggbjdmpjidhgaaGreatDoorUQGrShelf
import Derived.SliceStrings
import Derived.Lib.SmallJoins
import Derived.Deep.Slices
set_option linter.all false
set_option maxHeartbeats 1500000
set_option maxRecDepth 100000
namespace Go.Proofs.YtggbjdmpjidhgaaGreatDoor
open Go.RowKit Go.Proofs.Tryz
variable{a b x d j i base base' e size:Nat}{l xs ys:List Nat}{α:Type}{N:List Bool}{ss:List Int}{v:Value}{L:Array Bool->Act->Prop}{Q':Exit->Act->World->Prop}{u:Nat->Value}{listed:Array Bool}
theorem Zux(a:Nat):((a:Int) != 0)=(a != 0):=by rw[BZ];simp[BN]
theorem Zz{w w1 a:World}(h:Below w w w1)(b:Below w1 w1 a):Below w w a:=h.trans (b.mono h.size)
def lenOf:Value->Nat
 | .slice _ n _=>n
 | _=>0
theorem Ct(c:a<4294967296)(d:b<4294967296):a ||| b<4294967296:=Nat.or_lt_two_pow (n:=32) c d
theorem sub_low(k m:Nat):(2 ^ k*(2*m+1)) &&& (2 ^ k*(2*m+1)-1)=2 ^ k*(2*m):=by
 apply Nat.eq_of_testBit_eq;intro i;have e:2 ^ k*(2*m+1)-1=2 ^ k*(2*m)+(2 ^ k-1):=by
  have:=Nat.two_pow_pos k;rw[Ee,Ep];omega
 rw[Nat.testBit_and,e,Nat.testBit_two_pow_mul,Nat.testBit_two_pow_mul,Nat.testBit_two_pow_mul_add _ (by have:=Nat.two_pow_pos k;omega)];by_cases h:i<k
 ·simp[h,Nat.not_le.2 h]
 have c:k<=i:=AA
 simp only[c,decide_true,Bool.true_and,h,if_false];obtain⟨j,rfl⟩:∃j,i=k+j:=⟨i-k,AA⟩;rw[Nat.add_sub_cancel_left];cases j with
 | zero=>simp[Nat.testBit_zero]
 | succ j =>
   rw[Nat.testBit_succ,Nat.testBit_succ];have a:(2*m+1) / 2=m:=AA
   have b:2*m / 2=m:=AA
   rw[a,b,Bool.and_self]
theorem filter_range_split(p:Nat->Bool)(k n:Nat)(f:k<n)(b:∀i,i<k->p i=false)(c:p k=true):
 (List.range n).filter p=k::((List.range n).filter (λi=>p i&&decide (i≠k))):=by
 obtain⟨d,rfl⟩:∃d,n=k+(d+1):=⟨n-k-1,AA⟩;have e:List.range (k+(d+1))=List.range k++k::(List.range d).map (λi=>k+1+i):=by
  rw[List.range_add,List.range_succ_eq_map];simp[Function.comp_def];intro a _;omega
 have a1:(List.range k).filter p=[]:=List.filter_eq_nil_iff.2 λi hi=>by simp[b i (BQ.1 hi)]
 have a2:(List.range k).filter (λi=>p i&&decide (i≠k))=[]:=List.filter_eq_nil_iff.2 λi hi=>by simp[b i (BQ.1 hi)]
 rw[e,List.filter_append,List.filter_append,a1,a2,List.filter_cons,List.filter_cons,if_pos c];simp only[DG,ne_eq,not_true_eq_false,decide_false,Bool.and_false];congr 1;apply List.filter_congr;intro i hi;obtain⟨j,_,rfl⟩:=CW.1 hi;have:k+1+j≠k:=AA
 simp[this]
theorem Zt1(s:Nat)(g:s≠0)(o:s<4294967296):
 Lib.ctz 32 s<32/\(∀i,i<Lib.ctz 32 s->s.testBit i=false)/\s.testBit (Lib.ctz 32 s)=true/\(∀i,(s &&& (s-1)).testBit i=(s.testBit i&&decide (i≠Lib.ctz 32 s)))/\s &&& (s-1)<s:=by
 obtain⟨m,a,l⟩:=Lib.ctzFrom_spec 32 s AA o;have e:Lib.ctz 32 s=Lib.ctzFrom 32 s:=by simp[Lib.ctz,g]
 rw[e];generalize Lib.ctzFrom 32 s=k at *;have b:=sub_low k m;rw[<-a] at b;have n:=Nat.two_pow_pos k;refine⟨l,λi hi=>?_,?_,λi=>?_,?_⟩
 ·rw[a,Nat.testBit_two_pow_mul];simp[Nat.not_le.2 hi]
 ·rw[a,Nat.testBit_two_pow_mul];simp[Nat.testBit_zero]
 ·rw[b,Nat.testBit_two_pow_mul,a,Nat.testBit_two_pow_mul];by_cases h:k<=i
  ·simp only[h,decide_true,Bool.true_and];obtain⟨j,rfl⟩:∃j,i=k+j:=⟨i-k,AA⟩;rw[Nat.add_sub_cancel_left];cases j with
   | zero=>simp[Nat.testBit_zero]
   | succ j =>
     rw[Nat.testBit_succ,Nat.testBit_succ];have c:(2*m+1) / 2=m:=AA
     have d:2*m / 2=m:=AA
     have f:k+(j+1)≠k:=AA
     simp[c,d,f]
  simp[h]
 rw[b];have:2 ^ k*(2*m)<2 ^ k*(2*m+1):=Nat.mul_lt_mul_of_pos_left AA n;omega
theorem or32(a b:Nat)(f:a<4294967296)(g:b<4294967296):bits .or .u32 (a:Int) (b:Int)=((a ||| b:Nat):Int):=by
 have h:a ||| b<2 ^ 32:=Nat.or_lt_two_pow AA AA
 have c:(BitVec.ofInt 32 (a:Int)).toNat=a:=by rw[BitVec.ofInt_natCast,Et];exact Ei AA
 have d:(BitVec.ofInt 32 (b:Int)).toNat=b:=by rw[BitVec.ofInt_natCast,Et];exact Ei AA
 show IntKind.u32.wrap ((BitVec.ofInt 32 (a:Int) ||| BitVec.ofInt 32 (b:Int)).toNat:Int)=_;rw[BitVec.toNat_or,c,d,IntKind.wrap_u32];omega
theorem and32(a b:Nat)(f:a<4294967296)(g:b<4294967296):bits .and .u32 (a:Int) (b:Int)=((a &&& b:Nat):Int):=by
 have h:a &&& b<2 ^ 32:=Nat.and_lt_two_pow _ AA;have c:(BitVec.ofInt 32 (a:Int)).toNat=a:=by rw[BitVec.ofInt_natCast,Et];exact Ei AA
 have d:(BitVec.ofInt 32 (b:Int)).toNat=b:=by rw[BitVec.ofInt_natCast,Et];exact Ei AA
 show IntKind.u32.wrap ((BitVec.ofInt 32 (a:Int) &&& BitVec.ofInt 32 (b:Int)).toNat:Int)=_;rw[BitVec.toNat_and,c,d,IntKind.wrap_u32];omega
theorem tz32_key(s a:Nat)(d:s<4294967296)(f:s≠0)(c:s &&& (4294967296-s)=a):
 bits BinOp.and IntKind.u32 (s:Int) (-(s:Int) % 4294967296)*125613361 % 4294967296 / 134217728=((a*125613361 % 4294967296 / 134217728:Nat):Int):=by
 have b:-(s:Int) % 4294967296=((4294967296-s:Nat):Int):=AA
 rw[b,and32 s _ d AA,c];omega
theorem bits_or(c:Nat):bits BinOp.or .u8 (c:Int) 32=((c ||| 32:Nat):Int)\/256<=c:=by
 rcases BD c 256 with h | h
 ·left;have:∀c:Nat,c<256->bits BinOp.or .u8 (c:Int) 32=((c ||| 32:Nat):Int):=by decide +kernel
  exact this c h
 exact .inr h
theorem Jf{a b:Bool}(h:a=b):Ending.returned (.bool a)=Ending.returned (.bool b):=by rw[h]
theorem Yn{k:Nat}(h:l[k]? = some x):l.getD k d=x:=by rw[AO,h];rfl
theorem lt256(h:∀x∈l,x<256)(j:Nat):l.getD j 0<256:=by
 rw[AO];rcases BD j l.length with a | a
 ·rw[AM a];exact h _ (List.getElem_mem a)
 rw[BE a];exact by decide
theorem all_get{p:α->Bool}{l:List α}(h:l.all p=true){y:α}(a:l[j]? = some y):p y=true:=(BG.1 h) y (AL a)
theorem Cv{p:α->Bool}{l:List α}(h:∀(j:Nat) y,l[j]? = some y->p y=true):l.all p=true:=by
 rw[BG];intro x b;obtain⟨j,a⟩:=BU b;exact h j x a
theorem Jy{p:α->Bool}{l:List α}{y:α}(b:l[j]? = some y)(h:p y=false):l.all p=false:=by
 cases a:l.all p
 ·rfl
 rw[all_get a b] at h;cases h
theorem countP_more(p:Nat->Bool)(m:Nat)(c:p m=false):∀N,(List.range N).countP (λ(n:Nat)=>p n || decide (n=m))=(List.range N).countP p+if m<N then 1 else 0:=by
 intro N
 induction N with
 | zero=>simp
 | succ N d =>
   rw[Ec,List.countP_append,List.countP_append,d];simp only[List.countP_singleton];by_cases h:N=m
   ·subst h;simp[c]
   have:decide (N=m)=false:=by simp[h]
   rw[this,Bool.or_false];by_cases b:m<N
   ·have a:m<N+1:=AA
    simp only[b,a,if_true];omega
   have a:¬m<N+1:=AA
   simp only[b,a,if_false];omega
theorem countP_full(q:Nat->Bool)(j:∀n,q n=true->1<=n):∀m,(List.range (m+1)).countP q<=m/\((List.range (m+1)).countP q=m↔∀n,1<=n->n<=m->q n=true):=by
 intro m
 induction m with
 | zero =>
   have:q 0=false:=by
    cases h:q 0
    ·rfl
    have:=j 0 h;omega
   simp[Ec,this];intro n a c;omega
 | succ m d =>
   rw[Ec,List.countP_append,List.countP_singleton];cases h:q (m+1)
   ·simp only[Bool.false_eq_true,if_false,DJ];refine⟨AA,?_,?_⟩
    ·intro g;omega
    intro b;have:=b (m+1) AA (AI _);rw[h] at this;cases this
   simp only[if_true];refine⟨AA,?_,?_⟩
   ·intro g n a c;rcases BD n (m+1) with f | f
    ·exact (d.2.1 AA) n a AA
    obtain rfl:n=m+1:=AA
    exact h
   intro b;have:=d.2.2 λn a c=>b n a AA;omega
theorem countP_cut(q:Nat->Bool)(T:Nat)(b:∀n,q n=true->n<=T):∀N,T<N->(List.range N).countP q=(List.range (T+1)).countP q:=by
 intro N d
 induction N with
 | zero=>omega
 | succ N c =>
   by_cases h:N=T
   ·subst h;rfl
   rw[Ec,List.countP_append,c AA,List.countP_singleton];have:q N=false:=by
    cases a:q N
    ·rfl
    have:=b N a;omega
   rw[this];simp
theorem Zvh{a b:List Bool}(j:a.length=b.length)(g:∀i:Nat,a[i]? = some true->b[i]? = some true)(h:∀i:Nat,b[i]? = some true->a[i]? = some true):a=b:=by
 refine List.ext_getElem? λi=>?_;cases c:a[i]? with
 | none =>
   rw[List.getElem?_eq_none_iff] at c;exact (BE AA).symm
 | some x =>
   have hi:=(AN.1 c).1;have d:b[i]? = some (b[i]' AA):=AM AA;cases x with
   | true=>exact (g i c).symm
   | false =>
     cases f:b[i]' AA with
     | false=>rw[d,f]
     | true =>
       rw[f] at d;have:=h i d;rw[c] at this;cases this
def We(F:List Nat):Prop:=∀x∈F,x<4294967296
theorem We.zero(n:Nat):We (List.replicate n 0):=λx a=>by rw[List.eq_of_mem_replicate a];decide
def Yb(n a b:Int):Bool:=decide (a<=n/\n<=b)
theorem Jx(n a b:Int)(w:World):
 Calls prog 99 #[.int .i64 n,.int .i64 a,.int .i64 b] w λe w'=>e = .returned (.bool (Yb n a b))/\w=w':=by
 have c:Yb n a b=(decide (a<=n)&&decide (n<=b)):=by unfold Yb;rw[Bool.decide_and]
 rw[c];clear c;by_cases h:a<=n;all_goals
  go_enter func99,ntmps99;go_wp2_with fail;go_ret;exact⟨by first | rfl | (simp[h];done) | (simp[h];omega),rfl⟩
theorem enters_rule1:∀args w,(callFunc 167 args).run prog w = .ok (.enter 167 args) w:=λargs w=>AB
theorem enters_right1:∀args w,(callFunc 102 args).run prog w = .ok (.enter 102 args) w:=λargs w=>AB
theorem enters_bare1:∀args w,(callFunc 198 args).run prog w = .ok (.enter 198 args) w:=λargs w=>AB
theorem enters_within1:∀args w,(callFunc 170 args).run prog w = .ok (.enter 170 args) w:=λargs w=>AB
theorem tr_bare1(s:Int)(w:World):Calls prog 198 #[.int .i64 s] w λe w'=>e = .returned (.bool (decide (0<=s)))/\w=w':=by
 go_enter func198,ntmps198;go_wp2_with fail;go_ret;exact⟨rfl,rfl⟩
def Apart(A:Option Addr)(g:Nat):Prop:=∀b a,A=some ⟨b,a,none⟩->b≠g
def L6(N a:List Bool):Bool:=!decide (a=N)
theorem Zwk(N:List Bool):L6 N N=false:=by simp[L6]
theorem enters_null1:∀args w,(callFunc 151 args).run prog w = .ok (.enter 151 args) w:=λargs w=>AB
theorem enters_prod1:∀args w,(callFunc 168 args).run prog w = .ok (.enter 168 args) w:=λargs w=>AB
def Uq(ss:List Int):List Int:=(ss.filter λs=>decide (s<0)).map λs=>-1-s
def Le'(N M:List Bool):Prop:=N.length=M.length/\∀i,N.getD i false=true->M.getD i false=true
theorem Zyd(h:∀t,a.testBit t=true->b.testBit t=true):a<=b:=by
 have:a &&& b=a:=by
  apply Nat.eq_of_testBit_eq;intro t;rw[Nat.testBit_and];cases c:a.testBit t
  ·rfl
  rw[h t c];rfl
 rw[<-this];exact Nat.and_le_right
theorem sets_ext{F a:List Nat}(d:F.length=a.length)(h:∀i,i<F.length->∀t,(F.getD i 0).testBit t=(a.getD i 0).testBit t):F=a:=by
 refine List.ext_getElem d λi b c=>?_;have:=Nat.eq_of_testBit_eq (h i b);rw[AO,AO,AM b,AM c] at this;exact this
def InS(S:List Nat):Prop:=∀i t,(S.getD i 0).testBit t=true->t<S.length
def Ck(a b:Nat):Nat:=a ^^^ (a &&& b)
theorem Nu(a b t:Nat):(Ck a b).testBit t=(a.testBit t&&!b.testBit t):=by
 unfold Ck;rw[Nat.testBit_xor,Nat.testBit_and];cases a.testBit t <;> cases b.testBit t <;> rfl
theorem andN_le(a b:Nat):Ck a b<=a:=Zyd λt h=>by
 rw[Nu,AR] at h;exact h.1
def U2(S:List Nat)(use a i:Nat):Bool:=use.testBit i&&!a.testBit i&&(Ck (S.getD i 0) a==0)
def Qx(f:Nat->Bool)(n:Nat):Option Nat:=(List.range n).find? f
theorem findB_some{f:Nat->Bool}{n:Nat}(hi:i<n)(h:f i=true)(a:∀j,j<i->f j=false):Qx f n=some i:=by
 unfold Qx;rw[List.find?_range_eq_some];exact⟨h,BQ.2 hi,λj b=>by rw[a j b];rfl⟩
theorem findB_none{f:Nat->Bool}{n:Nat}(h:∀j,j<n->f j=false):Qx f n=none:=by
 unfold Qx;rw[List.find?_eq_none];intro j a;rw[h j (BQ.1 a)];decide
theorem findB_none'{f:Nat->Bool}{n:Nat}(h:Qx f n=none):∀j,j<n->f j=false:=by
 unfold Qx at h;rw[List.find?_eq_none] at h;intro j a;have:=h j (BQ.2 a);simpa using this
theorem Cj{f:Nat->Bool}{n:Nat}(h:Qx f n=some i):i<n/\f i=true:=by
 unfold Qx at h;exact⟨BQ.1 (List.mem_of_find?_eq_some h),List.find?_some h⟩
theorem enters_reach1:∀args w,(callFunc 169 args).run prog w = .ok (.enter 169 args) w:=λargs w=>AB
theorem getD_lt(h:N.getD i false=true):i<N.length:=by
 rcases BD i N.length with a | a
 ·exact a
 rw[AO,BE a] at h;cases h
theorem Zve(n i:Nat):(List.replicate n false).getD i false=false:=by
 rw[AO,List.getElem?_replicate];split <;> rfl
theorem Zur{t:Int}:t∈Uq ss↔∃s∈ss,s<0/\-1-s=t:=by
 unfold Uq;simp only[CW,List.mem_filter,decide_eq_true_eq];constructor
 ·rintro⟨s,⟨h1,a⟩,b⟩;exact⟨s,h1,a,b⟩
 rintro⟨s,h1,a,b⟩;exact⟨s,⟨h1,a⟩,b⟩
theorem K3{M:List α->Prop}(h0:M [])(h1:∀l x,M l->M (l++[x]))(l:List α):M l:=by
 have key:∀q:List α,M q.reverse:=by
  intro q
  induction q with
  | nil=>exact h0
  | cons x q a=>rw[List.reverse_cons];exact h1 _ x a
 have:=key l.reverse;rwa [List.reverse_reverse] at this
theorem Br:∀(n:Nat) (l:List Nat),l.Nodup->(∀i∈l,i<n)->l.length<=n
 | 0,l,_,h=>by
   cases l with
   | nil=>simp
   | cons x l=>exact absurd (h x (AX ..)) AA
 | n+1,l,hn,h=>by
   by_cases a:n∈l
   ·have:=Br n (l.erase n) (hn.erase n) λi hi=>by
     rw[hn.mem_erase_iff] at hi;have:=h i hi.2;omega
    rw[List.length_erase_of_mem a] at this;omega
   have:=Br n l hn λi hi=>by
    have:=h i hi;have:i≠n:=λb=>a (b ▸ hi);omega
   omega
def N3(o:List Nat)(i:Nat):List Nat:=if i∈o then o else o++[i]
theorem putO_nodup{o:List Nat}(h:o.Nodup)(i:Nat):(N3 o i).Nodup:=by
 unfold N3;split
 ·exact h
 rename_i hi;rw[List.nodup_append];refine⟨h,AE,λa d b c=>?_⟩;rw[BV] at c;subst c;rintro rfl;exact hi d
def val:List Nat->Nat
 | []=>0
 | x::t=>x+4294967296*val t
def Lim(xs:List Nat):Prop:=∀x∈xs,x<4294967296
def Xx(xs:List Nat):List Nat:=(xs.reverse.dropWhile (·==0)).reverse
def Zm(xs:List Nat):Bool:=decide (xs.length<=32)&&(decide (xs.length=0) || xs.getD (xs.length-1) 0 != 0)
theorem Lim.cons{t:List Nat}(h:Lim (x::t)):x<4294967296/\Lim t :=
 ⟨h x AE,λy a=>h y (by simp[a])⟩
theorem Lim.mk{t:List Nat}(h:x<4294967296)(b:Lim t):Lim (x::t):=λy a=>by
 rcases BW.1 a with rfl | a
 ·exact h
 exact b y a
theorem Lim.append(h:Lim xs)(b:Lim ys):Lim (xs++ys):=λy a=>by
 rcases DH.1 a with a | a
 ·exact h y a
 exact b y a
theorem Lim.drop(h:Lim xs)(k:Nat):Lim (xs.drop k):=λy a=>h y (List.mem_of_mem_drop a)
theorem Lim.of_get(h:Lim xs)(a:xs[j]? = some x):x<4294967296:=h x (AL a)
theorem Lim.getD(h:Lim xs)(j:Nat):xs.getD j 0<4294967296:=by
 rw[AO];cases a:xs[j]? with
 | none=>simp
 | some x=>simpa using h.of_get a
theorem Ny(xs ys:List Nat):val (xs++ys)=val xs+4294967296 ^ xs.length*val ys:=by
 induction xs with
 | nil=>simp[val]
 | cons x t a =>
   simp only[DU,val,a,AW,Nat.pow_succ,Ee];rw[<-DV,Ej 4294967296 (4294967296 ^ t.length)];omega
theorem Wf(xs:List Nat)(x:Nat):val (xs++[x])=val xs+4294967296 ^ xs.length*x:=by
 rw[Ny];simp[val]
theorem Ui(xs:List Nat)(h:Lim xs):val xs<4294967296 ^ xs.length:=by
 induction xs with
 | nil=>simp[val]
 | cons x t a =>
   have:=a h.cons.2;have:=h.cons.1;simp only[val,AW,Nat.pow_succ];omega
theorem Zth(n:Nat):n<4294967296 ^ (n.log2+1):=by
 have h1:n<2 ^ (n.log2+1):=Nat.lt_log2_self;have a:(2:Nat) ^ (n.log2+1)<=4294967296 ^ (n.log2+1):=Nat.pow_le_pow_left AC _;omega
def Mo(xs:List Nat):Prop:=∀ys x,xs=ys++[x]->x≠0
theorem Fv(xs:List Nat)(b:Mo xs)(h:val xs=0):xs=[]:=by
 rcases List.eq_nil_or_concat xs with rfl | ⟨ys,x,rfl⟩
 ·rfl
 rw[List.concat_eq_append] at *;have:=b ys x rfl;rw[Wf] at h;have a:0<4294967296 ^ ys.length:=Nat.pow_pos AC;have:0<4294967296 ^ ys.length*x:=Nat.mul_pos a AA;omega
theorem L4(xs:List Nat):Xx (xs++[0])=Xx xs:=by simp[Xx]
theorem Zxh(xs:List Nat)(x:Nat)(h:x≠0):Xx (xs++[x])=xs++[x]:=by simp[Xx,h]
def V4(xs ys:List Nat):Nat->List Nat × Nat
 | 0=>([],0)
 | i+1 =>
   let p:=V4 xs ys i
   let s:=xs.getD i 0+ys.getD i 0+p.2
   (p.1++[s % 4294967296],s / 4294967296)
theorem Mq(xs ys:List Nat)(i:Nat):(V4 xs ys i).1.length=i:=by
 induction i with
 | zero=>rfl
 | succ i a=>simp[V4,a]
theorem Lg(xs ys:List Nat)(a:Lim xs)(b:Lim ys)(i:Nat):(V4 xs ys i).2<=1:=by
 induction i with
 | zero=>simp[V4]
 | succ i d =>
   have h1:=a.getD i;have c:=b.getD i;simp only[V4];omega
theorem Zum[BEq α][LawfulBEq α]:∀{l m:List α},l.Nodup->(∀x∈l,x∈m)->l.length<=m.length
 | [],_,_,_=>AU _
 | x::l,m,h,hs=>by
   rw[List.nodup_cons] at h;have a:x∈m:=hs x AE;have:=Zum (l:=l) (m:=m.erase x) h.2 λy b=>by
    have c:y≠x:=λe=>h.1 (e ▸ b);exact (List.mem_erase_of_ne c).2 (hs y (by simp[b]))
   rw[List.length_erase_of_mem a] at this;have:0<m.length:=List.length_pos_of_mem a;rw[AW];omega
theorem Cx{w:World}{n:Nat}{xs ys:List Value}(h:w.ownsRow base e size v n xs)(f:w.ownsRow base' j size v n ys):xs=ys:=by
 have b:=h.1;have c:=f.1;rcases h.2 with ⟨_,rfl⟩ | ⟨g,cap,q,o,_,k,_,_,_,l⟩
 ·simp at b c;rw[b,c]
 rcases f.2 with ⟨d,rfl⟩ | ⟨s,p,r,d,_,a,_,_,_,m⟩
 ·simp at b c;rw[b,c]
 rw[o] at d;injection d with h1 h2 h3;injection h1 with h1;injection h1 with h1;subst h1;rw[k] at a;injection a with a;injection a with hg1 hg2 hg3;rw[<-l,<-m,hg1]
abbrev Sb(n:Nat):Type:={s:Int // -(n:Int)<=s/\s<=1000}
instance (n:Nat):Inhabited (Sb n):=⟨⟨0,by omega,by omega⟩⟩
def encB(n:Nat):Sb n->Value:=λs => .int .i64 s.1
def Zwl(W:World)(a g n:Nat)(N:List Bool):Prop:=W.cell? ⟨a,0,none⟩=some (.slice (some ⟨g,0,none⟩) n n)/\∀i,i<n->W.cell? ⟨g,i,none⟩=some (.bool (N.getD i false))
theorem put_grown{n:Nat}(w:World)(q g b:Nat)(d:Array (Sb n)):w.grownBy (Sort.putRow (encB n) (Sort.ahead w q) g b d) (some g):=by
 refine⟨rfl,rfl,rfl,AE,λk c a=>?_⟩;have:g≠k:=λe=>a (by rw[e]);simp[Sort.putRow,Sort.mapBlock,Sort.ahead,Array.getElem?_modify,this]
theorem zeros_lim(n:Nat):Lim (List.replicate n 0):=λy a=>by
 have:=List.eq_of_mem_replicate a;omega
theorem zeros_val(n:Nat):val (List.replicate n 0)=0:=by
 induction n with
 | zero=>rfl
 | succ n a=>simp[List.replicate_succ,val,a]
theorem i64w{n:Int}(h0:0<=n)(h1:n<9223372036854775808):IntKind.i64.wrap n=n:=by rw[IntKind.wrap_i64];omega
theorem u64w{n:Int}(h0:0<=n)(h1:n<18446744073709551616):IntKind.u64.wrap n=n:=by rw[IntKind.wrap_u64];omega
theorem enters_crule1:∀args w,(callFunc 228 args).run prog w = .ok (.enter 228 args) w:=λargs w=>AB
theorem Zvk{l b:List Int}{s:Int}(h:l.drop d=s::b):l[d]? = some s/\b=l.drop (d+1)/\d<l.length:=by
 have a:d<l.length:=by
  rcases BD d l.length with h1 | h1
  ·exact h1
  rw[List.drop_eq_nil_of_le h1] at h;cases h
 rw[DW a] at h;injection h with h1 h2;exact⟨by rw[AM a,h1],h2.symm,a⟩
theorem Tryz.structTerm:prog.underlying 91=some (.struct (prog.fieldsOf 91)):=AB
theorem Tryz.heldTerm:prog.stoodInHeld 91=false:=AB
theorem enters_bare:∀args w,(callFunc 147 args).run prog w = .ok (.enter 147 args) w:=enters_of func147 AB rfl
theorem sb_list{n:Nat}:∀(ss:List Int),(∀s∈ss,-(n:Int)<=s/\s<=1000)->∃ds:List (Sb n),ds.map (λs=>s.1)=ss
 | [],_=>⟨[],rfl⟩
 | s::ss,h=>by
   obtain⟨ds,hd⟩:=sb_list ss λs a=>h s (BO _ a);exact⟨⟨s,h s (AX ..)⟩::ds,by rw[CU,hd]⟩
def tab22A(k i:Nat):Nat:=[0,1,1,2,5].getD k 0
theorem same_stepN(h:xs.length=ys.length)(hd:∀j,j<xs.length->xs.getD j 0=ys.getD j 0):xs=ys:=by
 apply List.ext_getElem h;intro j h1 a;have:=hd j h1;simpa [AM h1,AM a] using this
theorem X8(xs:List Nat)(h:Zm xs=true):Mo xs:=by
 intro b x a;subst a;simp[Zm] at h;exact h.2
def Xn(xs a:List Nat):Nat->List Nat × Nat
 | 0=>([],0)
 | i+1 =>
   let p:=Xn xs a i
   let s:=4294967296+xs.getD i 0-a.getD i 0-p.2
   (p.1++[s % 4294967296],1-s / 4294967296)
theorem Mj(xs b:List Nat)(i:Nat):(Xn xs b i).1.length=i:=by
 induction i with
 | zero=>rfl
 | succ i a=>simp[Xn,a]
theorem Qi(xs a:List Nat)(i:Nat):(Xn xs a i).2<=1:=by
 cases i with
 | zero=>simp[Xn]
 | succ i=>simp only[Xn];omega
theorem Qu(xs g:List Nat)(b:Lim xs)(f:Lim g)(ty:Mo g)(h:xs.length<g.length):val xs<val g:=by
 have h1:=Ui xs b;rcases List.eq_nil_or_concat g with rfl | ⟨a,z,rfl⟩
 ·simp at h
 rw[List.concat_eq_append] at *;have h0:=ty a z rfl;simp at h;have c:(4294967296:Nat) ^ xs.length<=4294967296 ^ a.length:=DD AC AA;have d:4294967296 ^ a.length*1<=4294967296 ^ a.length*z:=El _ AA;rw[Wf];omega
theorem Zsa(a xs:List Nat)(k x:Nat)(b:a.length=k)(c:xs[k]? = some x):(a++xs.drop k)[k]? = some x:=by
 subst b;rw[BX (AI _),Nat.sub_self,Ea,DJ,c]
def twP(xs:List Nat)(bit:Nat):Nat->List Nat × Nat
 | 0=>([],bit)
 | k+1 =>
   let p:=twP xs bit k
   let s:=2*xs.getD k 0+p.2
   (p.1++[s % 4294967296],s / 4294967296)
theorem Zye(xs:List Nat)(b k:Nat):(twP xs b k).1.length=k:=by
 induction k with
 | zero=>rfl
 | succ k a=>simp[twP,a]
theorem Ae(xs:List Nat)(b:Nat)(a:b<=1)(c:Lim xs)(k:Nat):(twP xs b k).2<=1:=by
 induction k with
 | zero=>simpa [twP] using a
 | succ k d =>
   have:=c.getD k;simp only[twP];omega
theorem zz_lim(n:Nat):Lim (List.replicate n 0):=λx a=>by
 have:=List.eq_of_mem_replicate a;omega
theorem zz_val(n:Nat):val (List.replicate n 0)=0:=by
 induction n with
 | zero=>rfl
 | succ n a=>simp[List.replicate_succ,val,a]
section
variable {P:Program} {w:World}
theorem Gz(base:Nat)(t ty e:TypeId)(i:TypeInfo)(b:P.underlying t=some (.slice e))(hi:P.info? e=some i)(A:Option Addr)(n c:Nat)(xs:List Value)(f:w.ownsRow base e 1 (.slice A n c) n xs)(c2:Nat):
 (Builtin.append_ #[t,t] ty #[.slice A n c,.slice none 0 c2]).run P w = .ok (.slice A n c) w:=by
 rcases f.2 with ⟨a,rfl⟩ | ⟨g,cap,h,a,_,_,d,_⟩
 ·rw[a];simp[Builtin.append_,run_underlying b,sizeOf,typeInfo,hi,Builtin.lenOf,Builtin.firstCells]
 rw[a];simp[Builtin.append_,run_underlying b,sizeOf,typeInfo,hi,Builtin.lenOf,Builtin.firstCells,d,storeCells]
theorem M3{n:Nat}{xs:List Value}(h:w.ownsRow base e 1 v n xs):∃A c,v = .slice A n c:=by
 rcases h.2 with ⟨rfl,rfl⟩ | ⟨g,cap,a,rfl,_⟩
 ·exact⟨_,_,rfl⟩
 exact⟨_,_,rfl⟩
theorem Lt{g n c:Nat}{xs:List Value}(h:w.ownsRow base e 1 (.slice (some ⟨g,0,none⟩) n c) n xs)(j:Nat)(u:Value):
 (w.setCell ⟨g,j,none⟩ u).ownsRow base e 1 (.slice (some ⟨g,0,none⟩) n c) n (xs.set j u):=(h.stored j u).1
theorem Bv{n:Nat}{xs:List Value}(h:w.ownsRow base e 1 v n xs)(d:base'<=base):w.ownsRow base' e 1 v n xs:=by
 refine⟨h.1,?_⟩;rcases h.2 with b | ⟨g,cap,a,c,f,rest⟩
 ·exact .inl b
 exact .inr ⟨g,cap,a,c,AA,rest⟩
theorem Zuk{n:Nat}{xs:List Value}(h:w.ownsRow base e size v n xs):∃A c,v = .slice A n c:=by
 rcases h.2 with ⟨rfl,rfl⟩ | ⟨g,cap,a,rfl,_⟩
 ·exact⟨_,_,rfl⟩
 exact⟨_,_,rfl⟩
theorem run_append_nilS(base size:Nat)(t ty e:TypeId)(i:TypeInfo)(b:P.underlying t=some (.slice e))(hi:P.info? e=some i)(A:Option Addr)(n c:Nat)(xs:List Value)(f:w.ownsRow base e size (.slice A n c) n xs)(c2:Nat):
 (Builtin.append_ #[t,t] ty #[.slice A n c,.slice none 0 c2]).run P w = .ok (.slice A n c) w:=by
 rcases f.2 with ⟨a,rfl⟩ | ⟨g,cap,h,a,_,_,d,_⟩
 ·rw[a];simp[Builtin.append_,run_underlying b,sizeOf,typeInfo,hi,Builtin.lenOf,Builtin.firstCells]
 rw[a];simp[Builtin.append_,run_underlying b,sizeOf,typeInfo,hi,Builtin.lenOf,Builtin.firstCells,d,storeCells]
end
section
open Go.RowKit Go.Shelf
attribute [local go_sem] Oper.semAt_some
theorem values1_none(n:Nat)(l a cap:Nat)(A:Option Addr)(J:List ByteArray->World->Prop)(W:World)(f:W.cell? ⟨a,0,none⟩=some (.slice A 0 cap))(c:J [] W):
 CallsIn Fence.wide n prog 206 #[.func (.yield l) #[] #[],.pointer (some ⟨a,0,none⟩)] W λe b=>(∃v,e = .returned v)/\J [] b:=by
 refine callsIn_of_wp func206 rfl trivial ?_ rfl;simp only[ntmps206,List.size_toArray,AW,DS,Nat.reduceAdd,Nat.reduceSub,Array.replicate_succ,Array.replicate_zero,List.push_toArray,List.append_toArray,DG,DU]
 gi_wp2
 gi_loopw [7] (λi wr=>i = .int .i64 0/\J [] wr) (λ_ _=>0)
 case atStart=>exact⟨rfl,c⟩
 obtain⟨rfl,d⟩:=hrel
 gi_wp2
 go_end0
 exact⟨⟨_,rfl⟩,d⟩
end
section
open Go.RowKit Go.Shelf
attribute [local go_sem] Oper.semAt_some
open Go.RowKit Go.Shelf Go.Sort
theorem compact_len(l:List (List UInt8))(v:l.Pairwise (λx y=>x<=y)):(Lib.compact l).length=l.length↔l.Nodup:=by
 unfold Lib.compact Lib.compactUpTo;rw[BF];have s:(List.filter (Lib.keeps l.toArray) (List.range l.length)).length=l.length↔∀j∈List.range l.length,Lib.keeps l.toArray j=true:=by
  have:=List.length_filter_eq_length_iff (p:=Lib.keeps l.toArray) (l:=List.range l.length);rwa [List.length_range] at this
 rw[s];have q:∀j,0<j->j<l.length->(Lib.keeps l.toArray j=true↔l[j]? ≠ l[j-1]?):=by
  intro j f c;have g:l.toArray[j]! = l[j]'c:=by simp[c]
  have k:l.toArray[j-1]! = l[j-1]' AA:=by simp[show j-1<l.length by omega]
  rw[AM c,AM (show j-1<l.length by omega)];constructor
  ·intro h d;injection d with d;rw[Lib.keeps_neg f (by rw[g,k];exact d)] at h;cases h
  intro h;exact Lib.keeps_pos (by rw[g,k];intro d;exact h (by rw[d]))
 constructor
 ·intro h;rw[List.nodup_iff_pairwise_ne,List.pairwise_iff_getElem];intro i j hi c A d;have r:∀a b (n:a<l.length) (o:b<l.length),a<=b->l[a]<=l[b]:=by
   intro a b n o z;rcases BD a b with h | h
   ·exact List.pairwise_iff_getElem.1 v a b n o h
   obtain rfl:a=b:=AA
   exact List.le_refl _
  have m:=r i (j-1) hi AA AA;have t:=r (j-1) j AA c AA;rw[d] at m;have:=List.le_antisymm t m;have u:=(q j AA c).1 (h j (by rw[BQ];exact c));apply u;rw[AM c,AM (show j-1<l.length by omega),this]
 intro h j c;rw[BQ] at c;rcases DM j with f | f
 ·subst f;simp[Lib.keeps]
 rw[q j f c,AM c,AM (show j-1<l.length by omega)];intro d;injection d with d;rw[List.nodup_iff_pairwise_ne,List.pairwise_iff_getElem] at h;exact h (j-1) j AA c AA d.symm
theorem sorted_len(ss:List (List UInt8)):(Lib.compact (ss.mergeSort λx y=>decide (x<=y))).length=ss.length↔ss.Nodup:=by
 have d:=List.mergeSort_perm ss (λx y=>decide (x<=y));have j:(ss.mergeSort λx y=>decide (x<=y)).Pairwise (λx y=>x<=y):=by
  have:=List.pairwise_mergeSort (le:=λx y:List UInt8=>decide (x<=y)) (λa b c f g=>by
   simp only[decide_eq_true_eq] at *;exact List.le_trans f g) (λa b=>by
   simp only[CJ,decide_eq_true_eq];exact List.le_total _ _) ss
  exact this.imp λh=>by simpa using h
 rw[<-d.nodup_iff,<-d.length_eq];exact compact_len _ j
def byL(a:List ByteArray):List (List UInt8):=a.map λz=>z.data.toList
theorem byL_nodup(f:List ByteArray):(byL f).Nodup↔f.Nodup:=by
 unfold byL;rw[List.nodup_iff_pairwise_ne,List.nodup_iff_pairwise_ne,List.pairwise_map];constructor
 ·intro h;exact h.imp λd c=>d (by rw[c])
 intro h;refine h.imp λ{a b} d c=>d ?_;cases a;cases b;simp only[ByteArray.mk.injEq];exact Array.toList_inj.1 c
theorem encStr_byL(a:List ByteArray):(byL a).map encStr=a.map Value.string:=by
 unfold byL;rw[List.map_map];refine List.map_congr_left λz _=>?_;cases z;simp[encStr]
theorem Ql(a b:ByteArray):(a.toList==b.toList)=decide (a=b):=by
 rw[BZ,BP,BB];constructor
 ·intro h;rw[ByteArray.toList_eq,ByteArray.toList_eq] at h;cases a;cases b;simp only[ByteArray.mk.injEq];exact Array.toList_inj.1 h
 intro h;rw[h]
theorem Vz{p:α->Bool}{l:List α}{k:Nat}{x:α}(h:∀j,j<k->∀y,l[j]? = some y->p y=false)(d:l[k]? = some x)(c:p x=false):∀j,j<k+1->∀y,l[j]? = some y->p y=false:=by
 intro j g y a;rcases BD j k with b | f
 ·exact h j b y a
 obtain rfl:j=k:=AA
 rw[d] at a;injection a with a;rw[<-a];exact c
theorem Q8{l:List α}{k:Nat}{x:α}(h:l[k]? = some x):l.drop k=x::l.drop (k+1):=by
 obtain⟨a,rfl⟩:=AN.1 h;exact DW a
theorem Lr{p:Nat->α->Bool}{l:List α}{k:Nat}{x:α}(h:∀j,j<k->∀y,l[j]? = some y->(!p j y)=false)(d:l[k]? = some x)(c:(!p k x)=false):∀j,j<k+1->∀y,l[j]? = some y->(!p j y)=false:=by
 intro j g y a;rcases BD j k with b | f
 ·exact h j b y a
 obtain rfl:j=k:=AA
 rw[d] at a;injection a with a;rw[<-a];exact c
end
section
open Go.RowKit Go.Shelf Go.Sort
theorem grow_none(w:World):grow w #[]=w:=by unfold grow;simp
end
section
open Go.RowKit Go.Maps
theorem law3:Keyed prog 3:=int_keyed underlying3
theorem zero3(w:World):(zeroValue 3).run prog w = .ok (.int .i64 0) w:=AB
theorem Zud(L:Int):WideAt.IsKeyLit (.int .i64 L):=trivial
theorem Ud{n a b:Int}(h:Yb n a b=true):a<=n/\n<=b:=by unfold Yb at h;simpa using h
theorem Jl(w:World)(r:Option Nat):w.grownBy w r:=⟨rfl,rfl,rfl,AI _,λ_ _ _=>rfl⟩
end
section
variable {P:Program} {ops:Array Oper} {md:Region.Mode} {C:World->Prop}
def headQ(P:Program)(md:Region.Mode)(ops:Array Oper)(C:World->Prop)(n:Nat)(L:Array Bool->Act->Prop):Nat->Array Bool->Act->Prop
 | 0,listed,a=>L listed a
 | f+1,listed,a=>Region.ready md ops listed≠[]/\∀i∈Region.ready md ops listed,i<n/\qOp P ops C i (headQ P md ops C n L f (listed.setIfInBounds i true)) a
theorem Bh{n g:Nat}(b:∀listed a w,C w->L listed a->wpAny P md ops Q' g listed a w):
 ∀(f:Nat) (listed:Array Bool) (a:Act) (w:World),C w->headQ P md ops C n L f listed a->wpAny P md ops Q' (f+g) listed a w
 | 0,listed,a,w,hw,h=>by rw[BH];exact b _ _ _ hw h
 | f+1,listed,a,w,hw,h=>by
   rw[show f+1+g=(f+g)+1 by omega];exact⟨λj=>absurd j h.1,λi hi=>wpOp_of_qOp hw (λc w' k d=>Bh b f _ c w' k d) (h.2 i hi).2⟩
end
section
variable {P:Program}
def leftN(n:Nat)(listed:Array Bool):Nat:=((List.range n).filter λi=>!listed.getD i true).length
def Xc(P:Program)(J:Array Bool->Act->World->Prop):Nat->List Oper->Prop
 | _,[]=>True
 | i,o::rest=>(o.guard=none/\∀(Q:Exit->Act->World->Prop) (listed:Array Bool) (a:Act) (w:World),J listed a w->listed.getD i true=false->(∀e∈o.after,Region.binds .any e=true->listed.getD e.on false=true)->
    ∀K:Act->World->Prop,(∀b w',J (listed.setIfInBounds i true) b w'->K b w')->o.wp P a w K Q)/\Xc P J (i+1) rest
end
section
open Go.Maps (Keyed IsMap Tidy)
theorem keyInt:Keyed prog 3:=Maps.int_keyed underlying3
theorem zeroInt(w:World):(zeroValue 3).run prog w = .ok (.int .i64 0) w:=AB
def zeroCells(n:Nat):Array Value:=((List.range n).flatMap λ_=>[Value.slice none 0 0,Value.bool false]).toArray
theorem Cl:∀(n j:Nat),j<n->(zeroCells n)[j*2]? = some (.slice none 0 0)/\(zeroCells n)[j*2+1]? = some (.bool false):=by
 intro n;have a:∀m,((List.range m).flatMap λ_=>[Value.slice none 0 0,Value.bool false]).length=m*2:=by
  intro m
  induction m with
  | zero=>rfl
  | succ m b=>rw[Ec,List.flatMap_append,AS,b];simp;omega
 induction n with
 | zero=>intro j c;omega
 | succ n b =>
   intro j c;unfold zeroCells at b ⊢;simp only[DT] at b ⊢;rw[Ec,List.flatMap_append];rcases (AA:j<n\/j=n) with h | rfl
   ·rw[DL (by rw[a];omega),DL (by rw[a];omega)];exact b j h
   rw[BX (by rw[a];omega),BX (by rw[a];omega),a];simp[Nat.add_sub_cancel_left]
theorem Zst{k l:IntKind}{a b c d:Int}(h:a=b)(f:c=d):Ending.returned (.tuple #[.int k a,.int l c]) = .returned (.tuple #[.int k b,.int l d]):=by rw[h,f]
theorem Dg(x y c:Nat)(w:World)(b:x<4294967296)(d:y<4294967296)(a:c<=1):
 Calls prog 208 #[.int .u32 (x:Int),.int .u32 (y:Int),.int .u32 (c:Int)] w λe w' =>
  e = .returned (.tuple #[.int .u32 (((x+y+c) % 4294967296:Nat):Int),.int .u32 (((x+y+c) / 4294967296:Nat):Int)])/\w=w':=by
 go_enter func208,ntmps208;go_wp2;go_ret2;exact⟨Zst AA AA,rfl⟩
theorem Yg(h:xs[j]? = some x):xs.getD j 0=x:=by simp[h]
theorem K8(h:xs.length<=j):xs.getD j 0=0:=by simp[BE h]
theorem L5(x c:Nat)(w:World)(b:x<4294967296)(a:c<=1):
 Calls prog 208 #[.int .u32 (x:Int),.int .u32 0,.int .u32 (c:Int)] w λe w' =>
  e = .returned (.tuple #[.int .u32 (((x+0+c) % 4294967296:Nat):Int),.int .u32 (((x+0+c) / 4294967296:Nat):Int)])/\w=w' :=
 Dg x 0 c w b AA a
theorem Ut(xs:List Nat)(h:Zm xs=true):xs.length<=32:=by simp[Zm] at h;omega
def Vn(x:Nat)(ys a:List Nat):Nat->List Nat × Nat
 | 0=>([],0)
 | k+1 =>
   let p:=Vn x ys a k
   let s:=x*ys.getD k 0+a.getD k 0+p.2
   (p.1++[s % 4294967296],s / 4294967296)
theorem M1(x:Nat)(ys b:List Nat)(k:Nat):(Vn x ys b k).1.length=k:=by
 induction k with
 | zero=>rfl
 | succ k a=>simp[Vn,a]
theorem Ag{y z c:Nat}(b:x<4294967296)(d:y<4294967296)(f:z<4294967296)(a:c<4294967296):x*y+z+c<18446744073709551616:=by
 have h1:x*y<=4294967295*4294967295:=Nat.mul_le_mul AA AA;omega
theorem Zy8(x:Nat)(ys a:List Nat)(b:x<4294967296)(c:Lim ys)(d:Lim a)(k:Nat):(Vn x ys a k).2<4294967296:=by
 induction k with
 | zero=>simp[Vn]
 | succ k f =>
   have:=Ag b (c.getD k) (d.getD k) f;simp only[Vn];omega
theorem Ns(a:List Nat)(j:Nat)(h:∀i,j<=i->a.getD i 0=0):val (a.drop j)=0:=by
 induction a generalizing j with
 | nil=>simp[val]
 | cons b t c =>
   cases j with
   | zero =>
     have h0:=h 0 (AI _);simp at h0;have:=c 0 (λi _=>by have:=h (i+1) AA;simpa using this);simp[val,h0] at this ⊢;omega
   | succ j =>
     simpa using c j (λi hi=>by have:=h (i+1) AA;simpa using this)
theorem Tryz.laidOut:laidOutB prog=true:=AB
theorem Tryz.wideKT:(match prog.underlying 247 with | some (.array _ _) | some (.struct _)=>true | _=>false)=true:=AB
theorem Tryz.wideKF:(match prog.underlying 251 with | some (.array _ _) | some (.struct _)=>true | _=>false)=true:=AB
def kT(s:Int)(n:Nat):Value := .agg #[.int .i64 s,.int .i64 (n:Int)]
def kF(i d n:Nat):Value := .agg #[.int .i64 (i:Int),.int .i64 (d:Int),.int .i64 (n:Int)]
theorem kT_inj{s b:Int}{n:Nat}(h:kT s n=kT b a):s=b/\n=a:=by
 unfold kT at h;simp at h;exact⟨h.1,AA⟩
theorem kF_inj{n c:Nat}(h:kF i d n=kF b a c):i=b/\d=a/\n=c:=by
 unfold kF at h;simp at h;omega
theorem Mb{x:Int}(h1:-1000<=x)(a:x<=1000):(Lit.int .i64 x).wf=true:=WalkArith.wf_i64 AA
end
section
open Go.Maps (Keyed IsMap Tidy)
variable {P:Program} {k:TypeId}
def litK(P:Program)(k:TypeId)(v:Value):Lit:=(keyOf P k v).getD (.bool false)
def U4(P:Program)(k:TypeId)(v:Value):Prop:=∃l,keyOf P k v=some l
theorem U4.lit(h:U4 P k v):keyOf P k v=some (litK P k v):=by
 obtain⟨l,h⟩:=h;unfold litK;rw[h];rfl
theorem Ztc(K:Keyed P k){u:Value}(a:U4 P k u)(b:U4 P k v)(h:u≠v):litK P k u≠litK P k v:=λe=>h (K.inj a.lit (by rw[e];exact b.lit))
end
section
open Go.Maps (Keyed IsMap Tidy)
open Go.Maps (Keyed IsMap Tidy)
theorem Gq{l:List α}(f:α->Nat)(N:Nat)(c:l.Nodup)(hi:∀x∈l,∀y∈l,f x=f y->x=y)(a:∀x∈l,f x<N):l.length<=N:=by
 have h1:(l.map f).Nodup:=by
  unfold List.Nodup at c ⊢;rw[List.pairwise_map];have:l.Pairwise λx y=>x∈l/\y∈l/\x≠y:=List.Pairwise.imp_of_mem (λb a h=>⟨b,a,h⟩) c;exact this.imp λ⟨b,a,h⟩ e=>h (hi _ b _ a e)
 have d:=Zum (l:=l.map f) (m:=List.range N) h1 λx g=>by
  obtain⟨y,j,rfl⟩:=CW.1 g;exact BQ.2 (a y j)
 simpa using d
def codeF:Value->Nat
 | .agg cs=>(intOf (cs.getD 0 undef)).toNat*1000000+(intOf (cs.getD 1 undef)).toNat*1000+(intOf (cs.getD 2 undef)).toNat
 | _=>0
theorem Zy2(i d n:Nat):codeF (kF i d n)=i*1000000+d*1000+n:=rfl
structure CH where
 c:Nat
 n:Nat
 t:Nat
 f:Nat
def CH.maps(k:CH):Nat->Prop:=λb=>b=k.t\/b=k.f
end
section
variable {P:Program} {M:World->Prop} {R:World->World->Prop}
def upd(u:Nat->Value)(i:Nat)(v:Value):Nat->Value:=λj=>if j=i then v else u j
def onB(o:Oper)(p:Nat):Bool:=o.after.toList.any λe=>Region.binds .any e&&decide (e.on=p)
def ancF(l:List Oper):Nat->Nat->Nat->Bool
 | 0,_,_=>false
 | f+1,j,i=>match l[j]? with
   | none=>false
   | some o=>o.after.any λe=>Region.binds .any e&&(decide (e.on=i) || ancF l f e.on i)
def Zti(l:List Oper)(n:Nat):Bool:=decide (n=l.length) || (List.range n).all λi=>ancF l l.length n i
theorem Zyf{o:Oper}{p:Nat}:onB o p=true↔∃e∈o.after,Region.binds .any e=true/\e.on=p:=by
 unfold onB;rw[Er];constructor
 ·rintro⟨e,a,h⟩;rw[AR,BB] at h;exact⟨e,Array.mem_def.2 a,h⟩
 rintro⟨e,a,h⟩;exact⟨e,Array.mem_def.1 a,by rw[AR,BB];exact h⟩
theorem D9{l:List Oper}(c:∀i o,l[i]? = some o->listed.getD i false=true->∀p,onB o p=true->listed.getD p false=true):
 ∀(f j i:Nat),ancF l f j i=true->listed.getD j false=true->listed.getD i false=true
 | 0,_,_,h,_=>by cases h
 | f+1,j,i,h,hj=>by
   unfold ancF at h;cases b:l[j]? with
   | none=>rw[b] at h;cases h
   | some o =>
     rw[b] at h;simp only[Array.any_eq_true] at h;obtain⟨k,g,h⟩:=h;rw[AR,CJ,BB] at h;have d:=c j o b hj _ (Zyf.2 ⟨_,Array.getElem_mem g,h.1,rfl⟩);rcases h.2 with a | a
     ·rw[<-a];exact d
     exact D9 c f _ i a d
def Zwm(R:World->World->Prop):List (Value->World->Prop)->Prop
 | []=>True
 | d::ds=>(∀v X a,d v X->R X a->d v a)/\Zwm R ds
def atL(ds:List (Value->World->Prop))(i:Nat)(v:Value)(X:World):Prop:=(ds.getD i λ_ _=>True) v X
end
section
open Go.Maps (Keyed IsMap Tidy)
open Go.Maps (Keyed IsMap Tidy)
variable {P:Program} {Γ:Type} {R:World->World->Prop}
def ClosB(l:List Oper)(b:Nat->Bool):Prop:=∀i o,l[i]? = some o->b i=true->∀p,onB o p=true->b p=true
end
section
open Go.Maps (Keyed IsMap Tidy)
open Go.Maps (Keyed IsMap Tidy)
theorem Yj(h:j≠i):upd u i v j=u j:=if_neg h
theorem D1:upd u i v i=v:=if_pos rfl
end
section
open Go.Shelf
open Go.ChangeShapes Go.WideShapes Go.ChangeAt Go.RowKit
def Nj(k:IntKind)(w:World)(a:Option Addr)(len cap:Nat)(b:List Int):Prop :=
 (a=none/\len=0/\cap=0/\b=[]) \/
 ∃x,a=some x/\len<=cap/\cap<=maxLen/\b.length=cap/\(∀i,i<b.length->w.cell? (x.add i)=some (.int k (b.getD i 0)))/\∀n∈b,(Lit.int k n).wf=true
end
end Go.Proofs.YtggbjdmpjidhgaaGreatDoor
