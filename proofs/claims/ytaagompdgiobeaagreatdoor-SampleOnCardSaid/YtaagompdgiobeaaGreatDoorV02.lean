/- Words for slices that read as lists: no program in sight. -/
import Derived.Test.YtaagompdgiobeaaGreatDoorV00
import Derived.Test.YtaagompdgiobeaaGreatDoorUQGrShelf
import Derived.SliceStrings
import Derived.Lib.SmallJoins
import Derived.Deep.Slices
set_option linter.all false
set_option maxHeartbeats 1500000
set_option maxRecDepth 100000
namespace Go.Proofs.YtaagompdgiobeaaGreatDoor
open Go.RowKit Go.Proofs.Tryz
variable{w:World}{a:List Nat × Nat}{b i j use m x K base size d g:Nat}{l ss:List Int}{α:Type}{F S xs:List Nat}{N:List Bool}{cs:Array Value}{T:Int->Nat->Nat}{s:Int}{A:Option Addr}{v:Value}{tab:Nat->Nat->Nat}
theorem Zux(a:Nat):((a:Int) != 0)=(a != 0):=by rw[Cs];simp[BK]
theorem Zz{w1 a:World}(h:Below w w w1)(b:Below w1 w1 a):Below w w a:=h.trans (b.mono h.size)
def Y6(n:Int):Nat:=if 0<=n/\n<32 then 2 ^ n.toNat else 0
def ofN(l:List Int):Nat:=l.foldl (λs n=>s ||| Y6 n) 0
theorem Ua(n:Int):Y6 n<4294967296:=by
 unfold Y6;split
 ·rename_i h;have:=Nat.pow_lt_pow_right (a:=2) AC (show n.toNat<32 by omega);simpa using this
 omega
theorem ofN_snoc(l:List Int)(n:Int):ofN (l++[n])=ofN l ||| Y6 n:=by simp[ofN]
theorem set_bit1(n:Int)(w:World):Calls prog 219 #[.int .i64 n] w λe w'=>e = .returned (.int .u32 ((Y6 n:Nat):Int))/\w=w':=by
 by_cases c:n<0
 ·have b:Y6 n=0:=by simp[Y6];omega
  rw[b];clear b;go_enter func219,ntmps219;go_wp2;go_ret;exact⟨rfl,rfl⟩
 by_cases d:32<=n
 ·have b:Y6 n=0:=by simp[Y6];omega
  rw[b];clear b;go_enter func219,ntmps219;go_wp2;go_ret;exact⟨rfl,rfl⟩
 obtain⟨r,rfl⟩:∃r:Nat,n=(r:Int):=⟨n.toNat,AA⟩;have b:Y6 (r:Int)=2 ^ r:=by simp[Y6];omega
 have f:(2:Int) ^ r % 4294967296=((2 ^ r:Nat):Int):=by
  have h:(2:Nat) ^ r<4294967296:=by
   have:=Nat.pow_lt_pow_right (a:=2) AC (show r<32 by omega);simpa using this
  have e:(2:Int) ^ r=((2 ^ r:Nat):Int):=AE
  rw[e];omega
 rw[b];have g:(r:Int)<32:=AA
 generalize (2:Nat) ^ r=p at *;clear b c d;go_enter func219,ntmps219;go_wp2;go_ret;exact⟨congrArg Ending.returned (congrArg (Value.int .u32) f),rfl⟩
theorem Ch(n:Int)(w:World):Calls prog 121 #[.int .i64 n] w λe w'=>e = .returned (.int .u32 ((Y6 n:Nat):Int))/\w=w':=by
 by_cases c:n<0
 ·have a:Y6 n=0:=by simp[Y6];omega
  rw[a];go_enter func121,ntmps121;go_wp2;go_ret;exact⟨rfl,rfl⟩
 by_cases d:31<n
 ·have a:Y6 n=0:=by simp[Y6];omega
  rw[a];go_enter func121,ntmps121;go_wp2;go_ret;exact⟨rfl,rfl⟩
 obtain⟨r,rfl⟩:∃r:Nat,n=(r:Int):=⟨n.toNat,AA⟩;have a:Y6 (r:Int)=2 ^ r:=by simp[Y6];omega
 rw[a];have k:(r:Int)<=31:=AA
 go_enter func121,ntmps121;go_wp2;go_loop [3,4] (λo t=>∃q p:Nat,q<=r/\t = .int .i64 (q:Int)/\o = .int .u32 (p:Int)/\Hid (2 ^ q=p)/\p<=2147483648) (λ_ t=>r-(intOf t).toNat)
 case atStart=>exact⟨0,1,AS _,rfl,rfl,LH rfl,AC⟩
 obtain⟨q,p,j,rfl,rfl,b,h⟩:=hrel;by_cases g:q<r
 ·have f:2*p<=2147483648:=by
   have:=CV (n:=2) AC (show q+1<=31 by omega);rw[Nat.pow_succ,b] at this;omega
  go_wp2;go_round
  case rel=>exact⟨q+1,2*p,AA,AF,AF,LH (by rw[Nat.pow_succ,b,Ef]),f⟩
  simp[intOf];omega
 obtain rfl:q=r:=AA
 go_wp2;go_ret;exact⟨by show Ending.returned (.int .u32 (p:Int))=_;rw[<-b];simp,rfl⟩
def Q2(w:World):Prop:=∀j,j<32->w.cell? ⟨0,j,none⟩=some (.int .u8 ((Lib.deBruijn32tab.getD j 0:Nat):Int))
def Z6(l:List Nat):List Int:=l.map λ(n:Nat)=>(n:Int)
theorem Mv(l:List Nat):(Z6 l).length=l.length:=by simp[Z6]
def U3(x:Int):Prop:=-9223372036854775808<=x/\x<=9223372036854775807
structure GH where
 a1:Option Addr
 n1:Nat
 c1:Nat
 a2:Option Addr
 n2:Nat
 c2:Nat
 a3:Option Addr
 n3:Nat
 c3:Nat
abbrev GV(h:GH)(a:Int):Value := .agg #[.slice h.a1 h.n1 h.c1,.slice h.a2 h.n2 h.c2,.slice h.a3 h.n3 h.c3,.int .i64 a]
theorem bits_or(c:Nat):bits BinOp.or .u8 (c:Int) 32=((c ||| 32:Nat):Int)\/256<=c:=by
 rcases BD c 256 with h | h
 ·left;have:∀c:Nat,c<256->bits BinOp.or .u8 (c:Int) 32=((c ||| 32:Nat):Int):=by decide +kernel
  exact this c h
 exact .inr h
theorem Jf{a b:Bool}(h:a=b):Ending.returned (.bool a)=Ending.returned (.bool b):=by rw[h]
theorem lt256{l:List Nat}(h:∀x∈l,x<256)(j:Nat):l.getD j 0<256:=by
 rw[AP];rcases BD j l.length with a | a
 ·rw[AM a];exact h _ (List.getElem_mem a)
 rw[BE a];exact by decide
theorem countP_more(p:Nat->Bool)(m:Nat)(c:p m=false):∀N,(List.range N).countP (λ(n:Nat)=>p n || decide (n=m))=(List.range N).countP p+if m<N then 1 else 0:=by
 intro N
 induction N with
 | zero=>simp
 | succ N d =>
   rw[DQ,List.countP_append,List.countP_append,d];simp only[List.countP_singleton];by_cases h:N=m
   ·subst h;simp[c]
   have:decide (N=m)=false:=by simp[h]
   rw[this,Bool.or_false];by_cases b:m<N
   ·have a:m<N+1:=AA
    simp only[b,a,if_true];omega
   have a:¬m<N+1:=AA
   simp only[b,a,if_false];omega
def Z3{α:Type}(f:α->α):Nat->α->α
 | 0,x=>x
 | n+1,x=>f (Z3 f n x)
theorem M7{f:α->α}{x:α}{n:Nat}(h:f (Z3 f n x)=Z3 f n x):∀m,n<=m->Z3 f m x=Z3 f n x
 | 0,hm=>by obtain rfl:n=0:=AA
            rfl
 | m+1,hm=>by
   rcases BD m n with b | a
   ·obtain rfl:n=m+1:=AA
    rfl
   show f (Z3 f m x)=_;rw[M7 h m a,h]
structure Qv (f:List Bool->List Bool):Prop where
 len:∀b,(f b).length=b.length
 up:∀b (i:Nat),b[i]? = some true->(f b)[i]? = some true
theorem Qv.id:Qv λb=>b:=⟨λ_=>rfl,λ_ _ h=>h⟩
theorem Zsi:∀(a b:List Bool),a.length=b.length->(∀i:Nat,a[i]? = some true->b[i]? = some true)->a.countP (·)<=b.countP (·)/\(a.countP (·)=b.countP (·)->a=b)
 | [],[],_,_=>AE
 | [],_::_,h,_=>by simp at h
 | _::_,[],h,_=>by simp at h
 | x::a,y::b,hl,h=>by
   have d:=Zsi a b (by simpa using hl) λi hi=>by simpa using h (i+1) (by simpa using hi)
   have c:=h 0;simp only[List.getElem?_cons_zero,BX] at c;cases x <;> cases y
   ·simp;exact d
   ·simp;omega
   ·simp at c
   simp;exact d
def Je(t:Nat)(F:List Nat):List Bool:=F.map λx=>x.testBit t
theorem view_ext{a:List Nat}(h:∀t,Je t F=Je t a):F=a:=by
 have d:F.length=a.length:=by have:=congrArg List.length (h 0);simpa [Je] using this
 refine List.ext_getElem? λi=>?_;cases b:F[i]? with
 | none =>
   rw[List.getElem?_eq_none_iff] at b;exact (BE AA).symm
 | some x =>
   have hi:=(AO.1 b).1;have c:a[i]? = some (a[i]' AA):=AM AA;rw[c];congr 1;apply Nat.eq_of_testBit_eq;intro t;have:=congrArg (λl=>l[i]?) (h t);simp only[Je,BB,b,c,Ek,BX] at this;exact this
def GrowsS(f:List Nat->List Nat):Prop:=∃p:Nat->List Bool->List Bool,(∀t,Qv (p t))/\∀t F,Je t (f F)=p t (Je t F)
def addAt(i:Nat)(x:Nat)(F:List Nat):List Nat:=F.set i (F.getD i 0 ||| x)
theorem Zuj(t:Nat)(F:List Nat)(i:Nat):(F.getD i 0).testBit t=(Je t F).getD i false:=by
 rw[AP,AP,Je,BB];cases F[i]? <;> simp
def Zp(s:Int):Nat:=(-1-s).toNat
def Xj(b:Bool)(N:List Bool)(ss:List Int):Bool:=ss.all λs=>if 0<=s then b else N.getD (Zp s) false
def We(F:List Nat):Prop:=∀x∈F,x<4294967296
theorem We.zero(n:Nat):We (List.replicate n 0):=λx a=>by rw[List.eq_of_mem_replicate a];decide
theorem iter_done{f:α->α}{x:α}{n k:Nat}(b:f (Z3 f n x)=Z3 f n x)(a:f (Z3 f k x)=Z3 f k x):Z3 f k x=Z3 f n x:=by
 rcases Nat.le_total k n with h | h
 ·exact (M7 a n h).symm
 exact M7 b k h
theorem iter_more{f:α->α}{x:α}{n k:Nat}(b:f (Z3 f n x)=Z3 f n x)(a:f (Z3 f k x)≠Z3 f k x):k<n:=by
 rcases BD k n with h | h
 ·exact h
 rw[M7 b k h] at a;exact absurd b a
def joinS(S:Nat)(F:List Nat):Nat:=(List.range F.length).foldl (λa k=>if S.testBit k then a ||| F.getD k 0 else a) 0
theorem C7(S:Nat)(F:List Nat)(t:Nat):∀(l:List Nat) (a:Nat),(l.foldl (λa k=>if S.testBit k then a ||| F.getD k 0 else a) a).testBit t=(a.testBit t || l.any λk=>S.testBit k&&(F.getD k 0).testBit t)
 | [],a=>AE
 | k::l,a=>by
   rw[List.foldl_cons,C7 S F t l,List.any_cons];cases S.testBit k <;> simp[Bool.or_assoc]
theorem Zvn(S:Nat)(F:List Nat)(t:Nat):(joinS S F).testBit t=(List.range F.length).any λk=>S.testBit k&&(F.getD k 0).testBit t:=by
 unfold joinS;rw[C7];simp
theorem F4{S:Nat}{t:Nat}:(joinS S F).testBit t=true↔∃k,k<F.length/\S.testBit k=true/\(F.getD k 0).testBit t=true:=by
 rw[Zvn,Ep];constructor
 ·rintro⟨k,a,h⟩;rw[AU] at h;exact⟨k,BQ.1 a,h.1,h.2⟩
 rintro⟨k,a,b,c⟩;exact⟨k,BQ.2 a,by rw[b,c];rfl⟩
def Ja(S:List Nat)(F:List Nat):List Nat:=(List.range F.length).map λi=>F.getD i 0 ||| joinS (S.getD i 0) F
theorem stepD_len(S F:List Nat):(Ja S F).length=F.length:=by simp[Ja]
theorem Lz(S F:List Nat)(hi:i<F.length):(Ja S F).getD i 0=F.getD i 0 ||| joinS (S.getD i 0) F:=by
 rw[AP];simp[Ja,hi]
theorem stepD_grows(S:List Nat):GrowsS (Ja S):=by
 refine⟨λt b=>(List.range b.length).map λi=>b.getD i false || (List.range b.length).any λk=>(S.getD i 0).testBit k&&b.getD k false,λt=>⟨λb=>AE,λb i h=>?_⟩,λt F=>?_⟩
 ·have hi:=(AO.1 h).1;have:b.getD i false=true:=by rw[AP,h];rfl
  have a:b[i]=true:=(AO.1 h).2;simp[hi,a]
 refine List.ext_getElem? λi=>?_;by_cases hi:i<F.length
 ·simp only[Je,Ja,BB,BI,List.getElem?_range hi,Ek,BX];rw[DS,Zvn,Zuj];congr 1;congr 1;funext k;rw[Zuj t F k];rfl
 simp only[Je,Ja,BB,BI];rw[BE (by simpa using hi)];rfl
def Xu(S:List Nat):List Nat:=Z3 (Ja S) S.length S
def Yw(S:List Nat)(i t:Nat):Bool:=((Xu S).getD i 0).testBit t
theorem U0(S:List Nat):∀m,(Z3 (Ja S) m S).length=S.length
 | 0=>rfl
 | m+1=>by rw[Z3,stepD_len,U0 S m]
theorem Li(S:List Nat):(Xu S).length=S.length:=U0 S _
theorem iterD_up(S:List Nat){t:Nat}(hi:i<S.length):∀m,((Z3 (Ja S) m S).getD i 0).testBit t=true->((Z3 (Ja S) (m+1) S).getD i 0).testBit t=true:=λm h=>by
 rw[Z3,Lz _ _ (by rw[U0];exact hi),DS,h,Bool.true_or]
theorem Gd(X:Nat->Prop)(a:∀k,k<S.length->X k->∀t,(S.getD k 0).testBit t=true->X t)(c:∀i t,(S.getD i 0).testBit t=true->t<S.length):
 ∀(m:Nat) {i t:Nat},i<S.length->(∀t,(S.getD i 0).testBit t=true->X t)->((Z3 (Ja S) m S).getD i 0).testBit t=true->X t
 | 0,i,t,hi,h0,h=>h0 t h
 | m+1,i,t,hi,h0,h=>by
   rw[Z3,Lz _ _ (by rw[U0];exact hi),DS,CJ] at h;rcases h with h | h
   ·exact Gd X a c m hi h0 h
   obtain⟨k,b,d,f⟩:=F4.1 h;rw[U0] at b;exact Gd X a c m b (a k b (h0 k d)) f
theorem comes_in(X:Nat->Prop)(c:∀k,k<S.length->X k->∀t,(S.getD k 0).testBit t=true->X t)(b:∀i t,(S.getD i 0).testBit t=true->t<S.length){t:Nat}(hi:i<S.length)(a:∀t,(S.getD i 0).testBit t=true->X t)(h:Yw S i t=true):X t :=
 Gd X c b _ hi a h
theorem cf_non(s:Int)(w:World)(a:U3 s)(b:s<0):
 Calls prog 154 #[.int .i64 s] w λe w'=>e = .returned (.int .i64 (-1-s))/\w=w':=by
 obtain⟨c,d⟩:=a;go_enter func154,ntmps154;go_wp2_with fail;go_ret;exact⟨rfl,rfl⟩
def Cf(N:List Bool)(s:Int):Bool:=decide (s<0)&&!N.getD (Zp s) false
def LeB(a b:List Bool):Prop:=a.length=b.length/\∀i:Nat,a[i]? = some true->b[i]? = some true
theorem LeB.trans{a b c:List Bool}(h:LeB a b)(k:LeB b c):LeB a c:=⟨h.1.trans k.1,λi hi=>k.2 i (h.2 i hi)⟩
theorem all_split(N:List Bool)(ss:List Int):((!ss.any λs=>decide (0<=s))&&!ss.any (Cf N))=Xj false N ss:=by
 unfold Xj
 induction ss with
 | nil=>rfl
 | cons s ss b =>
   rw[List.all_cons,<-b,List.any_cons,List.any_cons];unfold Cf;by_cases h:0<=s
   ·simp[h]
   have a:s<0:=AA
   cases N.getD (Zp s) false <;> simp[h,a]
theorem Zty(N:List Bool)(ss:List Int):(!ss.any (Cf N))=Xj true N ss:=by
 unfold Xj
 induction ss with
 | nil=>rfl
 | cons s ss b =>
   rw[List.all_cons,<-b,List.any_cons];unfold Cf;by_cases h:0<=s
   ·simp[h]
   have a:s<0:=AA
   cases N.getD (Zp s) false <;> simp[h,a]
def Uq(ss:List Int):List Int:=(ss.filter λs=>decide (s<0)).map λs=>-1-s
def Xg(N:List Bool)(s:Int):Bool:=decide (s<0)&&N.getD (Zp s) false
def Vo(N:List Bool)(ss:List Int):List Int:=ss.filter λs=>!Xg N s
def Zyn(N P:List Bool)(ss:List Int)(s:Int):Bool:=(decide (s<0)&&P.getD (Zp s) false)&&(decide ((Vo N ss).length=0) || (decide ((Vo N ss).length=1)&&decide ((Vo N ss)[0]? = some s)))
theorem bareL_nil{N:List Bool}{ss:List Int}:Vo N ss=[]↔ss.all (Xg N)=true:=by
 unfold Vo;rw[List.filter_eq_nil_iff,BG];constructor
 ·intro h s a;have:=h s a;simpa using this
 intro h s a;simp[h s a]
theorem Zuh{P:List Bool}(a:∀i,N.getD i false=true->P.getD i false=true)(h:ss.all (Xg N)=true):Xj true P ss=true:=by
 unfold Xj;rw[BG] at h ⊢;intro s b;have:=h s b;unfold Xg at this;rw[AU] at this;split
 ·rfl
 exact a _ this.2
theorem allP_mono{M:List Bool}(h:∀i,N.getD i false=true->M.getD i false=true)(a:Xj false N ss=true):Xj true M ss=true:=by
 unfold Xj at a ⊢;rw[BG] at a ⊢;intro s c;have:=a s c;split
 ·rfl
 rename_i b;rw[if_neg b] at this;exact h _ this
def Jb(f:Nat->Bool)(n:Nat):Nat:=(List.range n).foldl (λs i=>if f i then s ||| Y6 (i:Int) else s) 0
theorem Mp(f:Nat->Bool)(n:Nat):Jb f (n+1)=if f n then Jb f n ||| Y6 (n:Int) else Jb f n:=by
 unfold Jb;rw[DQ,Et];rfl
theorem Uv(i t:Nat):(Y6 (i:Int)).testBit t=(decide (i<32)&&decide (t=i)):=by
 unfold Y6;by_cases h:i<32
 ·rw[if_pos AA,DC,Nat.testBit_two_pow];simp[h,eq_comm]
 rw[if_neg AA];simp[h]
theorem J3(f:Nat->Bool)(n t:Nat):(Jb f n).testBit t=(decide (t<32)&&(decide (t<n)&&f t)):=by
 induction n with
 | zero=>simp[Jb]
 | succ n a =>
   rw[Mp];by_cases b:t=n
   ·subst b;cases c:f t
    ·simp[a,c]
    rw[if_pos rfl,DS,a,Uv];simp
   have e:decide (t<n+1)=decide (t<n):=by
    rw[Cs,BA,BA];omega
   rw[e];split
   ·rw[DS,a,Uv];simp[b]
   exact a
def fwK(i k:Nat)(F:List Nat):List Nat:=if (F.getD i 0).testBit k then addAt i (F.getD k 0) F else F
def fwR(i m:Nat)(F:List Nat):List Nat:=(List.range m).foldl (λF k=>fwK i k F) F
def fwI(m q:Nat)(F:List Nat):List Nat:=(List.range q).foldl (λF i=>fwR i m F) F
theorem Mm(i m:Nat)(F:List Nat):fwR i (m+1) F=fwK i m (fwR i m F):=by
 unfold fwR;rw[DQ,Et];rfl
theorem M9(m q:Nat)(F:List Nat):fwI m (q+1) F=fwR q m (fwI m q F):=by
 unfold fwI;rw[DQ,Et];rfl
theorem fwK_len(i k:Nat)(F:List Nat):(fwK i k F).length=F.length:=by
 unfold fwK;split
 ·simp[addAt]
 rfl
theorem Zyi(i:Nat)(F:List Nat):∀m,(fwR i m F).length=F.length
 | 0=>rfl
 | m+1=>by rw[Mm,fwK_len,Zyi i F m]
theorem Zyc(m:Nat)(F:List Nat):∀q,(fwI m q F).length=F.length
 | 0=>rfl
 | q+1=>by rw[M9,Zyi,Zyc m F q]
theorem K5(m q:Nat)(F:List Nat):∀p,(Z3 (fwI m q) p F).length=F.length
 | 0=>rfl
 | p+1=>by rw[Z3,Zyc,K5 m q F p]
theorem Jo(i x j:Nat)(F:List Nat):(addAt i x F).getD j 0=if j=i/\i<F.length then F.getD i 0 ||| x else F.getD j 0:=by
 unfold addAt;rw[AP,List.getElem?_set];by_cases a:i=j
 ·subst a;by_cases b:i<F.length
  ·simp[b]
  simp[b,AP,BE (show F.length<=i by omega)]
 rw[if_neg a,if_neg (by rintro⟨h,_⟩;exact a h.symm),AP]
theorem fwK_up(i k:Nat)(F:List Nat){t:Nat}(h:(F.getD j 0).testBit t=true):((fwK i k F).getD j 0).testBit t=true:=by
 unfold fwK;split
 ·rw[Jo];split
  ·rename_i a;rw[DS,<-a.1,h];rfl
  exact h
 exact h
theorem Zw1(i:Nat)(F:List Nat){t:Nat}(h:(F.getD j 0).testBit t=true):∀m,((fwR i m F).getD j 0).testBit t=true
 | 0=>h
 | m+1=>by rw[Mm];exact fwK_up _ _ _ (Zw1 i F h m)
theorem Zwj(m:Nat)(F:List Nat){t:Nat}(h:(F.getD j 0).testBit t=true):∀q,((fwI m q F).getD j 0).testBit t=true
 | 0=>h
 | q+1=>by rw[M9];exact Zw1 _ _ (Zwj m F h q) _
theorem Zvm(m q:Nat)(F:List Nat){t:Nat}(h:(F.getD j 0).testBit t=true):∀p,((Z3 (fwI m q) p F).getD j 0).testBit t=true
 | 0=>h
 | p+1=>by rw[Z3];exact Zwj _ _ (Zvm m q F h p) _
theorem fwR_low(i:Nat)(F:List Nat)(hi:i<F.length){k t:Nat}(a:(F.getD i 0).testBit k=true)(b:(F.getD k 0).testBit t=true):∀m,k<m->((fwR i m F).getD i 0).testBit t=true
 | 0,h=>AA
 | m+1,h=>by
   rw[Mm];by_cases c:k=m
   ·subst c;unfold fwK;rw[if_pos (Zw1 i F a k),Jo,if_pos ⟨rfl,by rw[Zyi];exact hi⟩,DS,Zw1 i F b k,Bool.or_true]
   exact fwK_up _ _ _ (fwR_low i F hi a b m AA)
theorem fwI_low(m:Nat)(F:List Nat){k t:Nat}(c:k<m)(a:(F.getD i 0).testBit k=true)(b:(F.getD k 0).testBit t=true):∀q,i<q->i<F.length->((fwI m q F).getD i 0).testBit t=true
 | 0,h,_=>AA
 | q+1,h,hl=>by
   rw[M9];by_cases d:i=q
   ·subst d;exact fwR_low i _ (by rw[Zyc];exact hl) (Zwj m F a i) (Zwj m F b i) m c
   exact Zw1 _ _ (fwI_low m F c a b q AA hl) _
theorem Zzl(S:List Nat):∀(p:Nat) {i t:Nat},i<S.length->((Z3 (Ja S) p S).getD i 0).testBit t=true->((Z3 (fwI S.length S.length) p S).getD i 0).testBit t=true
 | 0,i,t,hi,h=>h
 | p+1,i,t,hi,h=>by
   rw[Z3,Lz _ _ (by rw[U0];exact hi),DS,CJ] at h;rw[Z3];rcases h with h | h
   ·exact Zwj _ _ (Zzl S p hi h) _
   obtain⟨k,a,b,c⟩:=F4.1 h;rw[U0] at a;exact fwI_low _ _ a (Zvm _ _ S b p) (Zzl S p a c) _ hi (by rw[K5];exact hi)
def UpF(S F:List Nat):Prop:=F.length=S.length/\∀i t,i<S.length->(F.getD i 0).testBit t=true->Yw S i t=true
def InS(S:List Nat):Prop:=∀i t,(S.getD i 0).testBit t=true->t<S.length
def J5(S:List Nat)(i R:Nat):Prop:=R<4294967296/\(∀t,(S.getD i 0).testBit t=true->R.testBit t=true)/\∀t,R.testBit t=true->t<S.length/\Yw S i t=true
def cycS(S:List Nat):Nat:=Jb (λi=>Yw S i i) S.length
def Ck(a b:Nat):Nat:=a ^^^ (a &&& b)
theorem Nu(a b t:Nat):(Ck a b).testBit t=(a.testBit t&&!b.testBit t):=by
 unfold Ck;rw[Nat.testBit_xor,Nat.testBit_and];cases a.testBit t <;> cases b.testBit t <;> rfl
def U2(S:List Nat)(use a i:Nat):Bool:=use.testBit i&&!a.testBit i&&(Ck (S.getD i 0) a==0)
def Qx(f:Nat->Bool)(n:Nat):Option Nat:=(List.range n).find? f
theorem findB_some{f:Nat->Bool}{n:Nat}(hi:i<n)(h:f i=true)(a:∀j,j<i->f j=false):Qx f n=some i:=by
 unfold Qx;rw[List.find?_range_eq_some];exact⟨h,BQ.2 hi,λj b=>by rw[a j b];rfl⟩
theorem findB_none{f:Nat->Bool}{n:Nat}(h:∀j,j<n->f j=false):Qx f n=none:=by
 unfold Qx;rw[List.find?_eq_none];intro j a;rw[h j (BQ.1 a)];decide
theorem findB_none'{f:Nat->Bool}{n:Nat}(h:Qx f n=none):∀j,j<n->f j=false:=by
 unfold Qx at h;rw[List.find?_eq_none] at h;intro j a;have:=h j (BQ.2 a);simpa using this
theorem Cj{f:Nat->Bool}{n:Nat}(h:Qx f n=some i):i<n/\f i=true:=by
 unfold Qx at h;exact⟨BQ.1 (List.mem_of_find?_eq_some h),List.find?_some h⟩
def Zza(S:List Nat)(use n:Nat)(a:List Nat × Nat):List Nat × Nat:=match Qx (U2 S use a.2) n with
 | none=>a
 | some i=>(a.1++[i],a.2 ||| Y6 (i:Int))
def Y4(S:List Nat)(use n k:Nat):List Nat × Nat:=Z3 (Zza S use n) k ([],0)
theorem Nf(S:List Nat)(use n k:Nat):Y4 S use n (k+1)=Zza S use n (Y4 S use n k):=rfl
theorem Ly{n:Nat}(h:Qx (U2 S use a.2) n=some i):Zza S use n a=(a.1++[i],a.2 ||| Y6 (i:Int)):=by
 unfold Zza;rw[h]
theorem Ln{n:Nat}(h:Qx (U2 S use a.2) n=none):Zza S use n a=a:=by
 unfold Zza;rw[h]
def Nm(b:List Bool):Nat:=Jb (λi=>b.getD i false) b.length
structure Prd where
 left:ByteArray
 right:List ByteArray
 prec:ByteArray
theorem Xe{cs c:List Value}{n:Nat}(b:cs.length=n*m)(a:j<n)(hi:i<m):(cs++c)[j*m+i]? = cs[j*m+i]? := by
 have:j*m+i<cs.length:=by
  rw[b]
  calc j*m+i<j*m+m:=AA
   _=(j+1)*m:=by rw[Nat.succ_mul]
   _<=n*m:=Es _ a
 rw[DB this]
theorem Y7{cs a:List Value}{n:Nat}(b:cs.length=n*m):(cs++a)[n*m+i]? = a[i]? := by
 rw[BV AA];congr 1;omega
theorem H4{l:List α}{x y:α}(h:(l++[x])[j]? = some y):(j<l.length/\l[j]? = some y)\/(j=l.length/\x=y):=by
 rcases BD j l.length with b | c
 ·exact .inl ⟨b,by rwa [DB b] at h⟩
 rw[BV c] at h;have d:j<(l++[x]).length:=by
  rcases BD j (l++[x]).length with a | a
  ·exact a
  simp only[AV,CX] at a;rw[BE AG] at h;cases h
 simp at d;obtain rfl:j=l.length:=AA
 simp at h;exact .inr ⟨rfl,h⟩
def Gi(cs:List Value)(ss:List ByteArray):Prop:=cs.length=ss.length*2/\∀(j:Nat) (s:ByteArray),ss[j]? = some s->cs[j*2+0]? = some (.string s)/\∃x y,cs[j*2+1]? = some (.complex .f64 x y)
def V1(h:GH):Value := .slice h.a1 h.n1 h.c1
def V2(h:GH):Value := .slice h.a2 h.n2 h.c2
def V3(h:GH):Value := .slice h.a3 h.n3 h.c3
def J8(p:Nat)(h:GH)(k:Nat):Prop:=k=p\/(V1 h).ownBlock=some k\/(V2 h).ownBlock=some k\/(V3 h).ownBlock=some k
def Da(u v:Value):Prop:=∀b,u.ownBlock=some b->v.ownBlock=some b->False
def Q0(h:GH):Array Value:=#[V1 h,V2 h,V3 h,.int .i64 0,.slice none 0 0,.string ⟨#[]⟩,.complex .f64 0 0,.bool false,.int .i64 0,.complex .f64 0 0,.int .i64 0]
theorem U8{b:Bool}:Xj b N ss=true↔∀s∈ss,(0<=s->b=true)/\(s<0->N.getD (Zp s) false=true):=by
 unfold Xj;rw[BG];constructor
 ·intro h s a;have:=h s a;refine⟨λh0=>by rwa [if_pos h0] at this,λh0=>by rwa [if_neg AA] at this⟩
 intro h s a;split
 ·rename_i h0;exact (h s a).1 h0
 rename_i h0;exact (h s a).2 AA
theorem Zur{t:Int}:t∈Uq ss↔∃s∈ss,s<0/\-1-s=t:=by
 unfold Uq;simp only[CW,List.mem_filter,decide_eq_true_eq];constructor
 ·rintro⟨s,⟨h1,a⟩,b⟩;exact⟨s,h1,a,b⟩
 rintro⟨s,h1,a,b⟩;exact⟨s,⟨h1,a⟩,b⟩
def Vi:List Nat->Nat
 | []=>0
 | x::l=>x+Vi l
theorem Lx{f g:α->Nat}:∀{l:List α},(∀x∈l,f x=g x)->Vi (l.map f)=Vi (l.map g)
 | [],_=>rfl
 | x::l,h=>by
   show f x+Vi (l.map f)=g x+Vi (l.map g);rw[h x (By ..),Lx λy a=>h y (BO _ a)]
theorem Mc{f:α->Nat}:∀{l:List α},Vi (l.map f)=0↔∀x∈l,f x=0
 | []=>by simp[Vi]
 | x::l=>by
   show f x+Vi (l.map f)=0↔_;rw[Nat.add_eq_zero_iff,Mc];simp
theorem Na(l m:List Nat):Vi (l++m)=Vi l+Vi m:=by
 induction l with
 | nil=>simp[Vi]
 | cons x l a=>show x+Vi (l++m)=x+Vi l+Vi m;omega
def Zx(T:Int->Nat->Nat):List Int->Nat->Nat
 | [],n=>if n=0 then 1 else 0
 | s::l,n=>Vi ((List.range (n+1)).map λk=>T s k*Zx T l (n-k))
theorem forest_zero(T:Int->Nat->Nat)(s:Int)(l:List Int):Zx T (s::l) 0=T s 0*Zx T l 0:=by
 simp[Zx,Vi]
theorem Uf:∀{l:List Int},Zx T l 0=0↔∃s∈l,T s 0=0
 | []=>by simp[Zx]
 | s::l=>by
   rw[forest_zero,Nat.mul_eq_zero,Uf];simp
theorem Wp{a:Int->Nat->Nat}:∀{l:List Int} {n:Nat},(∀s∈l,∀k,k<=n->T s k=a s k)->Zx T l n=Zx a l n
 | [],n,_=>rfl
 | s::l,n,h=>by
   unfold Zx;refine Lx λk b=>?_;have f:=BQ.1 b;rw[h s (By ..) k AA,Wp λq c j d=>h q (BO _ c) j AA]
theorem Zzb{c:Int->Nat->Nat}:∀{l:List Int} {n:Nat},(∀s∈l,∀k,k<n->T s k=c s k)->
 (∀(p:Nat) s,l[p]? = some s->(∀(q:Nat) b,q≠p->l[q]? = some b->T b 0≠0)->T s n=c s n)->(n=0->∀s∈l,T s 0=0->c s 0=0)->Zx T l n=Zx c l n:=by
 intro l n;rcases BY n with rfl | z
 ·intro _ g y;by_cases d:∃s∈l,T s 0=0
  ·rw[Uf.2 d];obtain⟨s,o,h0⟩:=d;exact (Uf.2 ⟨s,o,y rfl s o h0⟩).symm
  refine Wp λs o k u=>?_;obtain rfl:k=0:=AA
  obtain⟨p,r⟩:=BU o;exact g p s r λq b _ a h0=>d ⟨b,AN a,h0⟩
 intro h1 g _
 induction l with
 | nil=>rfl
 | cons s l B =>
   unfold Zx;refine Lx λk u=>?_;have C:=BQ.1 u;have t:∀q∈s::l,T q 0=c q 0:=λq a=>h1 q a 0 z;rcases BY k with rfl | D
   ·rw[<-t s (By ..)];by_cases x:T s 0=0
    ·rw[x,Nat.zero_mul,Nat.zero_mul]
    rw[Nat.sub_zero,B (λq a=>h1 q (BO _ a)) (λp q r A=>g (p+1) q (by simpa using r) λj b m f=>?_) (λh=>absurd h AA)];cases j with
    | zero=>simp at f;rw[<-f];exact x
    | succ j=>exact A j b AA (by simpa using f)
   rcases BD k n with v | v
   ·rw[h1 s (By ..) k v,Wp λq a j m=>h1 q (BO _ a) j AA]
   obtain rfl:k=n:=AA
   rw[Nat.sub_self];have e:Zx T l 0=Zx c l 0:=Wp λq a j m=>by
    obtain rfl:j=0:=AA
    exact t q (BO _ a)
   by_cases d:∃q∈l,T q 0=0
   ·rw[<-e,Uf.2 d,Nat.mul_zero,Nat.mul_zero]
   rw[<-e,g 0 s rfl λj b m f h0=>?_];cases j with
   | zero=>exact m rfl
   | succ j=>exact d ⟨b,AN (by simpa using f),h0⟩
def K0(n:Nat):Nat:=if n=1 then 1 else 0
def fuelN(n:Nat):Nat:=n*4294967296+4294967297
theorem fuelN_succ(n:Nat):∃f,fuelN n=f+1/\n*4294967296+4294967296<=f:=⟨n*4294967296+4294967296,rfl,AJ _⟩
theorem fuelN_le(n:Nat):n*4294967296+4294967296<=fuelN n:=DP _
def My(l:List Nat):Nat:=l.foldl (λs (i:Nat)=>s ||| Y6 (i:Int)) 0
theorem Zzd(l:List Nat)(i:Nat):My (l++[i])=My l ||| Y6 (i:Int):=by simp[My]
def Yk(tab:Nat->Nat->Nat)(s:Int)(n:Nat):Nat:=if 0<=s then K0 n else tab n (Zp s)
def U6(tab:Nat->Nat->Nat)(m i v:Nat):Nat->Nat->Nat:=λk j=>if k=m/\j=i then v else tab k j
theorem Fr(h:s<0):-1-((Zp s:Nat):Int)=s:=by unfold Zp;omega
theorem nonI_of(i:Nat):Zp (-1-(i:Int))=i:=by unfold Zp;omega
def val:List Nat->Nat
 | []=>0
 | x::t=>x+4294967296*val t
def Lim(xs:List Nat):Prop:=∀x∈xs,x<4294967296
def Ft:Nat->Nat->List Nat
 | 0,_=>[]
 | f+1,n=>if n=0 then [] else n % 4294967296::Ft f (n / 4294967296)
def limbs(n:Nat):List Nat:=Ft (n.log2+1) n
def Xx(xs:List Nat):List Nat:=(xs.reverse.dropWhile (·==0)).reverse
def Zm(xs:List Nat):Bool:=decide (xs.length<=32)&&(decide (xs.length=0) || xs.getD (xs.length-1) 0 != 0)
def big:Nat:=2 ^ 1024
theorem Zwf:big=4294967296 ^ 32:=by unfold big;decide +kernel
attribute [irreducible] big
theorem Lim.cons{t:List Nat}(h:Lim (x::t)):x<4294967296/\Lim t :=
 ⟨h x AE,λy a=>h y (by simp[a])⟩
theorem Lim.mk{t:List Nat}(h:x<4294967296)(b:Lim t):Lim (x::t):=λy a=>by
 rcases BZ.1 a with rfl | a
 ·exact h
 exact b y a
theorem Lim.append{ys:List Nat}(h:Lim xs)(b:Lim ys):Lim (xs++ys):=λy a=>by
 rcases DD.1 a with a | a
 ·exact h y a
 exact b y a
theorem Lim.drop(h:Lim xs)(k:Nat):Lim (xs.drop k):=λy a=>h y (List.mem_of_mem_drop a)
theorem Lim.of_get(h:Lim xs)(a:xs[j]? = some x):x<4294967296:=h x (AN a)
theorem Lim.getD(h:Lim xs)(j:Nat):xs.getD j 0<4294967296:=by
 rw[AP];cases a:xs[j]? with
 | none=>simp
 | some x=>simpa using h.of_get a
theorem Ny(xs ys:List Nat):val (xs++ys)=val xs+4294967296 ^ xs.length*val ys:=by
 induction xs with
 | nil=>simp[val]
 | cons x t a =>
   simp only[DM,val,a,AY,Nat.pow_succ,DL];rw[<-DU,Ef 4294967296 (4294967296 ^ t.length)];omega
theorem Wf(xs:List Nat)(x:Nat):val (xs++[x])=val xs+4294967296 ^ xs.length*x:=by
 rw[Ny];simp[val]
theorem Ui(xs:List Nat)(h:Lim xs):val xs<4294967296 ^ xs.length:=by
 induction xs with
 | nil=>simp[val]
 | cons x t a =>
   have:=a h.cons.2;have:=h.cons.1;simp only[val,AY,Nat.pow_succ];omega
theorem Zth(n:Nat):n<4294967296 ^ (n.log2+1):=by
 have h1:n<2 ^ (n.log2+1):=Nat.lt_log2_self;have a:(2:Nat) ^ (n.log2+1)<=4294967296 ^ (n.log2+1):=Nat.pow_le_pow_left AC _;omega
def Mo(xs:List Nat):Prop:=∀ys x,xs=ys++[x]->x≠0
theorem Fv(xs:List Nat)(b:Mo xs)(h:val xs=0):xs=[]:=by
 rcases List.eq_nil_or_concat xs with rfl | ⟨ys,x,rfl⟩
 ·rfl
 rw[List.concat_eq_append] at *;have:=b ys x rfl;rw[Wf] at h;have a:0<4294967296 ^ ys.length:=Nat.pow_pos AC;have:0<4294967296 ^ ys.length*x:=Nat.mul_pos a AA;omega
theorem L4(xs:List Nat):Xx (xs++[0])=Xx xs:=by simp[Xx]
theorem Zxh(xs:List Nat)(x:Nat)(h:x≠0):Xx (xs++[x])=xs++[x]:=by simp[Xx,h]
def Xm(n:Nat):List Nat × Nat:=if n<big then (limbs n,0) else ([],2)
def Mu(xs ys:List Nat):List Nat × Nat:=if Zm xs&&Zm ys then Xm (val xs+val ys) else ([],1)
def N9(xs ys:List Nat):List Nat × Nat:=if Zm xs&&Zm ys then Xm (val xs*val ys) else ([],1)
def V4(xs ys:List Nat):Nat->List Nat × Nat
 | 0=>([],0)
 | i+1 =>
   let p:=V4 xs ys i
   let s:=xs.getD i 0+ys.getD i 0+p.2
   (p.1++[s % 4294967296],s / 4294967296)
theorem Mq(xs ys:List Nat)(i:Nat):(V4 xs ys i).1.length=i:=by
 induction i with
 | zero=>rfl
 | succ i a=>simp[V4,a]
theorem Lg(xs ys:List Nat)(a:Lim xs)(b:Lim ys)(i:Nat):(V4 xs ys i).2<=1:=by
 induction i with
 | zero=>simp[V4]
 | succ i d =>
   have h1:=a.getD i;have c:=b.getD i;simp only[V4];omega
def Uy(N:List Bool)(l:List Int):Nat:=l.countP λs=>!Xg N s
theorem lowN_cons(N:List Bool)(s:Int)(l:List Int):Uy N (s::l)=Uy N [s]+Uy N l:=by
 unfold Uy;rw[List.countP_cons,List.countP_cons,List.countP_nil];omega
theorem Zsr(N:List Bool)(s:Int):Uy N [s]=if Xg N s then 0 else 1:=by
 unfold Uy;rw[List.countP_cons,List.countP_nil];cases Xg N s <;> rfl
theorem Kn(a:∀s,T s 0≠0->Xg N s=true):∀{l:List Int} {n:Nat},n<Uy N l->Zx T l n=0
 | [],n,h=>by simp[Uy] at h
 | s::l,n,h=>by
   unfold Zx;rw[Mc];intro k b;have d:=BQ.1 b;rw[lowN_cons,Zsr] at h;rw[Nat.mul_eq_zero];by_cases h0:Xg N s=true
   ·rw[if_pos h0] at h;exact .inr (Kn a AA)
   rw[if_neg h0] at h;rcases BY k with rfl | f
   ·left;apply DV;intro c;exact h0 (a s c)
   exact .inr (Kn a AA)
theorem sum_cut{f:Nat->Nat}:∀{n hi:Nat},hi<=n->(∀k,k<b->f k=0)->(∀k,hi<=k->k<n->f k=0)->Vi ((List.range n).map f)=Vi ((List.range (hi-b)).map λd=>f (b+d)):=by
 have l:∀(m:Nat),Vi ((List.range (m+1)).map f)=Vi ((List.range m).map f)+f m:=λm=>by
  rw[DQ,DJ,Na];simp[Vi]
 have p:∀(m:Nat),Vi ((List.range (m+1)).map λd=>f (b+d))=Vi ((List.range m).map λd=>f (b+d))+f (b+m):=λm=>by
  rw[DQ,DJ,Na];simp[Vi]
 intro n hi o h1 j;have a:∀m,hi+m<=n->Vi ((List.range (hi+m)).map f)=Vi ((List.range hi).map f):=by
  intro m
  induction m with
  | zero=>intro _;rfl
  | succ m g =>
    intro q;rw[show hi+(m+1)=(hi+m)+1 by omega,l,g AA,j (hi+m) AA AA,DO]
 have e:n=hi+(n-hi):=AA
 rw[e,a (n-hi) AA];clear a e o j;rcases Nat.le_total hi b with h | h
 ·rw[show hi-b=0 by omega];show _=0;rw[Mc];intro k c;exact h1 k (by have:=BQ.1 c;omega)
 obtain⟨d,rfl⟩:=Nat.exists_eq_add_of_le h;rw[Nat.add_sub_cancel_left]
 induction d with
 | zero =>
   rw[DO];show _=0;rw[Mc];intro k c;exact h1 k (BQ.1 c)
 | succ d g=>rw[<-DZ,l,p,g AA]
theorem forest_split(b:∀s,T s 0≠0->Xg N s=true)(s:Int)(l:List Int)(n:Nat):
 Zx T (s::l) n=Vi ((List.range (n+1-Uy N l-Uy N [s])).map λd=>T s (Uy N [s]+d)*Zx T l (n-(Uy N [s]+d))):=by
 show Vi ((List.range (n+1)).map λk=>T s k*Zx T l (n-k))=_;refine sum_cut (f:=λk=>T s k*Zx T l (n-k)) (n:=n+1) (hi:=n+1-Uy N l) AA (λk a=>?_) λk a g=>?_
 ·rw[Zsr] at a;split at a
  ·omega
  rename_i h0;obtain rfl:k=0:=AA
  show T s 0*_=0;rw[Nat.mul_eq_zero];left;apply DV;intro c;exact h0 (b s c)
 show T s k*_=0;rw[Kn b AA,Nat.mul_zero]
def Vk(n:Nat):List Nat × Bool:=if n<big then (limbs n,false) else ([],true)
theorem Z7{n:Nat}(h:n<big):Vk n=(limbs n,false):=if_pos h
theorem Wl{n:Nat}(h:¬n<big):Vk n=([],true):=if_neg h
theorem Nr(f:Nat->Nat)(m:Nat):Vi ((List.range (m+1)).map f)=Vi ((List.range m).map f)+f m:=by
 rw[DQ,DJ,Na];simp[Vi]
def Hw(T:Int->Nat->Nat)(s:Int)(now:Nat->Nat)(K m:Nat):Nat:=Vi ((List.range (min K (m+1))).map λk=>T s k*now (m-k))
theorem Ah(T:Int->Nat->Nat)(s:Int)(now:Nat->Nat)(h:K<=m):Hw T s now (K+1) m=Hw T s now K m+T s K*now (m-K):=by
 unfold Hw;rw[show min (K+1) (m+1)=K+1 by omega,show min K (m+1)=K by omega,Nr]
theorem Zun(T:Int->Nat->Nat)(s:Int)(now:Nat->Nat)(h:m<K):Hw T s now (K+1) m=Hw T s now K m:=by
 unfold Hw;rw[show min (K+1) (m+1)=m+1 by omega,show min K (m+1)=m+1 by omega]
theorem accF_all(h:m<K):Hw T s (Zx T l) K m=Zx T (s::l) m:=by
 unfold Hw;rw[show min K (m+1)=m+1 by omega];rfl
theorem accF_zero(T:Int->Nat->Nat)(s:Int)(now:Nat->Nat)(m:Nat):Hw T s now 0 m=0:=by simp[Hw,Vi]
def D5(T:Int->Nat->Nat)(s:Int)(now:Nat->Nat)(n K:Nat):List Nat:=(List.range (n+1)).map (Hw T s now K)
def Gx(T:Int->Nat->Nat)(s:Int)(now:Nat->Nat)(n K M:Nat):List Nat:=(List.range (n+1)).map λm=>if m<M then Hw T s now (K+1) m else Hw T s now K m
theorem J2(T:Int->Nat->Nat)(s:Int)(now:Nat->Nat)(n K M:Nat):(Gx T s now n K M).length=n+1:=by simp[Gx]
theorem rowF_zero(T:Int->Nat->Nat)(s:Int)(now:Nat->Nat)(n:Nat):D5 T s now n 0=List.replicate (n+1) 0:=by
 refine List.ext_getElem? λj=>?_;rw[List.getElem?_replicate];unfold D5;rw[BB];by_cases a:j<n+1
 ·rw[List.getElem?_range a,if_pos a,Ek,accF_zero]
 rw[BE (by simpa using a),if_neg a];rfl
theorem Zvo(T:Int->Nat->Nat)(s:Int)(now:Nat->Nat)(n K:Nat):Gx T s now n K K=D5 T s now n K:=by
 unfold Gx D5;refine List.map_congr_left λm _=>?_;split
 ·rename_i h;exact Zun T s now h
 rfl
theorem mid_end(T:Int->Nat->Nat)(s:Int)(now:Nat->Nat)(n K:Nat):Gx T s now n K (n+1)=D5 T s now n (K+1):=by
 unfold Gx D5;refine List.map_congr_left λm a=>?_;rw[if_pos (BQ.1 a)]
theorem mid_skip(now:Nat->Nat)(n:Nat)(h:T s K=0):D5 T s now n (K+1)=D5 T s now n K:=by
 unfold D5;refine List.map_congr_left λm _=>?_;rcases BD m K with a | a
 ·exact Zun T s now a
 rw[Ah T s now a,h,Nat.zero_mul,DO]
theorem mid_get(T:Int->Nat->Nat)(s:Int)(now:Nat->Nat){n M:Nat}(a:M<=n):(Gx T s now n K M).getD M 0=Hw T s now K M:=by
 unfold Gx;rw[AP,BB,List.getElem?_range AA,Ek,Option.getD_some,if_neg AA]
def Gs(T:Int->Nat->Nat)(l:List Int)(n:Nat):List Nat:=(List.range (n+1)).map (Zx T l)
theorem Zwg(T:Int->Nat->Nat)(l:List Int)(n:Nat):(Gs T l n).length=n+1:=by simp[Gs]
theorem Zy6(T:Int->Nat->Nat)(l:List Int){n:Nat}(h:m<=n):(Gs T l n).getD m 0=Zx T l m:=by
 unfold Gs;rw[AP,BB,List.getElem?_range AA];rfl
theorem rowF_done(T:Int->Nat->Nat)(s:Int)(l:List Int)(n:Nat):D5 T s (Zx T l) n (n+1)=Gs T (s::l) n:=by
 unfold D5 Gs;refine List.map_congr_left λm a=>?_;have:=BQ.1 a;exact accF_all AA
theorem low_zero(h:Uy N l=0):∀s∈l,Xg N s=true:=by
 intro s a;unfold Uy at h;rw[List.countP_eq_zero] at h;have:=h s a;simpa using this
def Jt(T:Int->Nat->Nat)(s:Int)(l:List Int)(n a d:Nat):Nat:=Vi ((List.range d).map λe=>T s (a+e)*Zx T l (n-(a+e)))
theorem Gm(T:Int->Nat->Nat)(s:Int)(l:List Int)(n a d:Nat):Jt T s l n a (d+1)=Jt T s l n a d+T s (a+d)*Zx T l (n-(a+d)):=by
 unfold Jt;rw[Nr (λe=>T s (a+e)*Zx T l (n-(a+e)))]
theorem splitN_all(a:∀s,T s 0≠0->Xg N s=true)(s:Int)(l:List Int)(n:Nat):Jt T s l n (Uy N [s]) (n+1-Uy N l-Uy N [s])=Zx T (s::l) n:=(forest_split a s l n).symm
theorem Mg{e n c:Nat}{xs:List Value}(h:w.ownsRow base e size (.slice A n c) n xs)(d:(Value.slice A n c).ownBlock=some b):∃cs f,w.heap[b]? = some (.cells cs e f):=by
 rcases h.2 with ⟨a,rfl⟩ | ⟨g,cap,k,a,l,j,p,m,o,q⟩
 ·injection a with h1 h2 h3;subst h1;cases d
 injection a with h1 h2 h3;subst h1;have:g=b:=by simpa [Value.ownBlock] using d
 subst this;exact⟨_,_,j⟩
theorem Fe{e n c base' p:Nat}{f:Option Addr}{xs q:List Value}(h:w.ownsRow base e size (.slice A n c) n xs)(k:w.ownsRow base' j p (.slice f d g) d q)(o:e≠j)(l:(Value.slice A n c).ownBlock=some b)(m:(Value.slice f d g).ownBlock=some b):False:=by
 obtain⟨cs,s,h1⟩:=Mg h l;obtain⟨r,t,a⟩:=Mg k m;rw[h1] at a;injection a with a;injection a with _ h3 _;exact o h3
def noH:GH:=⟨none,0,0,none,0,0,none,0,0⟩
theorem ofN_one(n:Int):ofN [n]=Y6 n:=by simp[ofN]
def Zwl(W:World)(a g n:Nat)(N:List Bool):Prop:=W.cell? ⟨a,0,none⟩=some (.slice (some ⟨g,0,none⟩) n n)/\∀i,i<n->W.cell? ⟨g,i,none⟩=some (.bool (N.getD i false))
theorem zeros_lim(n:Nat):Lim (List.replicate n 0):=λy a=>by
 have:=List.eq_of_mem_replicate a;omega
theorem zeros_val(n:Nat):val (List.replicate n 0)=0:=by
 induction n with
 | zero=>rfl
 | succ n a=>simp[List.replicate_succ,val,a]
theorem Zw2:Vk 1=([1],false):=by
 have h1:(1:Nat)<big:=by
  unfold big;generalize a:(1024:Nat)=k;exact Nat.one_lt_two_pow AA
 rw[Z7 h1];rfl
theorem Ztr(N:List Bool)(l:List Int):Uy N l<=l.length:=List.countP_le_length
def Yv(T:Int->Nat->Nat)(s:Int)(l:List Int)(n k:Nat):Nat:=Vi ((List.range k).map λj=>T s j*Zx T l (n-j))
theorem Zvk{b:List Int}(h:l.drop d=s::b):l[d]? = some s/\b=l.drop (d+1)/\d<l.length:=by
 have a:d<l.length:=by
  rcases BD d l.length with h1 | h1
  ·exact h1
  rw[List.drop_eq_nil_of_le h1] at h;cases h
 rw[Ec a] at h;injection h with h1 h2;exact⟨by rw[AM a,h1],h2.symm,a⟩
theorem and_one(c:Nat)(d:c<4294967296)(j:Nat):c &&& Y6 (j:Int)=if c.testBit j then Y6 (j:Int) else 0:=by
 apply Nat.eq_of_testBit_eq;intro t;rw[Nat.testBit_and];cases b:c.testBit j
 ·rw[if_neg AC,Nat.zero_testBit,Uv];by_cases a:t=j
  ·subst a;simp[b]
  simp[a]
 rw[if_pos rfl,Uv];by_cases a:t=j
 ·subst a;simp[b]
 simp[a]
def tab22A(k i:Nat):Nat:=[0,1,1,2,5].getD k 0
theorem X8(xs:List Nat)(h:Zm xs=true):Mo xs:=by
 intro b x a;subst a;simp[Zm] at h;exact h.2
def Mw(xs a:List Nat):List Nat × Nat :=
 if Zm xs&&Zm a then (if val xs<val a then ([],11) else (limbs (val xs-val a),0)) else ([],1)
def M2(xs a:List Nat):List Nat × List Nat × Nat :=
 if Zm xs&&Zm a&&a.length != 0 then (limbs (val xs / val a),limbs (val xs % val a),0) else ([],[],1)
theorem Zrf(n:Nat)(h:n<18446744073709551616):n<big:=by
 have:18446744073709551616<big:=by rw[Zwf];decide +kernel
 omega
def Xn(xs a:List Nat):Nat->List Nat × Nat
 | 0=>([],0)
 | i+1 =>
   let p:=Xn xs a i
   let s:=4294967296+xs.getD i 0-a.getD i 0-p.2
   (p.1++[s % 4294967296],1-s / 4294967296)
theorem Mj(xs b:List Nat)(i:Nat):(Xn xs b i).1.length=i:=by
 induction i with
 | zero=>rfl
 | succ i a=>simp[Xn,a]
theorem Qi(xs a:List Nat)(i:Nat):(Xn xs a i).2<=1:=by
 cases i with
 | zero=>simp[Xn]
 | succ i=>simp only[Xn];omega
theorem Qu(xs g:List Nat)(b:Lim xs)(f:Lim g)(ty:Mo g)(h:xs.length<g.length):val xs<val g:=by
 have h1:=Ui xs b;rcases List.eq_nil_or_concat g with rfl | ⟨a,z,rfl⟩
 ·simp at h
 rw[List.concat_eq_append] at *;have h0:=ty a z rfl;simp at h;have c:(4294967296:Nat) ^ xs.length<=4294967296 ^ a.length:=CV AC AA;have d:4294967296 ^ a.length*1<=4294967296 ^ a.length*z:=Ei _ AA;rw[Wf];omega
theorem Zsa(a xs:List Nat)(k x:Nat)(b:a.length=k)(c:xs[k]? = some x):(a++xs.drop k)[k]? = some x:=by
 subst b;rw[BV (AJ _),Nat.sub_self,DY,DO,c]
theorem Km{n:Nat}(h:n<big):Xm n=(limbs n,0):=by simp[Xm,h]
def twP(xs:List Nat)(bit:Nat):Nat->List Nat × Nat
 | 0=>([],bit)
 | k+1 =>
   let p:=twP xs bit k
   let s:=2*xs.getD k 0+p.2
   (p.1++[s % 4294967296],s / 4294967296)
theorem Zye(xs:List Nat)(b k:Nat):(twP xs b k).1.length=k:=by
 induction k with
 | zero=>rfl
 | succ k a=>simp[twP,a]
theorem Ae(xs:List Nat)(b:Nat)(a:b<=1)(c:Lim xs)(k:Nat):(twP xs b k).2<=1:=by
 induction k with
 | zero=>simpa [twP] using a
 | succ k d =>
   have:=c.getD k;simp only[twP];omega
theorem zz_lim(n:Nat):Lim (List.replicate n 0):=λx a=>by
 have:=List.eq_of_mem_replicate a;omega
theorem zz_val(n:Nat):val (List.replicate n 0)=0:=by
 induction n with
 | zero=>rfl
 | succ n a=>simp[List.replicate_succ,val,a]
theorem Zsx:0<big:=by unfold big;generalize 1024=k;exact Nat.two_pow_pos k
theorem non22:Zp (-1)=0:=AC
theorem big_eq2:big=2 ^ (1023+1):=by unfold big;decide +kernel
def Zrx(k:Nat)(a:List Nat):Nat->List Nat
 | 0=>[]
 | i+1=>Zrx k a i++[if k<32*i+32 then a.getD i 0 % 2 ^ (k-32*i) else a.getD i 0]
def oneOf(k:Nat)(a:List Nat):List Nat:=limbs (val a % 2 ^ k)
theorem one_big(k t:Nat)(b:k<=1024):t % 2 ^ k<big:=by
 have h1:=Nat.mod_lt t (Nat.two_pow_pos k);have a:=CV (n:=2) AC (show k<=1023+1 by omega);rw[<-big_eq2] at a;exact AK h1 a
theorem limD{a:List Nat}(h:a.all (λx=>decide (x<4294967296))=true):Lim a:=λx b=>by
 have:=BG.1 h x b;simpa using this
section
open Go.RowKit Go.Shelf
attribute [local go_sem] Oper.semAt_some
theorem values1_none(n:Nat)(l a cap:Nat)(A:Option Addr)(J:List ByteArray->World->Prop)(W:World)(f:W.cell? ⟨a,0,none⟩=some (.slice A 0 cap))(c:J [] W):
 CallsIn Fence.wide n prog 193 #[.func (.yield l) #[] #[],.pointer (some ⟨a,0,none⟩)] W λe b=>(∃v,e = .returned v)/\J [] b:=by
 refine callsIn_of_wp func193 rfl trivial ?_ rfl;simp only[ntmps193,List.size_toArray,AY,DE,Nat.reduceAdd,Nat.reduceSub,Array.replicate_succ,Array.replicate_zero,List.push_toArray,List.append_toArray,DA,DM]
 gi_wp2
 gi_loopw [7] (λi wr=>i = .int .i64 0/\J [] wr) (λ_ _=>0)
 case atStart=>exact⟨rfl,c⟩
 obtain⟨rfl,d⟩:=hrel
 gi_wp2
 go_end0
 exact⟨⟨_,rfl⟩,d⟩
end
section
open Go.RowKit Go.Shelf
attribute [local go_sem] Oper.semAt_some
open Go.RowKit Go.Shelf Go.Sort
theorem Lr{p:Nat->α->Bool}{l:List α}{k:Nat}{x:α}(h:∀j,j<k->∀y,l[j]? = some y->(!p j y)=false)(d:l[k]? = some x)(c:(!p k x)=false):∀j,j<k+1->∀y,l[j]? = some y->(!p j y)=false:=by
 intro j g y a;rcases BD j k with b | f
 ·exact h j b y a
 obtain rfl:j=k:=AA
 rw[d] at a;injection a with a;rw[<-a];exact c
end
section
open Go.RowKit Go.Maps
theorem law3:Keyed prog 3:=int_keyed underlying3
theorem zero3(w:World):(zeroValue 3).run prog w = .ok (.int .i64 0) w:=AB
theorem Zud(L:Int):WideAt.IsKeyLit (.int .i64 L):=trivial
def Blk(w:World)(g:Nat)(t:TypeId)(cs:Array Value):Prop:=w.heap[g]? = some (.cells cs t (0,0))
theorem Blk.set{t:TypeId}(h:Blk w g t cs)(i:Nat)(v:Value):Blk (w.setCell ⟨g,i,none⟩ v) g t (cs.setIfInBounds i v):=by
 unfold Blk at h ⊢;simp[World.setCell,Array.getElem?_modify,h]
theorem Blk.other{t:TypeId}(h:Blk w g t cs)(a i:Nat)(v:Value)(b:g≠a):Blk (w.setCell ⟨a,i,none⟩ v) g t cs:=(Eb w ⟨a,i,none⟩ v g b).trans h
theorem Blk.drew{t:TypeId}(h:Blk w g t cs):Blk w.drew g t cs:=h
def Qk(N:List Bool):List Value:=N.map Value.bool
def Z8(w:World)(g:Nat)(N:List Bool):Prop:=Blk w g 4 (Qk N).toArray
theorem Z8.put(h:Z8 w g N)(i:Nat)(b:Bool):Z8 (w.setCell ⟨g,i,none⟩ (.bool b)) g (N.set i b):=by
 have:=Blk.set h i (.bool b);unfold Z8;rwa [show (Qk (N.set i b)).toArray=(Qk N).toArray.setIfInBounds i (.bool b) by simp[Qk,List.map_set]]
theorem Vy{n:Nat}(a:s<0)(b:-(n:Int)<=s)(c:n<=1000):∃j:Nat,j<n/\Zp s=j/\IntKind.i64.wrap (-1-s)=(j:Int) :=
 ⟨Zp s,by unfold Zp;omega,rfl,by rw[Cc _ AA];unfold Zp;omega⟩
end
def Jz(N:List Bool)(ids:List Int):List Bool:=ids.foldl (λN s=>N.set s.toNat true) N
theorem Zw9(N:List Bool)(l:List Int)(s:Int):Jz N (l++[s])=(Jz N l).set s.toNat true:=by simp[Jz]
theorem LeB.set(a:List Bool)(i:Nat):LeB a (a.set i true):=⟨AE,λj b=>by
 rw[List.getElem?_set];split
 ·rename_i c;subst c;simp[(AO.1 b).1]
 exact b⟩
theorem getD_set_true(h:N.getD i false=true):(N.set j true).getD i false=true:=by
 rw[AP] at h ⊢;cases a:N[i]? with
 | none=>rw[a] at h;simp at h
 | some x =>
   rw[a] at h;simp at h;subst h;have:=(LeB.set N j).2 i a;rw[this];rfl
theorem Zuy(l:List Int)(h:N.getD i false=true):(Jz N l).getD i false=true:=by
 induction l generalizing N with
 | nil=>exact h
 | cons s l a=>exact a (getD_set_true h)
theorem Uh(N:List Bool)(j i:Nat):(N.set j true).getD i false=true↔(N.getD i false=true\/(i=j/\j<N.length)):=by
 rw[AP,AP,List.getElem?_set];by_cases a:j=i
 ·subst a;by_cases b:j<N.length
  ·simp[b]
  simp[b,BE (show N.length<=j by omega)]
 rw[if_neg a];constructor
 ·exact .inl
 rintro (h | ⟨h,_⟩)
 ·exact h
 exact absurd h.symm a
theorem thereOf_set{b:List Bool}(hi:i<b.length):Nm (b.set i true)=Nm b ||| Y6 (i:Int):=by
 apply Nat.eq_of_testBit_eq;intro t;unfold Nm;rw[DS,J3,J3,Uv,List.length_set,Cs];simp only[AU,CJ,decide_eq_true_eq,Uh];constructor
 ·rintro⟨d,a,c | ⟨c,_⟩⟩
  ·exact .inl ⟨d,a,c⟩
  exact .inr ⟨AA,c⟩
 rintro (⟨d,a,c⟩ | ⟨d,a⟩)
 ·exact⟨d,a,.inl c⟩
 exact⟨AA,AA,.inr ⟨a,hi⟩⟩
def Dn(S:List Nat)(use n:Nat)(b:List Bool):List Bool:=match Qx (U2 S use (Nm b)) n with
 | none=>b
 | some i=>b.set i true
theorem Zzg(S:List Nat)(use n:Nat):Qv (Dn S use n):=by
 refine⟨λb=>?_,λb i h=>?_⟩
 ·unfold Dn;split <;> simp
 unfold Dn;split
 ·exact h
 have c:=(AO.1 h).1;rw[List.getElem?_set];split
 ·rename_i a;subst a;simp[c]
 exact h
theorem Zxo:∀(l:List Int) {N:List Bool} {s:Int},s∈l->s.toNat<N.length->(Jz N l).getD s.toNat false=true
 | q::l,N,s,a,hl=>by
   rcases BZ.1 a with rfl | a
   ·exact Zuy l ((Uh N s.toNat s.toNat).2 (.inr ⟨rfl,hl⟩))
   exact Zxo l (N:=N.set q.toNat true) a (by simpa using hl)
theorem Zy9(X:Nat->Prop):∀(ids:List Int),(∀t∈ids,X t.toNat)->∀{N:List Bool},(∀i,N.getD i false=true->X i)->∀i,(Jz N ids).getD i false=true->X i
 | [],_,N,hN,i,h=>hN i h
 | t::ids,hX,N,hN,i,h=>by
   refine Zy9 X ids (λq b=>hX q (BO _ b)) (N:=N.set t.toNat true) (λj a=>?_) i h;rcases (Uh _ _ _).1 a with a | ⟨rfl,_⟩
   ·exact hN j a
   exact hX t (By ..)
theorem mid_set(T:Int->Nat->Nat)(s:Int)(now:Nat->Nat){n M:Nat}(c:M<=n):(Gx T s now n K M).set M (Hw T s now (K+1) M)=Gx T s now n K (M+1):=by
 refine List.ext_getElem? λj=>?_;rw[List.getElem?_set,J2];by_cases b:j<n+1
 ·have e:∀q,(Gx T s now n K q)[j]? = some (if j<q then Hw T s now (K+1) j else Hw T s now K j):=λq=>by
   unfold Gx;rw[BB,List.getElem?_range b];rfl
  rw[e,e];split
  ·rename_i a;subst a;rw[if_pos AA,if_pos AA]
  rename_i a;by_cases h:j<M
  ·rw[if_pos h,if_pos AA]
  rw[if_neg h,if_neg AA]
 have e:∀q,(Gx T s now n K q)[j]? = none:=λq=>BE (by rw[J2];omega);rw[e,e];split
 ·rename_i a;rw[if_neg AA]
 rfl
theorem forR_nil(T:Int->Nat->Nat)(n:Nat):Gs T [] n=(List.replicate (n+1) 0).set 0 1:=by
 refine List.ext_getElem? λj=>?_;rw[List.getElem?_set,Eg,List.getElem?_replicate];unfold Gs;rw[BB];by_cases a:j<n+1
 ·rw[List.getElem?_range a,if_pos a,Ek];unfold Zx;by_cases h0:0=j
  ·subst h0;rw[if_pos rfl,if_pos rfl,if_pos a]
  rw[if_neg h0,if_neg (λh=>h0 h.symm)]
 rw[BE (by simpa using a),if_neg a,if_neg AA];rfl
theorem Zsz(a g n:Nat)(N:List Bool)(s:Int)(W:World)(h:Zwl W a g n N)(o:n<=1000)(h1:-(n:Int)<=s)(p:s<=1000):
 FnGives prog 199 #[.pointer (some ⟨a,0,none⟩)] #[.int .i64 s] (.bool (Xg N s)) W:=by
 show Calls prog 199 #[.int .i64 s,.pointer (some ⟨a,0,none⟩)] W _;obtain⟨q,d⟩:=h;have l:=LH d;clear d;have k:Xg N s=(decide (s<0)&&N.getD (Zp s) false):=rfl;have c:=LH k;clear k;go_enter func199,ntmps199;by_cases h0:s<0
 ·obtain⟨j,m,f,r⟩:=Vy (s:=s) (n:=n) h0 h1 o;have c0:=l j m;rw[<-f] at c0;have hd:decide (s<0)=true:=DW h0;generalize N.getD (Zp s) false=b at *;rw[f] at c0;go_wp2_with fail;go_ret;exact⟨by rw[c,hd];rfl,0,rfl⟩
 have hd:decide (s<0)=false:=BR h0;generalize N.getD (Zp s) false=b at *;go_wp2_with fail;go_ret;exact⟨by rw[c,hd];rfl,0,rfl⟩
theorem Kt{t:TypeId}(a:Blk w g t cs)(b:cs[i]? = some v):w.setCell ⟨g,i,none⟩ v=w:=by
 have e:(w.setCell ⟨g,i,none⟩ v).heap=w.heap:=by
  apply Array.ext_getElem?;intro j;by_cases c:j=g
  ·subst c;have h1:=a.set i v;unfold Blk at h1 a;rw[h1,a];have:cs.setIfInBounds i v=cs:=by
    apply Array.ext_getElem?;intro q;rw[Array.getElem?_setIfInBounds];split
    ·rename_i d;subst d;rw[b];split
     ·rfl
     rename_i f;rw[CZ AA] at b;cases b
    rfl
   rw[this]
  exact Eb w ⟨g,i,none⟩ v j c
 have:w.setCell ⟨g,i,none⟩ v={ w with heap:=(w.setCell ⟨g,i,none⟩ v).heap }:=rfl;rw[this,e]
theorem tab_set{N:Nat}(hi:i<N):((List.range N).map (tab m)).set i x=(List.range N).map (U6 tab m i x m):=by
 refine List.ext_getElem? λj=>?_;rw[List.getElem?_set,BI,List.length_range,BB,BB];by_cases b:j<N
 ·rw[List.getElem?_range b];by_cases a:i=j
  ·subst a;rw[if_pos rfl,if_pos hi];simp[U6]
  rw[if_neg a];show some (tab m j)=some (U6 tab m i x m j);unfold U6;rw[if_neg λh=>a h.2.symm]
 rw[BE (by simpa using b),if_neg AA];rfl
def Cel(S:Nat->Prop)(a:Nat)(X:World)(v:Value)(f:Bool)(j:Value):Prop:=∃(g:Nat) (A:Option Addr) (n c:Nat) (d:Bool),v = .pointer (some ⟨g,0,none⟩)/\a<g/\S g/\Blk X g 168 #[.slice A n c,.bool d]/\(f=true->j = .agg #[.slice A n c,.bool d])
theorem Md(a xs:List Nat)(k s:Nat)(b:a.length=k)(c:k<xs.length):(a++xs.drop k).set k s=(a++[s])++xs.drop (k+1):=by
 subst b;rw[List.set_append_right _ _ (AJ _),Nat.sub_self,Ec c,List.set_cons_zero];simp
theorem val_set(a:List Nat)(j t:Nat)(b:j<a.length):val (a.set j (a.getD j 0+t))=val a+4294967296 ^ j*t:=by
 induction a generalizing j with
 | nil=>simp at b
 | cons q a c =>
   cases j with
   | zero=>simp[val];omega
   | succ j =>
     have:=c j (by simpa using b);simp only[List.set_cons_succ,List.getD_cons_succ,val,this,Nat.pow_succ,DL];rw[<-DU,Ef 4294967296 (4294967296 ^ j)];omega
section
variable {P:Program}
def leftN(n:Nat)(listed:Array Bool):Nat:=((List.range n).filter λi=>!listed.getD i true).length
def Xc(P:Program)(J:Array Bool->Act->World->Prop):Nat->List Oper->Prop
 | _,[]=>True
 | i,o::rest=>(o.guard=none/\∀(Q:Exit->Act->World->Prop) (listed:Array Bool) (a:Act) (w:World),J listed a w->listed.getD i true=false->(∀e∈o.after,Region.binds .any e=true->listed.getD e.on false=true)->
    ∀K:Act->World->Prop,(∀b w',J (listed.setIfInBounds i true) b w'->K b w')->o.wp P a w K Q)/\Xc P J (i+1) rest
end
section
open Go.Maps (Keyed IsMap Tidy)
def Dc(i:Nat):Lit := .int .i64 (i:Int)
theorem nKey_ne(h:i≠j):Dc i≠Dc j:=by
 unfold Dc;intro e;injection e with _ e;exact h AA
theorem Zt4(i:Nat):WideAt.IsKeyLit (Dc i):=by unfold Dc;trivial
theorem key_num(i:Nat)(hi:i<=1000):keyOf prog 3 (.int .i64 (i:Int))=some (Dc i):=Maps.keyOf_int_mk underlying3 (WalkArith.wf_i64 AA)
def Qf(w:World)(g:Nat):Prop:=∀o k z,w.cell? ⟨g,o,none⟩≠some (Value.int k z)
def zeroCells(n:Nat):Array Value:=((List.range n).flatMap λ_=>[Value.slice none 0 0,Value.bool false]).toArray
theorem Cl:∀(n j:Nat),j<n->(zeroCells n)[j*2]? = some (.slice none 0 0)/\(zeroCells n)[j*2+1]? = some (.bool false):=by
 intro n;have a:∀m,((List.range m).flatMap λ_=>[Value.slice none 0 0,Value.bool false]).length=m*2:=by
  intro m
  induction m with
  | zero=>rfl
  | succ m b=>rw[DQ,List.flatMap_append,AV,b];simp;omega
 induction n with
 | zero=>intro j c;omega
 | succ n b =>
   intro j c;unfold zeroCells at b ⊢;simp only[DR] at b ⊢;rw[DQ,List.flatMap_append];rcases (AA:j<n\/j=n) with h | rfl
   ·rw[DB (by rw[a];omega),DB (by rw[a];omega)];exact b j h
   rw[BV (by rw[a];omega),BV (by rw[a];omega),a];simp[Nat.add_sub_cancel_left]
theorem Yg(h:xs[j]? = some x):xs.getD j 0=x:=by simp[h]
theorem K8(h:xs.length<=j):xs.getD j 0=0:=by simp[BE h]
theorem M8(a:List Nat)(k n s:Nat)(b:a.length=k)(c:k<n):(a++List.replicate (n-k) 0).set k s=(a++[s])++List.replicate (n-(k+1)) 0:=by
 subst b;rw[List.set_append_right _ _ (AJ _),Nat.sub_self];have:n-a.length=(n-(a.length+1))+1:=AA
 rw[this,List.replicate_succ,List.set_cons_zero];simp
theorem Ut(xs:List Nat)(h:Zm xs=true):xs.length<=32:=by simp[Zm] at h;omega
def Vn(x:Nat)(ys a:List Nat):Nat->List Nat × Nat
 | 0=>([],0)
 | k+1 =>
   let p:=Vn x ys a k
   let s:=x*ys.getD k 0+a.getD k 0+p.2
   (p.1++[s % 4294967296],s / 4294967296)
theorem M1(x:Nat)(ys b:List Nat)(k:Nat):(Vn x ys b k).1.length=k:=by
 induction k with
 | zero=>rfl
 | succ k a=>simp[Vn,a]
theorem Ag{y z c:Nat}(b:x<4294967296)(d:y<4294967296)(f:z<4294967296)(a:c<4294967296):x*y+z+c<18446744073709551616:=by
 have h1:x*y<=4294967295*4294967295:=Nat.mul_le_mul AA AA;omega
theorem Zy8(x:Nat)(ys a:List Nat)(b:x<4294967296)(c:Lim ys)(d:Lim a)(k:Nat):(Vn x ys a k).2<4294967296:=by
 induction k with
 | zero=>simp[Vn]
 | succ k f =>
   have:=Ag b (c.getD k) (d.getD k) f;simp only[Vn];omega
theorem Ns(a:List Nat)(j:Nat)(h:∀i,j<=i->a.getD i 0=0):val (a.drop j)=0:=by
 induction a generalizing j with
 | nil=>simp[val]
 | cons b t c =>
   cases j with
   | zero =>
     have h0:=h 0 (AJ _);simp at h0;have:=c 0 (λi _=>by have:=h (i+1) AA;simpa using this);simp[val,h0] at this ⊢;omega
   | succ j =>
     simpa using c j (λi hi=>by have:=h (i+1) AA;simpa using this)
def kT(s:Int)(n:Nat):Value := .agg #[.int .i64 s,.int .i64 (n:Int)]
def kF(i d n:Nat):Value := .agg #[.int .i64 (i:Int),.int .i64 (d:Int),.int .i64 (n:Int)]
theorem kT_inj{b:Int}{n a:Nat}(h:kT s n=kT b a):s=b/\n=a:=by
 unfold kT at h;simp at h;exact⟨h.1,AA⟩
theorem kF_inj{n a c:Nat}(h:kF i d n=kF b a c):i=b/\d=a/\n=c:=by
 unfold kF at h;simp at h;omega
theorem Zxw{e n c t:Nat}{xs:List Value}(h:w.ownsRow base e size (.slice A n c) n xs)(d:(Value.slice A n c).ownBlock=some b)(a:Blk w g t cs)(f:t≠e):b≠g:=by
 rintro rfl;obtain⟨j,k,h1⟩:=Mg h d;unfold Blk at a;rw[h1] at a;injection a with a;injection a with _ h3 _;exact f h3.symm
end
section
open Go.Maps (Keyed IsMap Tidy)
variable {P:Program} {k:TypeId}
def litK(P:Program)(k:TypeId)(v:Value):Lit:=(keyOf P k v).getD (.bool false)
def U4(P:Program)(k:TypeId)(v:Value):Prop:=∃l,keyOf P k v=some l
theorem U4.lit(h:U4 P k v):keyOf P k v=some (litK P k v):=by
 obtain⟨l,h⟩:=h;unfold litK;rw[h];rfl
theorem Ztc(K:Keyed P k){u:Value}(a:U4 P k u)(b:U4 P k v)(h:u≠v):litK P k u≠litK P k v:=λe=>h (K.inj a.lit (by rw[e];exact b.lit))
end
section
open Go.Maps (Keyed IsMap Tidy)
open Go.Maps (Keyed IsMap Tidy)
def codeT:Value->Nat
 | .agg cs=>Zp (intOf (cs.getD 0 undef))*1000+(intOf (cs.getD 1 undef)).toNat
 | _=>0
def codeF:Value->Nat
 | .agg cs=>(intOf (cs.getD 0 undef)).toNat*1000000+(intOf (cs.getD 1 undef)).toNat*1000+(intOf (cs.getD 2 undef)).toNat
 | _=>0
theorem Zx1(s:Int)(n:Nat):codeT (kT s n)=Zp s*1000+n:=rfl
theorem Zy2(i d n:Nat):codeF (kF i d n)=i*1000000+d*1000+n:=rfl
structure CH where
 c:Nat
 n:Nat
 t:Nat
 f:Nat
def CH.maps(k:CH):Nat->Prop:=λb=>b=k.t\/b=k.f
end
section
variable {P:Program} {M:World->Prop} {R:World->World->Prop}
def atL(ds:List (Value->World->Prop))(i:Nat)(v:Value)(X:World):Prop:=(ds.getD i λ_ _=>True) v X
end
section
open Ieee
open Go.Maps (Keyed IsMap Tidy)
theorem forest_by_split(T:Int->Nat->Nat)(s:Int)(l:List Int)(n:Nat):Zx T (s::l) n=Jt T s l n 0 (n+1):=by
 simp only[Jt,BF];rfl
theorem N7(T:Int->Nat->Nat)(s:Int)(n:Nat):Zx T [s] n=T s n:=by
 have h0:∀d,d<=n->Jt T s [] n 0 d=0:=by
  intro d
  induction d with
  | zero=>intro _;rfl
  | succ d a =>
    intro hd;rw[Gm,a AA,BF];have h1:Zx T [] (n-(0+d))=0:=by unfold Zx;rw[if_neg AA]
    rw[h1,Nat.mul_zero]
 rw[forest_by_split,Gm,h0 n (AJ _),BF,BF,Nat.sub_self];show T s n*(if 0=0 then 1 else 0)=_;rw[if_pos rfl,Ej]
theorem F8(x:Nat):(x<big/\Xm x=(limbs x,0))\/(¬x<big/\Xm x=([],2)):=by
 by_cases h:x<big
 ·exact .inl ⟨h,by unfold Xm;rw[if_pos h]⟩
 exact .inr ⟨h,by unfold Xm;rw[if_neg h]⟩
end
theorem fsingle(T:Int->Nat->Nat)(s:Int)(n:Nat):Zx T [s] n=T s n:=N7 T s n
section
open Go.RowKit Go.Shelf
attribute [local go_sem] Oper.semAt_some
open Go.RowKit Go.Shelf
open Go.RowKit Go.Shelf
attribute [local go_sem] Oper.semAt_some
theorem ahead24(h0:T (-1) 0=0)(h1:T (-1) 1=1)(a:T (-1) 2=1)(b:T (-1) 3=2)(c:T 0=K0):
 Yv T (-1) [-1] 4 3=3/\Yv T (-1) [-1] 4 1=0/\Zx T [-1] 1=1/\Yv T (-1) [] 3 3=0:=by
 refine⟨?_,?_,?_,?_⟩;all_goals simp[Yv,Zx,Vi,List.range,List.range.loop,h0,h1,a,b]
end
section
open Go.ChangeShapes Go.WideShapes Go.ChangeAt Go.RowKit
def Nj(k:IntKind)(w:World)(a:Option Addr)(len cap:Nat)(b:List Int):Prop :=
 (a=none/\len=0/\cap=0/\b=[]) \/
 ∃x,a=some x/\len<=cap/\cap<=maxLen/\b.length=cap/\(∀i,i<b.length->w.cell? (x.add i)=some (.int k (b.getD i 0)))/\∀n∈b,(Lit.int k n).wf=true
end
