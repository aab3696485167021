/- Words for slices that read as lists: no program in sight. -/
import Derived.Test.YtggbjdmpjidhgaaGreatDoorV01
import Derived.Test.YtggbjdmpjidhgaaGreatDoorV02
import Derived.Test.YtggbjdmpjidhgaaGreatDoorV03
import Derived.Test.YtggbjdmpjidhgaaGreatDoorV04
set_option linter.all false
set_option maxHeartbeats 1500000
set_option maxRecDepth 100000
namespace Go.Proofs.YtggbjdmpjidhgaaGreatDoor
open Go.RowKit Go.Proofs.Tryz
variable{t:TypeId}{r:Rul}{ts:List Trm}{j base n c i g q:Nat}{A:Option Addr}{o xs:List Nat}{s non:Int}{a:WSt}{N:List Bool}{ops:Array Oper}{rest l:List Oper}{Q:Exit->Act->World->Prop}{cs:Array Value}{w':World}{listed:Array Bool}
theorem foldl_lt(l:List Int)(s:Nat)(a:s<4294967296):l.foldl (λs n=>s ||| Y6 n) s<4294967296:=by
 induction l generalizing s with
 | nil=>exact a
 | cons n l b=>exact b _ (Ct a (Ua n))
theorem ofN_lt(l:List Int):ofN l<4294967296:=foldl_lt l 0 AC
theorem mems_step(s:Nat)(a:s≠0)(g:s<4294967296):Wy s=Lib.ctz 32 s::Wy (s &&& (s-1)):=by
 obtain⟨f,b,c,d,_⟩:=Zt1 s a g;unfold Wy;rw[filter_range_split (λi=>s.testBit i) (Lib.ctz 32 s) 32 f b c];congr 1;apply List.filter_congr;intro i _;rw[d]
theorem tz32(s:Nat)(w:World)(a:s≠0)(d:s<4294967296)(f:Q2 w):
 Calls prog 196 #[.int .u32 (s:Int)] w λe w'=>e = .returned (.int .i64 ((Lib.ctz 32 s:Nat):Int))/\w=w':=by
 obtain⟨g,c⟩:=Lib.lowest_bit 32 s a d;obtain⟨hi,h⟩:=Lib.deBruijn32_at _ c;have b:=f _ hi;rw[h] at b;exact tz32_core s _ _ w AG (tz32_key s _ d a g) hi c b
theorem K6(c:Nat)(w:World)(d:c<256):
 Calls prog 173 #[.int .u8 (c:Int)] w λe w'=>e = .returned (.bool (Xf c))/\w=w':=by
 have b:c<65\/(65<=c/\c<=90)\/(90<c/\c<95)\/c=95\/(95<c/\c<97)\/(97<=c/\c<=122)\/122<c:=AA
 rcases b with g0 | ⟨g0,a⟩ | ⟨g0,a⟩ | g0 | ⟨g0,a⟩ | ⟨g0,a⟩ | g0;all_goals
  go_enter func173,ntmps173;go_wp2;all_goals
   go_ret;refine⟨Jf ?_,rfl⟩;unfold Xf;rw[BZ];simp only[CJ,AR,BP,BN,ne_eq,Bool.not_eq_true',decide_eq_true_eq,AY,Bool.false_eq_true,true_iff,false_iff,iff_true,iff_false];omega
theorem Zy7(c:Nat)(w:World)(j:c<256):
 Calls prog 174 #[.int .u8 (c:Int)] w λe w'=>e = .returned (.bool (Wa c))/\w=w':=by
 have a:=K6 c w j;cases b:Xf c;all_goals
  rw[b] at a;have d:=LH a;have f:=LH b;have k:(c<46/\((c:Int)==46)=false)\/((c:Int)==46)=true\/(46<c/\c<48/\((c:Int)==46)=false)\/(48<=c/\c<=57/\((c:Int)==46)=false)\/(57<c/\((c:Int)==46)=false):=by
   simp only[BP,AP,ne_eq];omega
  rcases k with ⟨g,g0⟩ | g0 | ⟨g,h,g0⟩ | ⟨g,h,g0⟩ | ⟨g,g0⟩;all_goals
   go_enter func174,ntmps174;go_wp2_with (go_at_call 173;refine d.out.mono ?_;rintro e w'⟨rfl,rfl⟩);all_goals
    go_ret;refine⟨Jf ?_,rfl⟩;unfold Wa;rw[f];try simp only[BP,AP,ne_eq] at g0
    try simp only[Bool.true_or,Bool.false_or]
    all_goals first
    | rfl
    | (rw[BZ];simp only[CJ,AR,BP,BN,ne_eq,Bool.not_eq_true',decide_eq_true_eq,AY,Bool.false_eq_true,true_iff,false_iff,iff_true,iff_false];omega)
theorem Zx8(s:ByteArray)(w:World):Calls prog 119 #[.string s] w λe w'=>e = .returned (.bool (Xi (Zh s)))/\w=w':=by
 have f:=Qh s;by_cases t:s.size=0
 ·have a:Xi (Zh s)=false:=by simp[Xi,f,t]
  rw[a];have B:((s.size:Int)==0)=true:=by rw[BP];omega
  clear a f;go_enter func119,ntmps119;go_wp2;go_ret;exact⟨rfl,rfl⟩
 have g:0<s.size:=AA
 have B:((s.size:Int)==0)=false:=by rw[AP];omega
 have C:=LH t;clear t;by_cases m:s.size<=20
 case neg =>
  have a:Xi (Zh s)=false:=by simp[Xi,f,m]
  rw[a];have D:(20:Int)<(s.size:Int):=AA
  clear a f m;go_enter func119,ntmps119;go_wp2;go_ret;exact⟨rfl,rfl⟩
 have F:¬(20:Int)<(s.size:Int):=AA
 have q:Hid (∀k (h:k<s.size),(Zh s).getD k 0=(s[k]'h).toNat):=LH λk h=>Yn (J0 s k h);have l:=LH f;have c:=K6 (s[0]'g).toNat w ((s[0]'g).toNat_lt);have A:=LH m;clear f m;cases b:Xf (s[0]'g).toNat
 ·have a:Xi (Zh s)=false:=by unfold Xi;rw[q 0 g,b];simp
  rw[a];rw[b] at c;have o:=LH c;clear a c b;go_enter func119,ntmps119;go_wp2_with (go_at_call 173;refine o.out.mono ?_;rintro e w'⟨rfl,rfl⟩);go_ret;exact⟨rfl,rfl⟩
 rw[b] at c;have o:=LH c;have y:Hid (Xf ((Zh s).getD 0 0)=true):=LH (by rw[q 0 g];exact b);clear c b;go_enter func119,ntmps119;go_wp2_with (go_at_call 173;refine o.out.mono ?_;rintro e w'⟨rfl,rfl⟩);go_loop [3] (λi=>∃k:Nat,k<=s.size/\i = .int .i64 (k:Int)/\∀j,j<k->Wa ((Zh s).getD j 0)=true) (λi=>s.size-(intOf i).toNat)
 case atStart=>exact⟨0,AU _,rfl,λj u=>AA⟩
 obtain⟨k,E,rfl,x⟩:=hrel;have v:=LH x;clear x;by_cases b:k<s.size
 ·have d:=Zy7 (s[k]'b).toNat w ((s[k]'b).toNat_lt);have n:=q k b;cases hd:Wa (s[k]'b).toNat
  ·have a:Xi (Zh s)=false:=Zsv k (by rw[l];exact b) (by rw[n];exact hd);have p:=LH a;rw[hd] at d;have r:=LH d;clear d hd n a;go_wp2_with (go_at_call 174;refine r.out.mono ?_;rintro e w'⟨rfl,rfl⟩);go_ret;exact⟨by rw[p];rfl,rfl⟩
  rw[hd] at d;have r:=LH d;have z:Hid (Wa ((Zh s).getD k 0)=true):=LH (by rw[n];exact hd);clear d hd n;go_wp2_with (go_at_call 174;refine r.out.mono ?_;rintro e w'⟨rfl,rfl⟩);go_round
  case rel =>
   refine⟨k+1,AA,AF,λj u=>?_⟩;rcases BD j k with h | h
   ·exact v j h
   obtain rfl:j=k:=AA
   exact z
  simp[intOf];omega
 have a:Xi (Zh s)=true:=Zuu (by rw[l];omega) (by rw[l];exact A) y (λj u=>v j (by rw[l] at u;omega));have p:=LH a;clear a;go_wp2;go_ret;exact⟨by rw[p];rfl,rfl⟩
theorem Gb(s:ByteArray)(w:World):
 Calls prog 172 #[.string s] w λe w'=>e = .returned (.bool (H5 (Zh s)))/\w=w':=by
 have n:=Qh s;have c:Hid (∀k (h:k<s.size),(Zh s).getD k 0=(s[k]'h).toNat):=LH λk h=>Yn (J0 s k h);have d:Hid (H5 (Zh s)=((decide (s.size=3)&&decide ((Zh s).getD 0 0=39)&&decide ((Zh s).getD 2 0=39)&&Mt ((Zh s).getD 1 0)) ||
  (decide (s.size=4)&&decide ((Zh s).getD 0 0=39)&&decide ((Zh s).getD 3 0=39)&&decide ((Zh s).getD 1 0=92)&&Q1 ((Zh s).getD 2 0)))):=LH (by unfold H5;rw[n])
 by_cases f:s.size=3
 ·have p:((s.size:Int)==3)=true:=by rw[BP];omega
  have g:0<s.size:=AA
  have a:1<s.size:=AA
  have b:2<s.size:=AA
  have l:Hid (H5 (Zh s)=(decide ((s[0]'g).toNat=39)&&decide ((s[2]'b).toNat=39)&&decide (32<=(s[1]'a).toNat/\(s[1]'a).toNat<=126/\(s[1]'a).toNat≠39/\(s[1]'a).toNat≠92))):=LH (by
   rw[d,c 0 g,c 1 a,c 2 b,f];simp[Mt])
  go_enter func172,ntmps172;go_wp2;all_goals
   go_ret;refine⟨Jf ?_,rfl⟩;rw[l];rw[BZ];simp only[CJ,AR,BP,BN,ne_eq,Bool.not_eq_true',decide_eq_true_eq,AY,Bool.false_eq_true,true_iff,false_iff,iff_true,iff_false];omega
 have p:((s.size:Int)==3)=false:=by rw[AP];omega
 by_cases j:s.size=4
 ·have q:((s.size:Int)==4)=true:=by rw[BP];omega
  have g:0<s.size:=AA
  have a:1<s.size:=AA
  have b:2<s.size:=AA
  have o:3<s.size:=AA
  have l:Hid (H5 (Zh s)=(decide ((s[0]'g).toNat=39)&&decide ((s[3]'o).toNat=39)&&decide ((s[1]'a).toNat=92)&&decide ((s[2]'b).toNat=110\/(s[2]'b).toNat=116\/(s[2]'b).toNat=92\/(s[2]'b).toNat=39))):=LH (by
   rw[d,c 0 g,c 1 a,c 2 b,c 3 o,j];simp[Q1])
  go_enter func172,ntmps172;go_wp2;all_goals
   go_ret;refine⟨Jf ?_,rfl⟩;rw[l];rw[BZ];simp only[CJ,AR,BP,BN,ne_eq,Bool.not_eq_true',decide_eq_true_eq,AY,Bool.false_eq_true,true_iff,false_iff,iff_true,iff_false];omega
 have q:((s.size:Int)==4)=false:=by rw[AP];omega
 have m:H5 (Zh s)=false:=by rw[d];simp[f,j]
 rw[m];go_enter func172,ntmps172;go_wp2;go_ret;exact⟨rfl,rfl⟩
theorem Gr.fits{G:Gr}(h:G.right=true):G.Fits:=by
 unfold Gr.right Gr.termsOK Gr.nonsOK at h;simp only[AR,decide_eq_true_eq] at h;obtain⟨⟨⟨⟨⟨c,_⟩,d,_⟩,f⟩,g⟩,j⟩:=h;obtain⟨_,b⟩:=G.lefts_all _ _ _ j;refine⟨c,d,f,g,λr a=>⟨(b r a).1,by have:=(b r a).2.1;omega⟩,λr a=>?_,λr a s k=>?_⟩
 ·have:=(b r a).2.2;unfold Gr.ruleOK at this;simp at this;exact this.1.1
 have:=(b r a).2.2;unfold Gr.ruleOK at this;simp only[AR,BG] at this;have:=this.2 s k;unfold Gr.symOK Gr.has at this;rw[AR] at this;have:=this.1;split at this <;> simp at this <;> omega
theorem N2(p:Rul->List Bool->Bool)(r:Rul):Qv (Qa p r):=by
 refine⟨λb=>by unfold Qa;split <;> simp,λb i h=>?_⟩;unfold Qa;split
 ·rw[List.getElem?_set];split
  ·rename_i a;subst a;simp[(AN.1 h).1]
  exact h
 exact h
theorem F4{S:Nat}{F:List Nat}{t:Nat}:(joinS S F).testBit t=true↔∃k,k<F.length/\S.testBit k=true/\(F.getD k 0).testBit t=true:=by
 rw[Zvn,Er];constructor
 ·rintro⟨k,a,h⟩;rw[AR] at h;exact⟨k,BQ.1 a,h.1,h.2⟩
 rintro⟨k,a,b,c⟩;exact⟨k,BQ.2 a,by rw[b,c];rfl⟩
theorem Gd{S:List Nat}(X:Nat->Prop)(a:∀k,k<S.length->X k->∀t,(S.getD k 0).testBit t=true->X t)(c:∀i t,(S.getD i 0).testBit t=true->t<S.length):
 ∀(m:Nat) {i t:Nat},i<S.length->(∀t,(S.getD i 0).testBit t=true->X t)->((Z3 (Ja S) m S).getD i 0).testBit t=true->X t
 | 0,i,t,hi,h0,h=>h0 t h
 | m+1,i,t,hi,h0,h=>by
   rw[Z3,Lz _ _ (by rw[U0];exact hi),DZ,CJ] at h;rcases h with h | h
   ·exact Gd X a c m hi h0 h
   obtain⟨k,b,d,f⟩:=F4.1 h;rw[U0] at b;exact Gd X a c m b (a k b (h0 k d)) f
theorem Gr.Fits.symB{G:Gr}(F:G.Fits)(a:r∈G.rules):∀s∈r.right,-(G.nons.length:Int)<=s/\s<=1000:=λs b=>by
 have:=F.sym r a s b;have:=F.n1;omega
def Bd(r:Rul)(N:List Bool):List Int:=if Xj false N r.right then [r.left] else []
def Bn(r:Rul)(N:List Bool):List Int:=if Xj true N r.right then [r.left] else []
theorem Jg(f:Nat->Bool):∀n,Jb f n<4294967296
 | 0=>by simp[Jb]
 | n+1=>by
   rw[Mp];split
   ·exact Ct (Jg f n) (Ua _)
   exact Jg f n
theorem Zzl(S:List Nat):∀(p:Nat) {i t:Nat},i<S.length->((Z3 (Ja S) p S).getD i 0).testBit t=true->((Z3 (fwI S.length S.length) p S).getD i 0).testBit t=true
 | 0,i,t,hi,h=>h
 | p+1,i,t,hi,h=>by
   rw[Z3,Lz _ _ (by rw[U0];exact hi),DZ,CJ] at h;rw[Z3];rcases h with h | h
   ·exact Zwj _ _ (Zzl S p hi h) _
   obtain⟨k,a,b,c⟩:=F4.1 h;rw[U0] at a;exact fwI_low _ _ a (Zvm _ _ S b p) (Zzl S p a c) _ hi (by rw[K5];exact hi)
theorem moreN_le(S:List Nat)(l:List Nat)(R:Nat):R<=Qd S R l:=Zyd λt h=>by rw[Ma,h];rfl
def Dn(S:List Nat)(use n:Nat)(b:List Bool):List Bool:=match Qx (U2 S use (Nm b)) n with
 | none=>b
 | some i=>b.set i true
theorem Zzg(S:List Nat)(use n:Nat):Qv (Dn S use n):=by
 refine⟨λb=>?_,λb i h=>?_⟩
 ·unfold Dn;split <;> simp
 unfold Dn;split
 ·exact h
 have c:=(AN.1 h).1;rw[List.getElem?_set];split
 ·rename_i a;subst a;simp[c]
 exact h
theorem Zse{t:Trm}(h:ts[j]? = some t):(V8 ts)[j*3+0]? = some (.string t.name)/\(V8 ts)[j*3+1]? = some (.int .i64 t.level)/\(V8 ts)[j*3+2]? = some (.int .i64 t.assoc):=by
 induction ts generalizing j with
 | nil=>simp at h
 | cons u ts d =>
   rw[show V8 (u::ts)=[.string u.name,.int .i64 u.level,.int .i64 u.assoc]++V8 ts from rfl];cases j with
   | zero=>simp at h;subst h;exact⟨rfl,rfl,rfl⟩
   | succ j =>
     simp at h;obtain⟨a,b,c⟩:=d h;have e:∀i,(j+1)*3+i=1*3+(j*3+i):=λi=>AA
     exact⟨by rw[e,Y7 rfl];exact a,by rw[e,Y7 rfl];exact b,by rw[e,Y7 rfl];exact c⟩
theorem Cr{w:World}{e:Nat}(h:w.ownsRow base e 3 (.slice A n c) n (V8 ts)):N8 w A n c ts:=by
 have f:ts.length=n:=by have:=h.1;rw[Ff] at this;omega
 rcases h.2 with ⟨l,rfl⟩ | ⟨g,cap,s,l,u,m,r,p,v,z⟩
 ·injection l with a d h3;subst a;subst h3;exact⟨f,AI _,AA,λb=>absurd b AA⟩
 injection l with a d h3;subst a;subst h3;have k:g<w.heap.size:=by
  rcases BD g w with k | q
  ·exact k
  rw[CX q] at m;cases m
 refine⟨f,r,by simpa [maxLen] using p,λy=>⟨g,0,rfl,k,λj t o=>?_⟩⟩;have x:j<n:=by rw[<-f];exact (AN.1 o).1
 obtain⟨b,a,d⟩:=Zse o;refine⟨?_,?_,?_⟩
 ·rw[BH,h.cellAt (j*3) AA];exact b
 ·rw[BH,h.cellAt (j*3+1) AA];exact a
 rw[BH,h.cellAt (j*3+2) AA];exact d
def Wu(a:List Rul):List Nat:=a.foldl (λo r=>N3 o r.left.toNat) []
theorem Vs(a:List Rul)(r:Rul):Wu (a++[r])=N3 (Wu a) r.left.toNat:=by simp[Wu]
theorem Ka{b:List Rul}:i∈Wu b↔∃r∈b,r.left.toNat=i:=by
 induction b using K3 with
 | h0=>simp[Wu]
 | h1 b r c =>
   rw[Vs];unfold N3;simp only[DH,BV];split
   ·rename_i h;rw[c];constructor
    ·rintro⟨q,a,rfl⟩;exact⟨q,.inl a,rfl⟩
    rintro⟨q,a | rfl,rfl⟩
    ·exact⟨q,a,rfl⟩
    exact c.1 h
   rw[DH,c,BV];constructor
   ·rintro (⟨q,a,rfl⟩ | rfl)
    ·exact⟨q,.inl a,rfl⟩
    exact⟨r,.inr rfl,rfl⟩
   rintro⟨q,a | rfl,rfl⟩
   ·exact .inl ⟨q,a,rfl⟩
   exact .inr rfl
theorem Nh(a:List Rul):(Wu a).Nodup:=by
 induction a using K3 with
 | h0=>simp[Wu]
 | h1 a r b=>rw[Vs];exact putO_nodup b _
def Ky(P Q:List Bool)(r:Rul):Bool:=Q.getD r.left.toNat false&&Xj true P r.right
def Xd(o:List Nat)(s:Int):Int:=if s<0 then -1-toI o (Zp s) else s
theorem Mk(s:Int)(h:s<0->Zp s∈o):Xd o s<0↔s<0:=by
 unfold Xd;split
 ·rename_i h0;have:=h h0;have b:¬toI o (Zp s)<0:=λa=>Bx.1 a this;omega
 rfl
theorem G8(h0:s<0)(h:Zp s∈o):(Zp (Xd o s):Int)=toI o (Zp s):=by
 have b:¬toI o (Zp s)<0:=λa=>Bx.1 a h;show (((-1-Xd o s).toNat:Nat):Int)=_;unfold Xd;rw[if_pos h0];omega
theorem terms_same{G H:Gr}(h:H.terms=G.terms):H.termsOK=G.termsOK:=by
 unfold Gr.termsOK;have:H.termOK=G.termOK:=by
  funext i t;unfold Gr.termOK Gr.term;rw[h]
 rw[this,h]
theorem toI_part{b a:List Rul}(h:i∈Wu b):toI (Wu (b++a)) i=toI (Wu b) i:=by
 induction a using K3 with
 | h0=>rw[DK]
 | h1 a q c =>
   rw[<-DQ,Vs];unfold N3;split
   ·exact c
   rename_i g;rw[Zx2 _ (λd=>g (by rw[<-d];rw[Ka] at h ⊢;obtain⟨r,j,f⟩:=h;exact⟨r,List.mem_append_left _ j,f⟩)),c]
theorem thereL_bit:∀(l:List Nat) (t:Nat),(∀i∈l,i<32)->((My l).testBit t=true↔t∈l):=by
 intro l
 induction l using K3 with
 | h0=>intro t _;simp[My]
 | h1 l i b =>
   intro t h;rw[Zzd,DZ,CJ,b t λj a=>h j (List.mem_append_left _ a),Uv,DH,BV];have:=h i AE;simp[this]
theorem mid_get(T:Int->Nat->Nat)(s:Int)(now:Nat->Nat){K M:Nat}(a:M<=n):(Gx T s now n K M).getD M 0=Hw T s now K M:=by
 unfold Gx;rw[AO,BA,List.getElem?_range AA,Ek,Option.getD_some,if_neg AA]
theorem Zy6(T:Int->Nat->Nat)(l:List Int){m:Nat}(h:m<=n):(Gs T l n).getD m 0=Zx T l m:=by
 unfold Gs;rw[AO,BA,List.getElem?_range AA];rfl
theorem toL_set(hi:i∉o):(toL n o).set i (o.length:Int)=toL n (o++[i]):=by
 refine List.ext_getElem? λj=>?_;rw[List.getElem?_set];by_cases b:j<n
 ·rw[Ji b,Cd,Ji b];split
  ·rename_i a;subst a;rw[if_pos b,Zsp hi]
  rename_i a;rw[Zx2 o (λh=>a h.symm)]
 have c:(toL n o)[j]? = none:=BE (by rw[Cd];omega);have d:(toL n (o++[i]))[j]? = none:=BE (by rw[Cd];omega);rw[c,d,Cd];split
 ·rename_i a;rw[if_neg AA]
 rfl
theorem D4{w:World}(h:N8 w A n c ts):(A=none->n=0)/\∀f,A=some f->∀j u,(V8 ts)[j]? = some u->w.cell? (f.add j)=some u:=by
 constructor
 ·intro h0;rcases DM n with h1 | h1
  ·exact h1
  obtain⟨b,g,d,_⟩:=h.2.2.2 h1;rw[h0] at d;cases d
 intro f p j u a;have s:=(AN.1 a).1;rw[Ff,h.1] at s;obtain⟨b,g,d,_,r⟩:=h.2.2.2 AA;rw[p] at d;injection d with d;subst d;have k:ts[j / 3]? = some (ts[j / 3]'(by rw[h.1];omega)):=AM _;obtain⟨c0,c1,c2⟩:=r _ _ k;obtain⟨l,m,o⟩:=Zse k;have q:(⟨b,g,none⟩:Addr).add j=⟨b,g+j,none⟩:=by
  unfold Addr.add;split
  ·rename_i h0;subst h0;rfl
  rfl
 rw[q];rcases (AA:j=j / 3*3+0\/j=j / 3*3+1\/j=j / 3*3+2) with e | e | e
 ·rw[e] at a;rw[l] at a;rw[<-BI a,<-c0];congr 2;omega
 ·rw[e] at a;rw[m] at a;rw[<-BI a,<-c1];congr 2;omega
 rw[e] at a;rw[o] at a;rw[<-BI a,<-c2];congr 2;omega
theorem nums_zeros(n:Nat):nums .i64 (List.replicate n 0)=ints .i64 (List.replicate n 0):=by simp[nums,ints]
theorem make_intsT(n:Nat)(a:n<=1000)(w:World):
 (Instr.makeSlice 27 (.int .i64 (n:Int)) (.int .i64 (n:Int))).run prog w = .ok (.slice (some ⟨w,0,none⟩) n n) (w.alloc (.cells (ints .i64 (List.replicate n 0)).toArray 3)):=by
 rw[<-nums_zeros];exact Wm (P:=prog) 27 3 .i64 8 underlying27 Tryz.infoInt n AA AA w
theorem mems_get{R p:Nat}(h:(Z6 (Wy R))[p]? = some s):∃k:Nat,s=(k:Int)/\(Wy R)[p]? = some k:=by
 unfold Z6 at h;rw[BA] at h;cases a:(Wy R)[p]? with
 | none=>rw[a] at h;cases h
 | some k=>rw[a] at h;exact⟨k,by injection h with h;exact h.symm,rfl⟩
theorem Zsz(a g n:Nat)(N:List Bool)(s:Int)(W:World)(h:Zwl W a g n N)(o:n<=1000)(h1:-(n:Int)<=s)(p:s<=1000):
 FnGives prog 147 #[.pointer (some ⟨a,0,none⟩)] #[.int .i64 s] (.bool (Xg N s)) W:=by
 show Calls prog 147 #[.int .i64 s,.pointer (some ⟨a,0,none⟩)] W _;obtain⟨q,d⟩:=h;have l:=LH d;clear d;have k:Xg N s=(decide (s<0)&&N.getD (Zp s) false):=rfl;have c:=LH k;clear k;go_enter func147,ntmps147;by_cases h0:s<0
 ·obtain⟨j,m,f,r⟩:=Vy (s:=s) (n:=n) h0 h1 o;have c0:=l.out j m;rw[<-f] at c0;have hd:decide (s<0)=true:=DY h0;generalize N.getD (Zp s) false=b at *;rw[f] at c0;go_wp2_with fail;go_ret;exact⟨by rw[c.out,hd];rfl,0,rfl⟩
 have hd:decide (s<0)=false:=BR h0;generalize N.getD (Zp s) false=b at *;go_wp2_with fail;go_ret;exact⟨by rw[c.out,hd];rfl,0,rfl⟩
open Go.Lib Go.Sort in
theorem over_bare{w:World}{a:Nat}(h:Zwl w a g n N)(l:a<w.heap.size)(d:g<w.heap.size)(j:n<=1000){b:Nat}(c size:Nat)(m:a≠b)(f:g≠b):
 PredOver prog 147 #[.pointer (some ⟨a,0,none⟩)] (encB n) (λs=>Xg N s.1) b c size w :=
 λk os o x _=>Zsz a g n N x.1 _ ⟨by
  unfold sortWorld
  rw[cell?_grow _ _ _ (by show a<(putRow _ _ _ _ _).heap.size;rw[size_putRow];exact l),cell?_putRow_other _ _ b c _ _ (Or.inl m)]
  exact h.1,λi hi=>by
  unfold sortWorld;rw[cell?_grow _ _ _ (by show g<(putRow _ _ _ _ _).heap.size;rw[size_putRow];exact d),cell?_putRow_other _ _ b c _ _ (Or.inl f)];exact h.2 i hi⟩ j x.2.1 x.2.2
def InG(G:Gr)(l:List Int):Prop:=∀s∈l,s<0->Zp s<G.nons.length
theorem InG.rule{G:Gr}(a:G.Fits){x:Rul}(c:x∈G.rules):InG G x.right:=λq b h0=>by
 have:=a.sym x c q b;unfold Zp;omega
theorem bare_map(N:List Bool)(ds:List (Sb n)):(ds.filter λx=>!Xg N x.1).map (λs=>s.1)=Vo N (ds.map λs=>s.1):=by
 unfold Vo;rw[List.filter_map];rfl
structure Zz5 (w:World) (B:Nat) (A:Option Addr) (n c:Nat) (vs:List Value) (xss:List (List Nat)):Prop where
 own:w.ownsRow B 31 1 (.slice A n c) n vs
 noInt:∀g,(Value.slice A n c).ownBlock=some g->Qf w g
 len:xss.length=n
 row:∀(j:Nat) xs,xss[j]? = some xs->∃Aj cj,vs[j]? = some (.slice Aj xs.length cj)/\Zq .u32 w Aj xs.length cj xs
def badU(G:Gr)(n:Int)(a:List Nat):Prop:=G.right=false\/n<0\/10<n\/Zm a=false
section
variable {P:Program} {w:World}
theorem Zxz{o:Oper}{a:Act}(S:o.guard=none)(s x:Operand)(t:TypeId)(W:o.op = .call { callee := .builtin .append,args:=#[s,x],argTypes:=#[t,t] })(base:Nat)(e:TypeId)(z:Value)(bytes:Nat)(E:P.underlying t=some (.slice e))(hi:(P.info? e).map (λi=>(i.zero,i.size,i.bytes))=some (some z,1,bytes))(ae:z.cells.size=1)(A:Option Addr)(n c:Nat)(xs:List Value)(Y:a.eval s = .slice A n c)(B:w.ownsRow base e 1 (.slice A n c) n xs)(q:Option Addr)(m c2:Nat)(d:List Value)(hx:a.eval x = .slice q m c2)(k:Sl w q m c2 d)(G:∀u∈d,u.oneCell'=true)(I:n+m<=9223372036854775807)(N:(n+m)*bytes<=140737488355328)(L:base<=w.heap.size)(h:∀p r w',w'.ownsRow base e 1 (.slice p (n+m) r) (n+m) (xs++d)->w.grownBy w' (Value.slice A n c).ownBlock->
   wpList P ops Q rest (a.put o.dst (.slice p (n+m) r)) w'):wpList P ops Q (o::rest) a w:=by
 obtain⟨i,D,hz,Z,M⟩:=info_parts hi;have key:∃l w',(Builtin.append_ #[t,t] o.type #[.slice A n c,.slice q m c2]).run P w = .ok l w'/\w'.ownsRow base e 1 l (n+m) (xs++d)/\w.grownBy w' (Value.slice A n c).ownBlock:=by
  rcases q with _ | C
  ·have U:m=0:=by
    rcases DM m with f | f
    ·exact f
    obtain⟨b,af,g,_⟩:=k.2.2.2 (by rw[k.1];exact f);cases g
   subst U;have V:d=[]:=BL k.1;subst V;exact⟨_,w,Gz base t o.type e i E D A n c xs B c2,by simpa using B,⟨rfl,rfl,rfl,AI _,λ_ _ _=>rfl⟩⟩
  have R:∀j u,d[j]? = some u->w.cell? (C.add j)=some u:=by
   intro j u F;have T:j<d.length:=(AN.1 F).1;obtain⟨b,af,g,_,O⟩:=k.2.2.2 AA;injection g with g;subst g;have:=O j T;rw[F] at this;unfold Addr.add;split
   ·rename_i f;subst f;simpa using this
   exact this
  obtain⟨l,w',v,y,H,_⟩:=run_append_own (P:=P) w base t o.type e i z 1 bytes E D hz Z M ae AC _ n xs B C m c2 d (by rw[k.1,Ep]) R G (by simpa [maxLen] using I) N L;exact⟨l,w',v,y,H⟩
 obtain⟨l,w',X,v,y⟩:=key;obtain⟨p,r,rfl⟩:=M3 v;refine wpList_plain S λK J=>?_;unfold Oper.wp execOp;simp only[W,resolve,invoke,builtin,Sem.run_bind,Sem.run_pure,Result.andThen_ok,List.map_toArray,CU,List.map_nil,Y,hx,X];exact J _ _ (h p r w' v y)
theorem Vc{o:Oper}{a:Act}(v:o.guard=none)(s x:Operand)(t:TypeId)(B:o.op = .call { callee := .builtin .append,args:=#[s,x],argTypes:=#[t,t] })(base:Nat)(e:TypeId)(z:Value)(bytes:Nat)(E:P.underlying t=some (.slice e))(hi:(P.info? e).map (λi=>(i.zero,i.size,i.bytes))=some (some z,1,bytes))(G:z.cells.size=1)(A:Option Addr)(n c:Nat)(xs:List Value)(D:a.eval s = .slice A n c)(C:w.ownsRow base e 1 (.slice A n c) n xs)(u:Value)(F:a.eval x = .slice (some ⟨w,0,none⟩) 1 1)(m:u.oneCell'=true)(q:n+1<=9223372036854775807)(r:(n+1)*bytes<=140737488355328)(H:base<=w.heap.size)(h:∀f g w',w'.ownsRow base e 1 (.slice f (n+1) g) (n+1) (xs++[u])->w.grownBy w' (Value.slice A n c).ownBlock->
   wpList P ops Q rest (a.put o.dst (.slice f (n+1) g)) w'):wpList P ops Q (o::rest) a (w.alloc (.cells #[u] e)):=by
 have y:=World.ownsRow_lit (base:=w.heap.size) (e:=e) (size:=1) w #[u] 1 (AI _) (by simp[maxLen]) AE;refine Zxz v s x t B base e z bytes E hi G A n c xs D (C.alloc _) _ 1 1 [u] F (Yl y) (by simpa using m) q r AG λf g w' p d=>?_;refine h f g w' p ?_;have b:w.grownBy (w.alloc (.cells #[u] e)) (Value.slice A n c).ownBlock:=World.grownBy_alloc _ _ _;refine⟨d.os.trans b.os,d.tape.trans b.tape,d.output.trans b.output,BC b.size d.size,λk j l=>?_⟩;exact (d.block k (AJ j b.size) l).trans (b.block k j l)
end
section
open Go.ChangeShapes Go.WideShapes Go.ChangeAt Go.RowKit
open Ieee
theorem Ux{P:Program}(w:World)(src e f:TypeId)(l:P.underlying src=some (.slice e))(g:P.underlying e=some (.int .u8))(hd:P.underlying f=some .string)(A:Option Addr)(c:Nat)(a:List Nat)(h:Zq .u8 w A a.length c a):(convert src f (.slice A a.length c)).run P w = .ok (.string (str a)) w:=by
 have n:strOfNums (a.map λ(x:Nat)=>(x:Int))=str a:=by simp[strOfNums,str,Function.comp_def]
 rcases A with _ | m
 ·have d:a.length=0:=by
   rcases DM a.length with d | d
   ·exact d
   obtain⟨b,j,g,_⟩:=h.at_ d;cases g
  obtain rfl:=BL d;exact run_convert_bytes_nil w src e l g _ _ f hd
 by_cases d:0<a.length
 ·obtain⟨b,j,k,_,o⟩:=h.at_ d;injection k with k;subst k;rw[run_convert_bytes_arg w src e l g b j a.length c (a.map λ(x:Nat)=>(x:Int)) AE (λi hi=>by
   rw[o i hi];simp[AM hi]) f hd,n]
 obtain rfl:=BL (show a.length=0 by omega);obtain⟨b,j,p⟩:=m;simp only[DS];rw[run_convert_bytes_string w src f e _ _ _ l g hd,run_bytesToString w ⟨b,j,p⟩ 0 c [] (by simp[loadCells,loadCellsFrom])];rfl
theorem Vd(l:List Nat)(h:∀c∈l,c<256):Zh (str l)=l:=by
 simp only[Zh,str,List.map_map]
 conv=>rhs;rw[<-List.map_id l]
 apply List.map_congr_left;intro c a;have:=h c a;simp only[Function.comp,id,UInt8.toNat_ofNat'];omega
theorem Zs1(l:List Nat):(str l).size=l.length:=by
 show (str l).data.size=_;simp[str]
end
section
open Go.RowKit Go.Shelf
attribute [local go_sem] Oper.semAt_some
open Go.RowKit Go.Shelf Go.Sort
def RetSorted(w:World)(a:List ByteArray)(e:Ending)(w':World):Prop :=
 Below w.heap.size w w'/\((a=[]/\e = .returned (.slice none 0 0)) \/
  ∃g cap,e = .returned (.slice (some ⟨g,0,none⟩) a.length cap)/\w.heap.size<=g/\g<w'.heap.size/\a.length<=cap/\Holds encStr w' g 0 ((byL a).mergeSort λx y=>decide (x<=y)).toArray)
theorem Zxg(s:ByteArray)(w:World):
 Calls prog 116 #[.string s] w λe w'=>e = .returned (.bool (Q7 s))/\w=w':=by
 have c1:=Zx8 s w;have c2:=Gb s w;unfold Q7;generalize Xi (Zh s)=p at *;generalize H5 (Zh s)=q at *;have a:=LH c1;have b:=LH c2;clear c1 c2;cases p;all_goals
  go_enter func116,ntmps116;go_wp2_with (first
   | (go_at_call 119;(with_reducible refine a.out.mono ?_);rintro e w'⟨rfl,rfl⟩)
   | (go_at_call 172;(with_reducible refine b.out.mono ?_);rintro e w'⟨rfl,rfl⟩))
  go_ret;exact⟨rfl,rfl⟩
end
section
open Go.RowKit Go.Maps
theorem Blk.other{w:World}(h:Blk w g t cs)(a i:Nat)(v:Value)(b:g≠a):Blk (w.setCell ⟨a,i,none⟩ v) g t cs:=(Eb w ⟨a,i,none⟩ v g b).trans h
theorem Zg{w:World}(h:Below w w w')(g i:Nat)(v:Value)(a:w.heap.size<=g):Below w w (w'.setCell ⟨g,i,none⟩ v):=h.trans (Zn (Zd _ _ _ _) h.size a)
end
theorem F9{pat:List Nat}(d:∀x∈xs,x<256)(c:∀x∈pat,x<256):((str xs).toList==(str pat).toList)=decide (xs=pat):=by
 rw[BZ,BP,BB];constructor
 ·intro h;have a:str xs=str pat:=by
   have:=Ql (str xs) (str pat);rw[h,beq_self_eq_true] at this;simpa using this.symm
  have b:=congrArg Zh a;rwa [Vd _ d,Vd _ c] at b
 intro h;rw[h]
theorem rf_percent(xs:List Nat)(w:World)(g:∀x∈xs,x<256):Calls prog 222 #[.string (str xs)] w λe w'=>e = .returned (.int .i64 (Q6 xs))/\w=w':=by
 have q:=F9 g (pat:=[116,111,107,101,110]) AC;have s:=F9 g (pat:=[108,101,102,116]) AC;have t:=F9 g (pat:=[114,105,103,104,116]) AC;have u:=F9 g (pat:=[110,111,110,97,115,115,111,99]) AC;have v:=F9 g (pat:=[115,116,97,114,116]) AC;have y:=F9 g (pat:=[112,114,101,99]) AC;have k:(str [116,111,107,101,110]).toList=[116,111,107,101,110]:=AB
 have l:(str [108,101,102,116]).toList=[108,101,102,116]:=AB
 have m:(str [114,105,103,104,116]).toList=[114,105,103,104,116]:=AB
 have n:(str [110,111,110,97,115,115,111,99]).toList=[110,111,110,97,115,115,111,99]:=AB
 have o:(str [115,116,97,114,116]).toList=[115,116,97,114,116]:=AB
 have p:(str [112,114,101,99]).toList=[112,114,101,99]:=AB
 rw[k] at q;rw[l] at s;rw[m] at t;rw[n] at u;rw[o] at v;rw[p] at y;have d:Hid (Q6 xs=if xs=[116,111,107,101,110] then 3 else if xs=[108,101,102,116] then 4 else if xs=[114,105,103,104,116] then 5 else if xs=[110,111,110,97,115,115,111,99] then 6 else if xs=[115,116,97,114,116] then 7 else if xs=[112,114,101,99] then 8 else 0):=rfl;generalize Q6 xs=r at *;clear k l m n o p g;generalize (str xs)=z at *;rcases (by
  by_cases a:xs=[116,111,107,101,110]
  ·exact .inl ⟨DY a,by rw[d.out,if_pos a]⟩
  by_cases b:xs=[108,101,102,116]
  ·exact .inr (.inl ⟨BR a,DY b,by rw[d.out,if_neg a,if_pos b]⟩)
  by_cases c:xs=[114,105,103,104,116]
  ·exact .inr (.inr (.inl ⟨BR a,BR b,DY c,by rw[d.out,if_neg a,if_neg b,if_pos c]⟩))
  by_cases f:xs=[110,111,110,97,115,115,111,99]
  ·exact .inr (.inr (.inr (.inl ⟨BR a,BR b,BR c,DY f,by rw[d.out,if_neg a,if_neg b,if_neg c,if_pos f]⟩)))
  by_cases h:xs=[115,116,97,114,116]
  ·exact .inr (.inr (.inr (.inr (.inl ⟨BR a,BR b,BR c,BR f,DY h,by rw[d.out,if_neg a,if_neg b,if_neg c,if_neg f,if_pos h]⟩))))
  by_cases j:xs=[112,114,101,99]
  ·exact .inr (.inr (.inr (.inr (.inr (.inl ⟨BR a,BR b,BR c,BR f,BR h,DY j,by rw[d.out,if_neg a,if_neg b,if_neg c,if_neg f,if_neg h,if_pos j]⟩)))))
  ·exact .inr (.inr (.inr (.inr (.inr (.inr ⟨BR a,BR b,BR c,BR f,BR h,BR j,by rw[d.out,if_neg a,if_neg b,if_neg c,if_neg f,if_neg h,if_neg j]⟩))))) :
  (decide (xs=[116,111,107,101,110])=true/\r=3)\/(decide (xs=[116,111,107,101,110])=false/\decide (xs=[108,101,102,116])=true/\r=4) \/
  (decide (xs=[116,111,107,101,110])=false/\decide (xs=[108,101,102,116])=false/\decide (xs=[114,105,103,104,116])=true/\r=5) \/
  (decide (xs=[116,111,107,101,110])=false/\decide (xs=[108,101,102,116])=false/\decide (xs=[114,105,103,104,116])=false/\decide (xs=[110,111,110,97,115,115,111,99])=true/\r=6) \/
  (decide (xs=[116,111,107,101,110])=false/\decide (xs=[108,101,102,116])=false/\decide (xs=[114,105,103,104,116])=false/\decide (xs=[110,111,110,97,115,115,111,99])=false/\decide (xs=[115,116,97,114,116])=true/\r=7) \/
  (decide (xs=[116,111,107,101,110])=false/\decide (xs=[108,101,102,116])=false/\decide (xs=[114,105,103,104,116])=false/\decide (xs=[110,111,110,97,115,115,111,99])=false/\decide (xs=[115,116,97,114,116])=false/\decide (xs=[112,114,101,99])=true/\r=8) \/
  (decide (xs=[116,111,107,101,110])=false/\decide (xs=[108,101,102,116])=false/\decide (xs=[114,105,103,104,116])=false/\decide (xs=[110,111,110,97,115,115,111,99])=false/\decide (xs=[115,116,97,114,116])=false/\decide (xs=[112,114,101,99])=false/\r=0)) with
  ⟨k1,rfl⟩ | ⟨k1,k2,rfl⟩ | ⟨k1,k2,k3,rfl⟩ | ⟨k1,k2,k3,k4,rfl⟩ | ⟨k1,k2,k3,k4,k5,rfl⟩ | ⟨k1,k2,k3,k4,k5,k6,rfl⟩ | ⟨k1,k2,k3,k4,k5,k6,rfl⟩
 all_goals
  (try rw[k1] at q) <;> (try rw[k2] at s) <;> (try rw[k3] at t) <;> (try rw[k4] at u) <;> (try rw[k5] at v) <;> (try rw[k6] at y);clear d;go_enter func222,ntmps222;go_wp2_with fail;go_ret;exact⟨rfl,rfl⟩
theorem Do.other{b:Nat->Bool}{u:Nat->Value}{p:Nat}{c:Value}(h:Do b u p c)(i:Nat)(v:Value)(hi:p≠i):Do (Mz b i) (upd u i v) p c:=λa=>by
 rw[Ys hi] at a;rw[Yj hi];exact h a
section
variable {P:Program}
theorem F6(hi:i<n)(b:listed.getD i true=false):leftN n (listed.setIfInBounds i true)<leftN n listed:=by
 unfold leftN;have c:i<listed.size:=by
  rcases BD i listed.size with h | h
  ·exact h
  simp[Array.getD,Nat.not_lt.2 h] at b
 have e:((List.range n).filter λj=>!(listed.setIfInBounds i true).getD j true)=(((List.range n).filter λj=>!listed.getD j true).filter λj=>decide (j≠i)):=by
  rw[List.filter_filter];apply List.filter_congr;intro j _;by_cases a:i=j
  ·subst a;simp[Array.getD,c]
  rw[getD_set_ne true a];simp[Ne.symm a]
 rw[e,List.length_filter_lt_length_iff_exists];exact⟨i,List.mem_filter.2 ⟨BQ.2 hi,by simp[b]⟩,AE⟩
end
section
open Go.Maps (Keyed IsMap Tidy)
theorem toI_more(a:j∉o)(h:i≠j):toI (o++[j]) i=toI o i:=by
 have e:=toL_set (n:=i+j+1) (o:=o) (i:=j) a;have h1:=Ji (n:=i+j+1) (o:=o++[j]) (i:=i) AA;rw[<-e,List.getElem?_set_ne AA,Ji AA] at h1;exact (BI h1).symm
def RAddRel(w:World)(xs ys:List Nat)(o c i:Value)(wr:World):Prop :=
 ∃(k:Nat) (A:Option Addr) (a:Nat),k<=33/\i = .int .i64 (k:Int)/\c = .int .u64 ((V4 xs ys k).2:Int)/\o = .slice A k a /\
  wr.ownsRow w.heap.size 49 1 (.slice A k a) k (nums .u32 (V4 xs ys k).1)/\Below w.heap.size w wr
theorem Tryz.keyKT:Keyed prog 247:=Keyed.of_law (deep_law_laid Tryz.laidOut (m:=2) AA Tryz.rowKT AB Tryz.wideKT)
theorem Tryz.keyKF:Keyed prog 251:=Keyed.of_law (deep_law_laid Tryz.laidOut (m:=2) AA Tryz.rowKF AB Tryz.wideKF)
theorem Tryz.keyKB:Keyed prog 223:=Keyed.of_law (deep_law_laid Tryz.laidOut (m:=2) AA Tryz.rowKB AB Tryz.wideKB)
def codeB:Value->Nat
 | .agg cs=>(match cs.getD 0 undef with | .string t=>Ds (Zh t) | _=>0)*1000+(intOf (cs.getD 1 undef)).toNat
 | _=>0
theorem Zx6{l:List Int}(h:Zwx l)(n:Nat):codeB (kB l n)=Ds (Vr l)*1000+n:=by
 show Ds (Zh (str (Vr l)))*1000+n=_;rw[Vd _ λc a=>by have:=Dy h c a;omega]
theorem lefts_range(G:Gr):∀(a:List Rul) (t:Int),G.leftsGo a (-1)=some t->Wu a=List.range (t+1).toNat:=by
 intro a
 induction a using K3 with
 | h0=>intro t h;simp[Gr.leftsGo] at h;subst h;rfl
 | h1 a r f =>
   intro t h;rw[Gr.leftsGo_snoc] at h;cases b:G.leftsGo a (-1) with
   | none=>rw[b] at h;cases h
   | some l =>
     rw[b,Option.bind_some] at h;have g:=G.leftsGo_bd a (-1) l AA b;split at h
     ·rename_i j;have e:max l r.left=t:=BI h;rw[Vs,f l b];unfold N3;by_cases k:r.left<=l
      ·rw[if_pos (by rw[BQ];omega)];congr 1;omega
      rw[if_neg (by rw[BQ];omega)];have c:r.left=l+1:=AA
      have d:(t+1).toNat=(l+1).toNat+1:=AA
      rw[d,Ec,c]
     cases h
end
section
open Go.Maps (Keyed IsMap Tidy)
open Go.Maps (Keyed IsMap Tidy)
def codeT:Value->Nat
 | .agg cs=>Zp (intOf (cs.getD 0 undef))*1000+(intOf (cs.getD 1 undef)).toNat
 | _=>0
theorem Zx1(s:Int)(n:Nat):codeT (kT s n)=Zp s*1000+n:=rfl
end
section
variable {P:Program} {M:World->Prop} {R:World->World->Prop}
def JF(l:List Oper)(n:Nat)(M:World->Prop)(F:(Nat->Value)->Act)(D:Nat->Value->World->Prop)(fin:(Nat->Value)->World->Prop)(listed:Array Bool)(a:Act)(X:World):Prop :=
 ∃u,a=F u/\listed.size=l.length/\(∀i o,l[i]? = some o->listed.getD i false=true->∀p,onB o p=true->listed.getD p false=true) /\
  (∀i,i≠n->listed.getD i false=true->listed.getD n false=false->D i (u i) X)/\(listed.getD n false=false->M X)/\(listed.getD n false=true->fin u X)
theorem Uj(hi:i<listed.size):(listed.setIfInBounds i true).getD j false=if j=i then true else listed.getD j false:=by
 by_cases h:j=i
 ·subst h;rw[if_pos rfl];simp[Array.getD,hi]
 rw[if_neg h,Array.getD_eq_getD_getElem?,Array.getD_eq_getD_getElem?,Array.getElem?_setIfInBounds_ne (Ne.symm h)]
theorem Zu4(h:listed.getD i true=false):i<listed.size/\listed.getD i false=false:=by
 simp only[Array.getD] at h ⊢;split at h
 ·rename_i hi;exact⟨hi,by rw[dif_pos hi];exact h⟩
 cases h
end
section
open Ieee
theorem Own.drew{w:World}{k:IntKind}{a:List Nat}(h:Own w g t k a):Own w.drew g t k a:=h
theorem Zq.drew{k:IntKind}{w:World}(h:Zq k w A n c xs):Zq k w.drew A n c xs:=h
def Y0(G:Gr):Nat->WSt->Int->Option (WSt × Nat)
 | 0,_,_=>none
 | q+1,st,non =>
   match st.rest with
   | []=>none
   | i::rest =>
     match Ur G i with
     | none=>none
     | some r =>
       if r.left=non then
        (Wt (Y0 G q) r.right { st with rest:=rest } 0).map λx=>({ x.1 with posts:=x.1.posts++[i] },x.2+1)
       else none
theorem B3{G:Gr}(h:a.rest=[]):Y0 G q a non=none:=by
 cases q with
 | zero=>rfl
 | succ q =>
   unfold Y0;rw[h]
theorem Fd{G:Gr}{i:Int}{rest:List Int}(h:a.rest=i::rest)(b:∀r,Ur G i=some r->r.left≠non):Y0 G (q+1) a non=none:=by
 unfold Y0;rw[h];simp only;split
 ·rfl
 rename_i r c;rw[if_neg (b r c)]
theorem Zwq{G:Gr}{i:Int}{rest:List Int}(h:a.rest=i::rest)(c:Ur G i=some r)(b:r.left=non):
 Y0 G (q+1) a non=(Wt (Y0 G q) r.right { a with rest:=rest } 0).map λx=>({ x.1 with posts:=x.1.posts++[i] },x.2+1):=by
 rw[Y0,h];simp only;rw[c];simp only;rw[if_pos b]
inductive Fs (G:Gr):List Int->List Int->List Int->List Int->Nat->Prop
 | nil:Fs G [] [] [] [] 0
 | term {s:Int} {ss ps qs wd:List Int} {m:Nat}:0<=s->Fs G ss ps qs wd m->Fs G (s::ss) ps qs (s::wd) m
 | non {s i:Int} {r:Rul} {ss p1 q1 w1 ps qs wd:List Int} {m1 m:Nat}:s<0->Ur G i=some r->r.left=-1-s->Fs G r.right p1 q1 w1 m1->Fs G ss ps qs wd m->Fs G (s::ss) (i::(p1++ps)) (q1++i::qs) (w1++wd) (max (m1+1) m)
def Stp(G:Gr)(a:WSt)(non:Int)(b:WSt)(n:Nat):Prop :=
 ∃i r c d w1 m,Ur G i=some r/\r.left=non/\Fs G r.right c d w1 m/\n=m+1/\a.rest=i::(c++b.rest)/\b.word=a.word++w1/\b.posts=a.posts++(d++[i])
end
section
open Go.Maps (Keyed IsMap Tidy)
open Go.Maps (Keyed IsMap Tidy)
variable {W0:World} {k:BkH} {h:GH} {G:Gr} {S':Nat->Prop} {w:World} {gR:Nat} {b:Nat->Bool} {u:Nat->Value} {X:World}
def Zu(w w':World):Prop:=w.heap.size<=w'.heap.size/\∀b,b<w.heap.size->(∃o z,w.cell? ⟨b,o,none⟩=some (Value.int .u32 z))->w'.heap[b]? = w.heap[b]?
theorem Zu.of_int{w:World}(h:Zf w w'):Zu w w':=⟨h.1,λb a ⟨o,z,c⟩=>h.2 b a ⟨o,.u32,z,c⟩⟩
def M4(w:World)(base:Nat)(A:Option Addr)(n c:Nat)(xs:List Int):Prop :=
 w.ownsRow base 3 1 (.slice A n c) n (ints .i64 xs)/\∀g,(Value.slice A n c).ownBlock=some g->∀(o:Nat) (v:Value),w.cell? ⟨g,o,none⟩=some v->∃z,v = .int .i64 z
theorem M4.no32{w:World}{xs:List Int}(h:M4 w base A n c xs):∀g,(Value.slice A n c).ownBlock=some g->∀o z,w.cell? ⟨g,o,none⟩≠some (Value.int .u32 z):=λg b o z a=>by
 obtain⟨y,d⟩:=h.2 g b o _ a;cases d
end
section
variable {P:Program} {Γ:Type} {R:World->World->Prop}
def backA(l:List Oper):Bool:=(List.range l.length).all λi=>((l[i]?).map λo=>o.after.toList.all λe=>!Region.binds .any e || decide (e.on<i)).getD true
theorem Zzk(f:backA l=true)(h:Region.ready .any l.toArray listed=[]):∀i,i<l.length->listed.getD i true=true:=by
 intro i
 induction i using Nat.strongRecOn with
 | ind i m =>
   intro hi;cases c:listed.getD i true with
   | true=>rfl
   | false =>
     exfalso;have b:i∈Region.ready .any l.toArray listed:=by
      refine mem_ready.2 ⟨c,l[i],by simp[hi],λe j g=>?_⟩;have h1:=BG.1 f i (BQ.2 hi);rw[AM hi,Ek,Option.getD_some,BG] at h1;have a:=h1 e (by simpa using j);rw[g] at a;have a:e.on<i:=DN (by simpa using a);have d:=m e.on a AA;have n:i<listed.size:=by
       rcases BD i listed.size with h | h
       ·exact h
       simp[Array.getD,Nat.not_lt.2 h] at c
      have k:e.on<listed.size:=AA
      simpa [Array.getD,k] using d
     rw[h] at b;cases b
end
end Go.Proofs.YtggbjdmpjidhgaaGreatDoor
