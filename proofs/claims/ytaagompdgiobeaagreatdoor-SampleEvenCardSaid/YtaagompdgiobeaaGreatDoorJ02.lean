/- the reading of a grammar, its counts, and what is drawn: lemmas -/
import Derived.Test.YtaagompdgiobeaaGreatDoorJ01
set_option linter.all false
set_option maxHeartbeats 1500000
set_option maxRecDepth 100000
namespace Go.Proofs.YtaagompdgiobeaaGreatDoor
open Go.RowKit Go.Proofs.Tryz
open Go.Value renaming slice→K,slice→aK,int→aI,bool→aB,pointer→aP,string→aS,agg→aG open Go.IntKind renaming i64→aJ open Go.Obj renaming cells→aC open Go.Ending renaming returned→aR open List renaming length→Q,length→aQ open Option renaming none→aN
section
variable{ts a rest:List Tk}{n i q top:Nat}{c ps:List Prd}{A:Option Addr}{cs:List Value}{ss:List ByteArray}{xs:List Nat}{L s:ByteArray}{f:WSt->Int->Option (WSt × Nat)}{l:List Int}{W:World}{v:Value}{listed:Array Bool}
def Zzm(k:IntKind)(xs:List Int)(x:Int):ints k (xs++[x])=ints k xs++[aI k x]:=by simp[ints]
def andN_le(a b:Nat):Ck a b<=a:=Zyd λt h=>by
 rw[Nu,AS] at h;exact h.1
def andn32(a b:Nat)(c:a<4294967296)(j:b<4294967296):bits .andNot .u32 (a:Int) (b:Int)=((Ck a b:Nat):Int):=by
 have k:=En (andN_le a b) c;have d:(BitVec.ofInt 32 (a:Int)).toNat=a:=by rw[BitVec.ofInt_natCast,Er];exact Ec AA
 have f:(BitVec.ofInt 32 (b:Int)).toNat=b:=by rw[BitVec.ofInt_natCast,Er];exact Ec AA
 show IntKind.u32.wrap ((BitVec.ofInt 32 (a:Int) &&& ~~~ BitVec.ofInt 32 (b:Int)).toNat:Int)=_;have g:(BitVec.ofInt 32 (a:Int) &&& ~~~ BitVec.ofInt 32 (b:Int)).toNat=Ck a b:=by
  apply Nat.eq_of_testBit_eq;intro t;rw[BitVec.testBit_toNat,BitVec.getLsbD_and,BitVec.getLsbD_not,<-BitVec.testBit_toNat,<-BitVec.testBit_toNat,d,f,Nu];rcases BD t 32 with h | h
  ·simp[h]
  rw[Zx7 a c t h];rfl
 rw[g,IntKind.wrap_u32];omega
def Bz(xs:List Nat)(i:Nat)(pat:List Nat):Bool:=decide (i+pat.length<=xs.length)&&decide ((xs.drop i).take pat.length=pat)
def Ci(xs:List Nat)(i:Nat):Bool:=!Bz xs i [47,42]&&!Bz xs i [47,47]&&!Bz xs i [37,123]&&(xs.getD i 0 != 60)&&(xs.getD i 0 != 123)
def oneP(xs:List Nat)(i:Nat):Option (Af × Nat) :=
 if Xf (xs.getD i 0) then (if Kk xs i<=i+20 then some (⟨1,(xs.drop i).take (Kk xs i-i),i⟩,Kk xs i) else none)
 else if xs.getD i 0=39 then (if H5 ((xs.drop i).take 3)&&decide (i+3<=xs.length) then some (⟨2,(xs.drop i).take 3,i⟩,i+3) else none)
 else if Bz xs i [37,37] then some (⟨9,[],i⟩,i+2)
 else if xs.getD i 0=37 then none
 else if L0 (xs.getD i 0)=0 then none else some (⟨L0 (xs.getD i 0),[],i⟩,i+1)
def Ml(xs:List Nat):Nat->Nat->Option (List Af)
 | 0,_=>none
 | q+1,i =>
   if i ≥ xs.length then some []
   else if !Ci xs i then none
   else if Jv (xs.getD i 0) then Ml xs q (i+1)
   else match oneP xs i with
    | none=>none
    | some (t,j)=>(Ml xs q j).map (t::·)
def Xa:List Tk->List ByteArray × List Tk
 | []=>([],[])
 | t::ts=>if Fz t.1 then (t.2::(Xa ts).1,(Xa ts).2) else ([],t::ts)
def Zw3{t:Tk}(h:Fz t.1=true):Xa (t::ts)=(t.2::(Xa ts).1,(Xa ts).2):=by
 show (if Fz t.1 then _ else _)=_;rw[if_pos h]
def Zt2(h:Fz (Qy ts)=false):Xa ts=([],ts):=by
 cases ts with
 | nil=>rfl
 | cons t ts =>
   show (if Fz t.1 then _ else _)=_;rw[if_neg (by simpa [Qy] using h)]
def Zvd(ts:List Tk):(Xa ts).2.length<=(Q ts)/\(Xa ts).1.length+(Xa ts).2.length=(Q ts):=by
 induction ts with
 | nil=>exact⟨AJ _,rfl⟩
 | cons t ts a =>
   by_cases h:Fz t.1=true
   ·rw[Zw3 h];simp only[AY];omega
   rw[Zt2 (by simpa [Qy] using h)];simp
def L9(left:ByteArray):Nat->List Tk->Option (List Prd × List Tk)
 | 0,_=>none
 | q+1,ts =>
   if Qy (Xa ts).2=11 then (L9 left q (Xa ts).2.tail).map λr=>(⟨left,(Xa ts).1,⟨#[]⟩⟩::r.1,r.2)
   else if Qy (Xa ts).2=12 then some ([⟨left,(Xa ts).1,⟨#[]⟩⟩],(Xa ts).2.tail) else none
def Fj(q:Nat):List Tk->Option (List Prd × List Tk)
 | a::b::rest=>if a.1=1/\b.1=10 then L9 a.2 q rest else none
 | _=>none
def Ku:Nat->List Tk->Option (List Prd)
 | 0,_=>none
 | q+1,ts =>
   match ts with
   | []=>some []
   | t::_=>if t.1=9 then none else
     match Fj q ts with
     | none=>none
     | some (ps,rest)=>(Ku q rest).map (ps++·)
def srcP(q:Nat):List Tk->Option (List Prd)
 | m::rest=>if m.1=9 then (match Fj q rest with
   | none=>none
   | some (ps,r)=>(Ku q r).map (ps++·)) else none
 | []=>none
def Nv:List ByteArray->List Prd->Option (List ByteArray)
 | ns,[]=>some ns
 | ns,p::ps =>
   if !Xi (Zh p.L) then none
   else if 0<=Y8 (λt=>decide (t=p.L)) ns then Nv ns ps
   else if ns.length=16 then none
   else Nv (ns++[p.L]) ps
def Nl(a:Bool)(G:Gr)(s:ByteArray):Option (Int × Gr) :=
 if 0<=G.non s then (if a then some (-1-G.non s,G) else none)
 else if decide (0<=G.term s) || H5 (Zh s) || decide (s=errS) then Zzj G s
 else none
def Ko:Gr->List ByteArray->List Int->Int->Option (Gr × List Int × Int)
 | G,[],acc,pr=>some (G,acc,pr)
 | G,s::ss,acc,pr =>
   if !Q7 s then none
   else if acc.length=6 then none
   else match Nl true G s with
    | none=>none
    | some (x,G')=>Ko G' ss (acc++[x]) (if 0<=x then x else pr)
def prodP(G:Gr)(p:Prd):Option Gr :=
 if G.U.length=40 then none
 else if p.P=⟨#[]⟩ then (match Ko G p.rt [] (-1) with
  | none=>none
  | some (G1,l,pr)=>some { G1 with U:=G1.U++[⟨G.non p.L,l,pr⟩] })
 else none
def Gn:Gr->List Prd->Option Gr
 | G,[]=>some G
 | G,p::ps=>match prodP G p with
   | none=>none
   | some a=>Gn a ps
def Zwy(ps:List Prd):Option Gr :=
 match ps with
 | []=>none
 | _=>match Nv [] ps with
   | none=>none
   | some a=>Gn ⟨[],a,[],0⟩ ps
def Zyr(t:Af):Tk:=(t.kind,str t.text)
def own_rfs{w:World}{base e c:Nat}(h:w.ownsRow base e 2 (K A n c) n cs)(l:Gi cs ss):Rfs w A n c ss:=by
 have d:(Q ss)=n:=by have:=h.1;have:=l.1;omega
 rcases h.2 with ⟨k,rfl⟩ | ⟨g,cap,s,k,u,m,r,p,v,C⟩
 ·injection k with h1 b h3;subst h1;subst h3;exact⟨d,AJ _,AA,λa=>absurd a AA⟩
 injection k with h1 b h3;subst h1;subst h3;have f:g<w.heap.size:=by
  rcases BD g w with f | q
  ·exact f
  rw[CZ q] at m;cases m
 refine⟨d,r,by simpa [maxLen] using p,λB=>⟨g,0,rfl,f,λj t o=>?_⟩⟩;have z:j<n:=by rw[<-d];exact (AN.1 o).1
 obtain⟨a,x,y,b⟩:=l.2 j t o;refine⟨?_,x,y,?_⟩
 ·rw[BF,h.cellAt (j*2) AA];exact a
 rw[BF,h.cellAt (j*2+1) AA];exact b
def oneP_lt{t:Af}{j:Nat}(hi:i<(Q xs))(h:oneP xs i=some (t,j)):i<j/\j<=(Q xs):=by
 unfold oneP at h;split at h
 ·split at h
  ·simp only[BT,DM] at h;obtain⟨_,rfl⟩:=h;have:=Zu3 Wa (xs.drop (i+1));rw[CJ] at this;unfold Kk;omega
  cases h
 split at h
 ·split at h
  ·rename_i a;simp only[AS,decide_eq_true_eq] at a;simp only[BT,DM] at h;omega
  cases h
 split at h
 ·rename_i a;unfold Bz at a;simp only[AS,decide_eq_true_eq,AY,DE] at a;simp only[BT,DM] at h;omega
 split at h
 ·cases h
 split at h
 ·cases h
 simp only[BT,DM] at h;omega
def toksP_end{a:List Af}(h:Ml xs q i=some a)(hi:(Q xs)<=i):a=[]:=by
 cases q with
 | zero=>cases h
 | succ q =>
   unfold Ml at h;rw[if_pos hi] at h;injection h with h;exact h.symm
def toksP_step{c:List Af}(h:Ml xs q i=some c)(hi:i<(Q xs)):Ci xs i=true /\
 ((Jv (xs.getD i 0)=true/\∃d,Ml xs d (i+1)=some c)\/(Jv (xs.getD i 0)=false/\∃t j rest d,oneP xs i=some (t,j)/\Ml xs d j=some rest/\c=t::rest)):=by
 cases q with
 | zero=>cases h
 | succ q =>
   unfold Ml at h;rw[if_neg AA] at h;by_cases b:Ci xs i=true
   ·rw[if_neg (by simp[b])] at h;refine⟨b,?_⟩;by_cases a:Jv (xs.getD i 0)=true
    ·rw[if_pos a] at h;exact .inl ⟨a,q,h⟩
    rw[if_neg a] at h;refine .inr ⟨by simpa using a,?_⟩;split at h
    ·cases h
    rename_i t j k;rw[Option.map_eq_some_iff] at h;obtain⟨rest,f,g⟩:=h;exact⟨t,j,rest,q,k,f,g.symm⟩
   rw[if_pos (by simp[b])] at h;cases h
def Ztj(ts:List Tk):isP 1 2 ts=Fz (Qy ts):=by
 cases ts with
 | nil=>rfl
 | cons t ts=>rfl
def He{c:List Tk}{f:List Prd}(h:L9 L q c=some (f,rest)):
 ∃u a,(Xa c).2=u::a/\((u.1=11/\∃k j,L9 L k a=some (j,rest)/\f=⟨L,(Xa c).1,⟨#[]⟩⟩::j)\/(u.1=12/\f=[⟨L,(Xa c).1,⟨#[]⟩⟩]/\rest=a)):=by
 cases q with
 | zero=>cases h
 | succ q =>
   unfold L9 at h;by_cases h1:Qy (Xa c).2=11
   ·rw[if_pos h1,Option.map_eq_some_iff] at h;obtain⟨⟨m,r⟩,b,g⟩:=h;simp only[DM] at g;obtain⟨rfl,rfl⟩:=g;obtain⟨u,a,e,d⟩:=Lf h1 AC;rw[e] at b;exact⟨u,a,e,.inl ⟨d,q,m,b,rfl⟩⟩
   rw[if_neg h1] at h;by_cases b:Qy (Xa c).2=12
   ·rw[if_pos b] at h;simp only[BT,DM] at h;obtain⟨rfl,rfl⟩:=h;obtain⟨u,a,e,d⟩:=Lf b AC;exact⟨u,a,e,.inr ⟨d,rfl,by rw[e];rfl⟩⟩
   rw[if_neg b] at h;cases h
def altsP_pos(h:L9 L q a=some (c,rest)):0<(Q c)/\(Q c)+(Q rest)<=(Q a):=by
 induction q generalizing a c rest with
 | zero=>cases h
 | succ q k =>
   have b:=Zvd a;obtain⟨u,l,f,h1 | h1⟩:=He h
   ·unfold L9 at h;by_cases d:Qy (Xa a).2=11
    ·rw[if_pos d,Option.map_eq_some_iff] at h;obtain⟨⟨m,r⟩,j,g⟩:=h;simp only[DM] at g;obtain⟨rfl,rfl⟩:=g;have:=k j;rw[f] at b this;simp only[AY,List.tail_cons] at b this ⊢;omega
    rw[f] at d;exact absurd h1.1 d
   obtain⟨_,rfl,rfl⟩:=h1;rw[f] at b;simp only[AY,DE] at b ⊢;omega
def Zxb{d:List Tk}(h:Fj q d=some (c,rest)):0<(Q c)/\(Q c)+(Q rest)<(Q d):=by
 match d,h with
 | a::b::ts,h =>
   have h:(if a.1=1/\b.1=10 then L9 a.2 q ts else aN)=some (c,rest):=h;split at h
   ·have:=altsP_pos h;simp only[AY];omega
   cases h
def groupsP_step(h:Ku q a=some c):
 (a=[]/\c=[])\/(∃u l,a=u::l/\u.1≠9/\∃f ps rest b,Fj f a=some (ps,rest)/\Ku f rest=some b/\c=ps++b):=by
 cases q with
 | zero=>cases h
 | succ q =>
   cases a with
   | nil =>
     injection h with h;exact .inl ⟨rfl,h.symm⟩
   | cons u a =>
     refine .inr ⟨u,a,rfl,?_⟩;have h:(if u.1=9 then aN else match Fj q (u::a) with | none=>aN | some (ps,rest)=>(Ku q rest).map (ps++·))=some c:=h;by_cases d:u.1=9
     ·rw[if_pos d] at h;cases h
     rw[if_neg d] at h;refine⟨d,?_⟩;split at h
     ·cases h
     rename_i ps rest k;rw[Option.map_eq_some_iff] at h;obtain⟨b,g,j⟩:=h;exact⟨q,ps,rest,b,k,g,j.symm⟩
def Bu{g:Bool}{G d:Gr}{i:Int}(h:Nl g G s=some (i,d)):
 (0<=G.non s/\g=true/\i=-1-G.non s/\d=G)\/(¬0<=G.non s/\Zzj G s=some (i,d)/\(0<=G.term s\/(¬0<=G.term s/\H5 (Zh s)=true)\/(¬0<=G.term s/\H5 (Zh s)=false/\s=errS))):=by
 unfold Nl at h;by_cases b:0<=G.non s
 ·rw[if_pos b] at h;split at h
  ·rename_i j;simp only[BT,DM] at h;exact .inl ⟨b,j,h.1.symm,h.2.symm⟩
  cases h
 rw[if_neg b] at h;split at h
 ·rename_i a;refine .inr ⟨b,h,?_⟩;simp only[Cs,decide_eq_true_eq] at a;by_cases c:0<=G.term s
  ·exact .inl c
  by_cases f:H5 (Zh s)=true
  ·exact .inr (.inl ⟨c,f⟩)
  rcases a with (a | a) | a
  ·exact absurd a c
  ·exact absurd a f
  exact .inr (.inr ⟨c,by simpa using f,a⟩)
 cases h
def leftsP_step{a d:List ByteArray}{l:List Prd}{k:Nat}{q:Prd}(h:Nv a (l.drop k)=some d)(g:l[k]? = some q):
 Xi (Zh q.L)=true/\((0<=Y8 (λt=>decide (t=q.L)) a/\Nv a (l.drop (k+1))=some d)\/(Y8 (λt=>decide (t=q.L)) a=-1/\(Q a)≠16/\Nv (a++[q.L]) (l.drop (k+1))=some d)):=by
 rw[Q8 g] at h;unfold Nv at h;by_cases b:Xi (Zh q.L)=true
 ·rw[if_neg (by simp[b])] at h;refine⟨b,?_⟩;by_cases c:0<=Y8 (λt=>decide (t=q.L)) a
  ·rw[if_pos c] at h;exact .inl ⟨c,h⟩
  rw[if_neg c] at h;split at h
  ·cases h
  rename_i f;have:=(U9 (λt=>decide (t=q.L)) a).1;exact .inr ⟨AA,f,h⟩
 rw[if_pos (by simpa using b)] at h;cases h
def rightsP_step{G:Gr}{l:List ByteArray}{k:Nat}{b:List Int}{pr:Int}{R:Gr × List Int × Int}(h:Ko G (l.drop k) b pr=some R)(f:l[k]? = some s):
 Q7 s=true/\(Q b)≠6/\∃x a,Nl true G s=some (x,a)/\Ko a (l.drop (k+1)) (b++[x]) (if 0<=x then x else pr)=some R:=by
 rw[Q8 f] at h;unfold Ko at h;by_cases h1:Q7 s=true
 ·rw[if_neg (by simp[h1])] at h;split at h
  ·cases h
  rename_i c;refine⟨h1,c,?_⟩;split at h
  ·cases h
  rename_i x a d;exact⟨x,a,d,h⟩
 rw[if_pos (by simpa using h1)] at h;cases h
structure Zwr (W wx:World) (g:Nat) (n:Int):Prop where
 lo:W.heap.size<=g
 blk:Blk wx g 60 #[aI aJ n,K none 0 0,aI aJ (-1)]
 bel:Below W.heap.size W wx
def prodsP_step{G b:Gr}{l:List Prd}{k:Nat}{q:Prd}(h:Gn G (l.drop k)=some b)(d:l[k]? = some q):∃a,prodP G q=some a/\Gn a (l.drop (k+1))=some b:=by
 rw[Q8 d] at h;unfold Gn at h;split at h
 ·cases h
 rename_i a c;exact⟨a,c,h⟩
def buildP_ways{G:Gr}(h:Zwy ps=some G):0<(Q ps)/\∃ns,Nv [] ps=some ns/\Gn ⟨[],ns,[],0⟩ ps=some G:=by
 unfold Zwy at h;split at h
 ·cases h
 rename_i b;split at h
 ·cases h
 rename_i ns a;refine⟨?_,ns,a,h⟩;cases ps with
 | nil=>exact absurd rfl b
 | cons p ps=>simp
def readC(xs:List Nat):Option Gr :=
 match Ml xs (xs.length+1) 0 with
 | none=>none
 | some ts=>if Dd ts<2/\ts.length<=4000 then (match srcP (ts.length+1) (ts.map Zyr) with
   | none=>none
   | some ps=>if ps.length<=4000/\(ps.all λq=>decide (q.rt.length<=4000))=true then Zwy ps else none) else none
def read22A:readC Zyh=some Xt:=AB
def Vq(xs a:List Nat):Int:=if Zm xs&&Zm a then Vm (val xs) (val a) else 0
def bits_len32(x:Int)(w:World)(h0:0<=x)(h1:x<=4294967295):
 Calls prog 163 #[aI .u32 x] w λe w'=>e = aR (aI aJ (Lib.bitLen x.toNat))/\w=w':=by
 have a:Lib.len8tab.size=256:=rfl;go_enter func163,ntmps163;go_wp2;all_goals go_ret
 ·refine⟨Bo ?_,rfl⟩;have e:(x / 65536 / 256).toNat=x.toNat / 16777216:=AA
  have l:=Lib.bitLen_le8' (x / 65536 / 256) AA AA;have s:=Lib.bitLen_shift24 x.toNat AA AA;rw[<-e] at s;simp only[Bs];rw[Wq (Lib.bitLen _:Int) AA AA,Wq _ AA AA];omega
 ·refine⟨Bo ?_,rfl⟩;have e:(x / 65536).toNat=x.toNat / 65536:=AA
  have l:=Lib.bitLen_le8' (x / 65536) AA AA;have s:=Lib.bitLen_shift16 x.toNat AA AA;rw[<-e] at s;simp only[Bs];rw[Wq (Lib.bitLen _:Int) AA AA,Wq _ AA AA];omega
 ·refine⟨Bo ?_,rfl⟩;have e:(x / 256).toNat=x.toNat / 256:=AA
  have l:=Lib.bitLen_le8' (x / 256) AA AA;have s:=Lib.bitLen_shift8 x.toNat AA AA;rw[<-e] at s;simp only[Bs];rw[Wq (Lib.bitLen _:Int) AA AA,Wq _ AA AA];omega
 refine⟨Bo ?_,rfl⟩;have l:=Lib.bitLen_le8' x AA AA;simp only[Bs];rw[Wq (Lib.bitLen _:Int) AA AA,Wq _ AA AA]
def Zql(b:List Nat)(z:Nat)(l:Lim b)(f:z≠0):bitLen (val (b++[z]))=32*(Q b)+bitLen z:=by
 have c:=Ui b l;rw[Wf];have j:(4294967296:Nat) ^ (Q b)=2 ^ (32*(Q b)):=by rw[Nat.pow_mul]
 rw[j] at c ⊢;generalize val b=a at *;generalize 32*(Q b)=k at *;have h0:=Nat.two_pow_pos k;have n:2 ^ k*1<=2 ^ k*z:=Eg _ AA;unfold bitLen;rw[if_neg AA,if_neg f];have e:(a+2 ^ k*z) / 2 ^ k=z:=by
  rw[Nat.add_mul_div_left _ _ h0,Nat.div_eq_of_lt c,BF]
 have h1:2 ^ (z.log2+k)<=a+2 ^ k*z:=by
  have:=Nat.log2_self_le f;rw[Nat.pow_add,Ef];have:=Eg (2 ^ k) this;omega
 have g:a+2 ^ k*z<2 ^ (z.log2+k+1):=by
  have m:z<2 ^ (z.log2+1):=Nat.lt_log2_self;have h:2 ^ k*(z+1)<=2 ^ k*2 ^ (z.log2+1):=Eg _ AA;rw[<-Nat.pow_add,DK] at h;rw[show z.log2+k+1=k+(z.log2+1) from by omega];omega
 have:(a+2 ^ k*z).log2=z.log2+k:=by
  have d:a+2 ^ k*z≠0:=AA
  apply Nat.le_antisymm
  ·have:=(Nat.log2_lt d).2 g;omega
  exact (Nat.le_log2 d).2 h1
 omega
def nums_far{k:IntKind}{w:World}{c:Nat}(h:Zq k w A n c xs){B:Nat}(g:∀b a,A=some ⟨b,a,aN⟩->B<b)(i:Nat)(u:Value):
 Zq k (w.setCell ⟨B,i,aN⟩ u) A n c xs:=by
 refine⟨h.1,h.2.1,h.2.2.1,λm=>?_⟩;obtain⟨b,a,e,d,f⟩:=h.2.2.2 m;have:=g b a e;refine⟨b,a,e,by simpa using d,λj l=>?_⟩;rw[World.cell?_setCell_other _ _ _ _ (by intro h;simp only[Addr.mk.injEq] at h;omega)];exact f j l
def TwRel(w:World)(xs:List Nat)(bit:Nat)(b o i:Value)(wr:World):Prop :=
 ∃(k:Nat) (A:Option Addr) (a:Nat),k<=xs.length/\i = aI aJ (k:Int)/\b = aI .u32 ((twP xs bit k).2:Int)/\o = K A k a /\
  wr.ownsRow w.heap.size 41 1 (K A k a) k (nums .u32 (twP xs bit k).1)/\Below w.heap.size w wr
def bit_in(xs:List Nat)(b:Lim xs)(k:Nat)(a:k<bitLen (val xs)):k / 32<(Q xs):=by
 rcases BD (k / 32) (Q xs) with h | h
 ·exact h
 have h1:=bitLen_le _ _ a;have c:=Ui _ b;have d:(4294967296:Nat) ^ (Q xs)=2 ^ (32*(Q xs)):=by rw[Nat.pow_mul]
 have f:2 ^ (32*(Q xs))<=2 ^ k:=CV AC AA;omega
@[irreducible] def RetTk (w:World) (a b:Nat) (e:Ending) (w':World):Prop :=
  ∃(A:Option Addr) (c:Nat) (d:List Nat),e = aR (.tuple #[K A d.length c,aB (decide (b<=a))]) /\
   Zq .u32 w' A d.length c d/\Below w.heap.size w w'/\(∀b f,A=some ⟨b,f,none⟩->w.heap.size<=b)/\Hid (b<=a->d=Zq3 (a-b))
def QuoRel(w:World)(xs:List Nat)(b:Nat)(r i:Value)(wr:World):Prop :=
 ∃(k:Nat) (A:Option Addr) (c:Nat) (a d:List Nat),i = aI aJ ((k:Int)-1)/\k<=bitLen (val xs)/\r = K A d.length c/\Zq .u32 wr A d.length c d /\
  (∀b f,A=some ⟨b,f,none⟩->w.heap.size<b)/\Own wr w.heap.size 41 .u32 a/\Below w.heap.size w wr /\
  Hid (a.length=xs.length)/\Lim a/\Hid (val a=val xs / 2 ^ k / b*2 ^ k)/\Hid (d=Zq3 (val xs / 2 ^ k % b))
def RSubRel(w:World)(xs b:List Nat)(o c i:Value)(wr:World):Prop :=
 ∃(k:Nat) (A:Option Addr) (a:Nat),k<=32/\i = aI aJ (k:Int)/\c = aI .u64 ((Xn xs b k).2:Int)/\o = K A k a /\
  wr.ownsRow w.heap.size 41 1 (K A k a) k (nums .u32 (Xn xs b k).1)/\Below w.heap.size w wr
def RLessRel(w:World)(xs b:List Nat)(o c i:Value)(wr:World):Prop :=
 ∃(k:Nat) (A:Option Addr) (a:Nat),k<=33/\i = aI aJ (k:Int)/\c = aI .u64 ((Xn xs b k).2:Int)/\o = K A k a /\
  wr.ownsRow w.heap.size 41 1 (K A k a) k (nums .u32 (Xn xs b k).1)/\Below w.heap.size w wr
def RQuoRel(w:World)(xs:List Nat)(b:Nat)(q r i:Value)(wr:World):Prop :=
 ∃(k:Nat) (A:Option Addr) (c:Nat) (f:Option Addr) (g:Nat) (a d:List Nat),i = aI aJ ((k:Int)-1)/\k<=32*xs.length /\
  q = K A a.length c/\Zq .u32 wr A a.length c a/\r = K f d.length g/\Zq .u32 wr f d.length g d /\
  Below w.heap.size w wr/\Hid (a=Zq3 (val xs / 2 ^ k / b))/\Hid (d=Zq3 (val xs / 2 ^ k % b))
def RDblRel(w:World)(a b:List Nat)(bt:Nat)(c q:Value)(wr:World):Prop :=
 ∃j:Nat,j<=33/\q = aI aJ (j:Int)/\c = aI .u64 ((twP a bt j).2:Int)/\Own wr w.heap.size 41 .u32 ((twP a bt j).1++b.drop j)/\Below w.heap.size w wr
def RetOver(a x:Nat)(Ar:Option Addr)(cr:Nat)(w:World)(e:Ending)(w':World):Prop:=Below w.heap.size w w' /\
 ((a<x/\e = aR (.tuple #[K Ar (Zq3 a).length cr,aB false]))\/(x<=a/\∃A c,e = aR (.tuple #[K A (Zq3 (a-x)).length c,aB true])/\Zq .u32 w' A (Zq3 (a-x)).length c (Zq3 (a-x))))
abbrev Alive24:Prop:=∀w:World,Q2 w->Calls Tryz.prog 7 #[] w λe w'=>e = aR (aB true)/\Below w.heap.size w w'
structure X7 (w:World) (B:Nat) (Aw:Option Addr) (cw:Nat) (wd:List Int) (Ap:Option Addr) (cp:Nat) (ps:List Int):Prop where
 word:w.ownsRow B 3 1 (K Aw wd.length cw) wd.length (ints .i64 wd)
 posts:w.ownsRow B 3 1 (K Ap ps.length cp) ps.length (ints .i64 ps)
 apart:Da (K Aw wd.length cw) (K Ap ps.length cp)
section
open Go.ChangeShapes Go.WideShapes Go.ChangeAt Go.RowKit
theorem Zyl(h:laidMetH prog Nn W):Q2 W:=by
 rw[MakeChecks.laidMetH_plain _ _ _ AB] at h;obtain⟨ps,⟨g0,B,m,u,p0,A,f,s,t,q,_,_⟩,_,_⟩:=h;obtain rfl:=BM (gTab.symm.trans f);obtain rfl:=BM (tTab.symm.trans s);obtain⟨xs,z,rfl,g,x,y,a⟩:=DataW.trod_array underlying272 q;have c1:prog.cellsOf 5=1:=AB
 simp only[DM] at g;have c:=g.1;rw[tab_lits] at c;simp only[DataW.agg.injEq] at c;intro j r;have a:=a j r;have l:xs[j]? = some (xs[j]' AA):=AL AA;rw[l] at a;obtain⟨k,d,n,_⟩:=DataW.trod_int underlying5 a;have b:(xs.map (·.1))[j]? = some (.lit (.int .u8 k)):=by
  rw[BB,l,n];rfl
 rw[<-c,BB] at b;have v:Lib.deBruijn32tab.length=32:=AC
 rw[AL AA] at b;simp only[Ei,BT,DataW.lit.injEq,Lit.int.injEq,true_and] at b;have o:=World.var?_cell f t j;rw[c1] at d;have p:m[j]? = some (.int .u8 k):=by
  have:=congrArg List.head? d;simpa [List.head?_take,List.head?_drop] using this
 rw[o,p,<-b];simp[AL (show j<Lib.deBruijn32tab.length by omega)]
def Zyg{w:World}{b c:Nat}(h:w.cell? ⟨b,c,aN⟩=some v):b<w.heap.size:=by
 rcases BD b w with a | a
 ·exact a
 simp[World.cell?,CZ a] at h
end
section
open Go.ChangeShapes Go.WideShapes Go.ChangeAt Go.RowKit
open Ieee
def atP(a:List Nat)(i:Int):Value:=if 0<=i/\i<=a.length then PV (atN (a.take i.toNat)).1 (atN (a.take i.toNat)).2 else PV 0 0
def B0(A:Option Addr)(n c:Nat)(a:List Nat)(i:Int)(w:World)(h:Zq .u8 w A n c a)(O:n<=100000):
 Calls prog 129 #[K A n c,aI aJ i] w λe w'=>e = aR (atP a i)/\w=w':=by
 obtain rfl:=h.len;have I:=h.cap;by_cases hi:0<=i/\i<=(Q a)
 case neg =>
  have y:atP a i = .complex .f64 0 0:=by unfold atP;rw[if_neg hi,PV_zero]
  rw[y];have F:i<0\/(0<=i/\((Q a):Int)<i):=AA
  rcases F with g | ⟨g,G⟩;all_goals
   go_enter func129,ntmps129;go_wp2;go_ret;exact⟨rfl,rfl⟩
 have t:Hid (atP a i=PV (atN (a.take i.toNat)).1 (atN (a.take i.toNat)).2):=LH (by unfold atP;rw[if_pos hi]);obtain⟨m,rfl⟩:∃m:Nat,i=(m:Int):=⟨i.toNat,AA⟩;obtain⟨J,L⟩:=hi;rw[DH] at t;go_enter func129,ntmps129;go_wp2;go_loop [5,6,7] (λl E i=>∃k d f:Nat,k<=m/\i = aI aJ (k:Int)/\l = aI aJ (d:Int)/\E = aI aJ (f:Int)/\Hid (atN (a.take k)=(d,f))) (λ_ _ i=>m-(intOf i).toNat)
 case atStart=>exact⟨0,1,1,AV _,rfl,rfl,rfl,LH rfl⟩
 obtain⟨k,d,f,M,rfl,rfl,rfl,s⟩:=hrel;have o:=atN_bd (a.take k);have R:(a.take k).length<=100000:=by rw[BU];omega
 rw[s] at o;simp only[] at o;by_cases N:k<m
 ·obtain⟨b,T,x,rfl,H,Hx,p⟩:=h.get (j:=k) AA;have r:atN (a.take (k+1))=H9 (d,f) x:=by
   rw[Du,Hx,<-s];exact atN_snoc _ _
  by_cases v:x=10
  ·subst v;have u:=LH r;go_wp2;go_round
   case rel=>exact⟨k+1,d+1,1,AA,AF,AF,rfl,LH (by rw[u];simp[H9])⟩
   simp[intOf];omega
  have u:=LH r;have S:((x:Int)==10)=false:=by rw[AR];omega
  have D:=LH v;go_wp2;go_round
  case rel=>exact⟨k+1,d,f+1,AA,AF,rfl,AF,LH (by rw[u];simp[H9,D.out])⟩
  simp[intOf];omega
 obtain rfl:k=m:=AA
 have p:=ref_of (d:Int) (f:Int) w;rw[ofP_of d f (okP_of o.1 AA o.2.2.1 AA)] at p;have z:atP a (k:Int)=PV d f:=by rw[t,s]
 generalize PV d f=q at *;have C:=LH z;have B:=LH p;go_wp2_with (go_at_call 180;refine B.out.mono ?_;rintro e w'⟨rfl,rfl⟩);go_ret;exact⟨by rw[C];rfl,rfl⟩
end
section
open Ieee
def Gu(k:IntKind)(xs:List Int):∀u∈ints k xs,u.oneCell'=true:=by
 intro u a;simp only[ints,CX] at a;obtain⟨x,_,rfl⟩:=a;rfl
def Zxx{k:Nat}{a:WSt}{s:Int}(b:l[k]? = some s)(h0:0<=s):Wt f (l.drop k) a top=Wt f (l.drop (k+1)) { a with word:=a.word++[s] } top:=by
 rw[Q8 b,Wt,if_pos h0]
def Zwv{k:Nat}{a:WSt}{s:Int}(c:l[k]? = some s)(h0:¬0<=s)(b:f a (-1-s)=aN):Wt f (l.drop k) a top=aN:=by
 rw[Q8 c,Wt,if_neg h0,b]
def Zxs{k:Nat}{a b:WSt}{s:Int}(d:l[k]? = some s)(h0:¬0<=s)(c:f a (-1-s)=some (b,n)):Wt f (l.drop k) a top=Wt f (l.drop (k+1)) b (max top n):=by
 rw[Q8 d,Wt,if_neg h0,c]
def Stp(G:Gr)(a:WSt)(non:Int)(b:WSt)(n:Nat):Prop :=
 ∃i r c d w1 m,Ur G i=some r/\r.L=non/\Fs G r.rt c d w1 m/\n=m+1/\a.rest=i::(c++b.rest)/\b.word=a.word++w1/\b.posts=a.posts++(d++[i])
end
section
open Go.Maps (Keyed IsMap Tidy)
variable {W0:World} {k:BkH} {h:GH} {G:Gr} {S':Nat->Prop} {w:World} {gR:Nat} {b:Nat->Bool} {u:Nat->Value} {X:World}
def Zsj{o:Nat}{v:Value}{b:List Int}(h:(ints .i64 b)[o]? = some v):∃z,v = aI aJ z:=by
 simp only[ints,List.getElem?_map] at h;cases a:b[o]? with
 | none=>rw[a] at h;cases h
 | some z=>rw[a] at h;injection h with h;exact⟨z,h.symm⟩
def Ug(T:Int->Nat->Nat)(s:Int)(l:List Int)(n:Nat):Yv T s l n 0=0:=rfl
def quo_one{a b F r c:Nat}(h1:r<F)(j:c<F)(h:a*F+r=b*F+c):a=b/\r=c:=by
 have d:0<F:=AA
 have f:(a*F+r) / F=a:=by rw[Em,Nat.add_mul_div_right _ _ d,Nat.div_eq_of_lt h1,BF]
 have g:(b*F+c) / F=b:=by rw[Em,Nat.add_mul_div_right _ _ d,Nat.div_eq_of_lt j,BF]
 have:a=b:=by rw[<-f,<-g,h]
 subst this;exact⟨rfl,AA⟩
end
section
variable {P:Program} {Γ:Type} {R:World->World->Prop}
def backA(l:List Oper):Bool:=(List.range l.length).all λi=>((l[i]?).map λo=>o.after.toList.all λe=>!Region.binds .any e || decide (e.on<i)).getD true
def Zzk{l:List Oper}(f:backA l=true)(h:Region.ready .any l.toArray listed=[]):∀i,i<(Q l)->listed.getD i true=true:=by
 intro i
 induction i using Nat.strongRecOn with
 | ind i m =>
   intro hi;cases c:listed.getD i true with
   | true=>rfl
   | false =>
     exfalso;have b:i∈Region.ready .any l.toArray listed:=by
      refine mem_ready.2 ⟨c,l[i],by simp[hi],λe j g=>?_⟩;have h1:=BG.1 f i (BP.2 hi);rw[AL hi,Ei,Option.getD_some,BG] at h1;have a:=h1 e (by simpa using j);rw[g] at a;have a:e.on<i:=El (by simpa using a);have d:=m e.on a AA;have n:i<listed.size:=by
       rcases BD i listed.size with h | h
       ·exact h
       simp[Array.getD,Nat.not_lt.2 h] at c
      have k:e.on<listed.size:=AA
      simpa [Array.getD,k] using d
     rw[h] at b;cases b
end
section
open Go.RowKit Go.Shelf
attribute [local go_sem] Oper.semAt_some
def Zrq.b{a b:Nat}{w:World}(d:a<w.heap.size)(f:b<w.heap.size)(W:World)(l:Nat)(o c:Obj)(g:w.heap.size<=l)(h:W.heap[l]? = some o)(_:o.isCells=false)(_:o.isWalk=false):Zrq a b W (W.putObj l c) :=
 ⟨World.putObj_heap_other AA,World.putObj_heap_other AA⟩
end
section
open Go.RowKit Go.Shelf
attribute [local go_sem] Oper.semAt_some
open Go.RowKit Go.Shelf
def Zrh{w:World}(h:Zqy w W v)(o:Obj):Zqy w (W.alloc o) v:=⟨Boxed.alloc h.b o,Boxed.alloc h.r0 o,Boxed.alloc h.r1 o,Boxed.alloc h.r2 o⟩
end
section
open Go.ChangeShapes Go.WideShapes Go.ChangeAt Go.RowKit
open Go.ChangeShapes Go.WideShapes Go.ChangeAt Go.RowKit
open Go.ChangeShapes Go.WideShapes Go.ChangeAt Go.RowKit Go.Lib Go.Deep
variable {H:Type} {enc:TypeId × Value->H} {w:World} {base:Nat} {sp:Nat->Bool} {held:Bool}
def elem3{P:Program}{e:TypeId}{b c d:Field}(v:P.underlying e=some (.struct #[b,c,d]))(C:P.cellsOf e=3)(z:b.offset=0)(A:c.offset=1)(B:d.offset=2)(c0:P.cellsOf b.type=1)(c1:P.cellsOf c.type=1)(c2:P.cellsOf d.type=1)
 {a:Addr} {i n:Nat} {cs:List Value} {y:DataW H × List MemPlace} (h1:w.cells? base (a.add (i*3)) 3=some cs) (u:DataW.trod enc P w base sp held n e cs=some y) :
 ∃f g h l m o k,w.cell? (a.add (i*3))=some f/\w.cell? (a.add (i*3+1))=some g/\w.cell? (a.add (i*3+2))=some h /\
  DataW.trod enc P w base sp held k b.type [f]=some l/\DataW.trod enc P w base sp held k c.type [g]=some m/\DataW.trod enc P w base sp held k d.type [h]=some o:=by
 obtain⟨_,x,j⟩:=World.cells?_some h1;obtain⟨l,m,o,k,_,_,g0,s,t⟩:=trod_struct3 v u
 match cs,x with
 | [f,g,h],_ =>
   have p:=j 0 (by omega);have q:=j 1 (by omega);have r:=j 2 (by omega);rw[Addr.add_add] at p q r;simp[z,A,B,c0,c1,c2] at g0 s t;exact⟨f,g,h,l,m,o,k,by simpa using p,by simpa using q,by simpa using r,g0,s,t⟩
end
section
open Go.ChangeShapes Go.WideShapes Go.ChangeAt Go.RowKit
open Go.ChangeShapes Go.WideShapes Go.ChangeAt Go.RowKit
open Go.ChangeShapes Go.WideShapes Go.ChangeAt Go.RowKit Go.Lib Go.Deep
open Go.ChangeShapes Go.WideShapes Go.ChangeAt Go.RowKit Go.Lib Go.Deep
def Kv{G:Gr}(h:G.great=false):(Q G.T)<=40/\(Q G.O)<=40/\(Q G.U)<=60/\∀r∈G.U,(Q r.rt)<=20:=by
 unfold Gr.great at h;simp at h;obtain⟨⟨⟨h1,a⟩,b⟩,c⟩:=h;exact⟨h1,a,b,c⟩
def Zv7(d a r:Nat)(w:World)(e:Ending)(w':World):Prop:=Below w.heap.size w w'/\∃A c,e = aR (aG #[aI aJ (d:Int),aI aJ (a:Int),K A (Zq3 r).length c])/\Zq .u32 w' A (Zq3 r).length c (Zq3 r)
end
end
section
variable{w w' l:World}{h:GH}{G:Gr}{args cs:Array Value}{v s:Value}{g c B n m o i x:Nat}{Ar d A j:Option Addr}{t:TypeId}{ts:List Tk}{ss:List ByteArray}{ps:List Prd}{p q xs:List Nat}{N:List Bool}{ops:Array Oper}{J:Array Bool->Act->World->Prop}{b:Bool}{r:List (Value × Nat)}
def Yf.below(g:Yf w h G)(a:Below w w w'):Yf w' h G:=⟨g.T.below a,g.O.below a,g.U.below a,g.wf⟩
def Vu.nil(w:World)(a:Nat->Prop):Vu w a [] []:=⟨rfl,λj t h=>by simp at h⟩
def Kz.nil(w:World)(a:Nat->Prop):Kz w a [] []:=⟨rfl,λj t h=>by simp at h⟩
def Lim.nil:Lim []:=λ_ h=>by cases h
def Ga(f:Nat):∀n,n<4294967296 ^ f->val (Ft f n)=n/\Lim (Ft f n):=by
 induction f with
 | zero=>intro n h;simp at h;subst h;exact⟨rfl,Lim.nil⟩
 | succ f b =>
   intro n h;unfold Ft;by_cases h0:n=0
   ·subst h0;simp[val,Lim.nil]
   rw[if_neg h0];have hd:n / 4294967296<4294967296 ^ f:=by
    rw[Nat.pow_succ] at h;exact Nat.div_lt_of_lt_mul (by rw[Ef];exact h)
   obtain⟨h1,a⟩:=b _ hd;refine⟨?_,Lim.mk (Nat.mod_lt _ AC) a⟩;simp only[val,h1];omega
def Yd(n:Nat):val (Zq3 n)=n:=(Ga _ n (Zth n)).1
def Z9(n:Nat):Lim (Zq3 n):=(Ga _ n (Zth n)).2
def limbsF_tight(f:Nat):∀n,n<4294967296 ^ f->Mo (Ft f n):=by
 induction f with
 | zero=>intro n _ ys x h;simp[Ft] at h
 | succ f d =>
   intro n h ys x a;unfold Ft at a;by_cases h0:n=0
   ·simp[h0] at a
   rw[if_neg h0] at a;have hd:n / 4294967296<4294967296 ^ f:=by
    rw[Nat.pow_succ] at h;exact Nat.div_lt_of_lt_mul (by rw[Ef];exact h)
   cases ys with
   | nil =>
     simp only[DA,List.cons.injEq] at a;obtain⟨h1,c⟩:=a;have b:=(Ga f _ hd).1;rw[c] at b;simp[val] at b;omega
   | cons y ys =>
     simp only[DL,List.cons.injEq] at a;exact d _ hd ys x a.2
def Fk(n:Nat):Mo (Zq3 n):=limbsF_tight _ n (Zth n)
def Vt(n k:Nat):(Zq3 n).length<=k↔n<4294967296 ^ k:=by
 constructor
 ·intro h;have h1:=Ui _ (Z9 n);rw[Yd] at h1;exact AK h1 (CV AC h)
 intro h;rcases BD k (Zq3 n).length with a | a
 ·exfalso;rcases List.eq_nil_or_concat (Zq3 n) with h0 | ⟨ys,x,b⟩
  ·simp[h0] at a
  rw[List.concat_eq_append] at b;have h0:=Fk n ys x b;have c:=Yd n;rw[b,Wf] at c;rw[b] at a;simp at a;have d:(4294967296:Nat) ^ k<=4294967296 ^ (Q ys):=CV AC AA;have f:4294967296 ^ (Q ys)*1<=4294967296 ^ (Q ys)*x:=Eg _ AA;omega
 exact a
section
open Go.RowKit Go.Shelf
attribute [local go_sem] Oper.semAt_some
def values_stops(n:Nat)(H:1<=n)(d k L cap:Nat)(A:Option Addr)(c:List ByteArray)(I:(Q c)<=1000)(w:World)(y:d<w.heap.size)(S:k<=w.heap.size)(C:w.cell? ⟨d,0,aN⟩=some (K A L cap))(g:Js w A L cap c)(v:0<L->∀a,A=some a->a.block<k):
 SeqStopsK Fence.wide n prog 193 #[aP (some ⟨d,0,aN⟩)] (λx:ByteArray=>#[aS x]) (Below k) (λys=>ys=c) (λN=>N <+: c) (Q c) w:=λl J u W o _ _ B m=>by
 have q:=(o.cell (p:=⟨d,0,aN⟩) y).trans C;obtain rfl:=g.len;rcases BW (Q c) with h | h
 ·have M:=BH h;subst M;exact (values1_none n l d cap A J W q m).mono λe O ⟨F,G⟩=>⟨F,.inl ⟨_,rfl,G⟩⟩
 obtain⟨b,r,s,rfl,R,_,_⟩:=g.get h;have z:=g.below o;have E:∀j s,c[j]? = some s->W.cell? ⟨b,r+j,aN⟩=some (aS s):=λj s f=>by
  obtain⟨P,T,U,e,_,t,D⟩:=z.get (AN.1 f).1;injection e with e;injection e with e1 e2;subst e1;subst e2;rw[t] at f;injection f with f;rw[D,f]
 exact values1_in n H l d k b r cap c I (v h _ rfl) J u B W q g.cap E m
def appendSeq_in(n:Nat)(hn:3<=n)(f L cap:Nat)(A:Option Addr)(m:List ByteArray)(Y:(Q m)<=1000)(w:World)(O:f<w.heap.size)(T:w.cell? ⟨f,0,aN⟩=some (aK A L cap))(u:Js w A L cap m):
 CallsIn Fence.wide n prog 214 #[aK aN 0 0,.func (.func 193) #[] #[aP (some ⟨f,0,aN⟩)]] w λe w' =>
  ∃v,e = aR v/\w'.ownsRow w 9 1 v (Q m) (m.map aS)/\Below w w w':=by
 have J:1<=n:=AA
 have V:(prog.info? 9).map (λi=>(i.zero,i.size,i.bytes))=some (some (aS ⟨#[]⟩),1,16):=AB
 obtain⟨i0,hi,ab,ad,ae⟩:=info_parts V;refine callsIn_of_wp_marks func214 rfl trivial ?_ rfl;simp only[ntmps214,List.size_toArray,AY,DE,Nat.reduceAdd,Nat.reduceSub,Array.replicate_succ,Array.replicate_zero,List.push_toArray,List.append_toArray,DA,DL]
 gi_wp2
 have E:=Boxed.new w 23 (aK aN 0 0);have t:Below w w (w.alloc (aC #[aK aN 0 0] 23)):=(AP _ w).alloc (AJ _) _;have M:0<L->∀a,A=some a->a.block<w.heap.size:=λh a R=>by
  obtain⟨b,ao,s,e,S,_⟩:=u.get h;rw[R] at e;injection e with e;rw[e];exact S
 have aa:=values_stops (n-1) AA f w L cap A m Y w O (AJ _) T u M;refine wpIn_rangeFunc_ownG (F:=Fence.wide) (n:=n) rfl J (gf:=193) (lb:=#[aP (some ⟨f,0,aN⟩)]) rfl trivial (enters_of func193 AB rfl)
  aa belowK_t (belowK_b AE) t (λ_=>rfl)
  (λd W=>(∃v,Boxed W w 23 v/\W.ownsRow w 9 1 v (Q d) (d.map aS)/\True)/\Below w w W)
  (λ_ _ _=>False)
  (OwnFrom.and (Own.from (holdsRow_own w w 23 9 1 (λd:List ByteArray=>(Q d)) (λd=>d.map aS) (λ_ _=>True)) _) (ownFrom_below (AJ _) AE))
  (λ_ _ _ _ _ Z _ _=>Z)
  ⟨⟨_,E,⟨rfl,.inl ⟨rfl,rfl⟩⟩,trivial⟩,t⟩
  (λx=>{ tmps:=#[aK aN 0 0,.func (.func 193) #[] #[aP (some ⟨f,0,aN⟩)],aP (some ⟨w,0,aN⟩),undef,aK aN 0 0,aS x,.func (.func 193) #[] #[aP (some ⟨f,0,aN⟩)],aS x,undef,undef,undef,undef,undef],defers:=[] }) ?assign ?body ?done ?stop
 case assign =>
  intro l x W K j
  gi_wp2
  exact j
 case body =>
  rintro l d x W⟨⟨v,g,k,_⟩,o⟩ al;have y:=g.cell;have U:=g.frozen;have N:=o.size;have an:=g.lt
  gi_wp2_with (gi_at_builtin;refine wpListIn_append_own _ rfl _ _ 23 rfl w 9 i0 (aS ⟨#[]⟩) 1 16 underlying23 hi ab ad ae rfl AC _ _ _ rfl (k.alloc _) ⟨W,0,aN⟩ 1 1 [aS x] rfl rfl (cell_one_new _ _ _) (by simp[Value.oneCell']) (by simp[maxLen];omega) AA AG ?_;intro v' w3 q z X;have B:(W.alloc (aC #[aS x] 9)).grownBy w3 v.ownBlock:=z;obtain⟨g',ah,rfl⟩:=ownsRow_succ q;have p:=g.appended AC k N (AJ _) q B;have aj:=p.1.cell;have ak:=p.1.frozen;have C:=LH p;clear p z B q X k y U;go_frame)
  obtain⟨_,G,H,I,r⟩:=C.out;exact⟨I.from _,r,⟨_,G,by simpa using H,trivial⟩,o.trans r⟩
 case done =>
  rintro D ys W P rfl⟨⟨v,g,k,_⟩,o⟩ j;have y:=g.cell
  gi_wp2
  refine⟨AE,.inl ⟨_,_,rfl,run_takeDeferred j,?_⟩⟩;exact⟨_,results_tmp rfl _ _ _,v,rfl,ownsRow_putObj k _ j rfl,o.trans (belowK_b (w:=w) (AJ _) W D _ _ (by simp at P;omega) j rfl rfl)⟩
 rintro D c d W _ _ h _;exact h.elim
end
section
open Go.RowKit Go.Shelf
attribute [local go_sem] Oper.semAt_some
open Go.RowKit Go.Shelf Go.Sort
def collect_s(b L cap:Nat)(A:Option Addr)(a:List ByteArray)(k:(Q a)<=1000)(w:World)(g:b<w.heap.size)(d:w.cell? ⟨b,0,aN⟩=some (K A L cap))(c:Js w A L cap a):
 Calls prog 191 #[.func (.func 193) #[] #[aP (some ⟨b,0,aN⟩)]] w λe w' =>
  ∃v,e = aR v/\w'.ownsRow w 9 1 v (Q a) (a.map aS)/\Below w w w':=by
 have f:=(callsIn_wide (n:=3)).1 (appendSeq_in 3 AC b L cap A a k w g d c);have H:=LH f;clear f d c;go_enter func191,ntmps191;go_wp2_with (go_at_call 214;refine H.out.mono ?_;rintro e l⟨v,rfl,j,h⟩);go_ret;exact⟨v,rfl,j,h⟩
def sorted_s(b L cap:Nat)(A:Option Addr)(a:List ByteArray)(G:(Q a)<=1000)(w:World)(B:b<w.heap.size)(q:w.cell? ⟨b,0,aN⟩=some (K A L cap))(p:Js w A L cap a):
 Calls prog 141 #[.func (.func 193) #[] #[aP (some ⟨b,0,aN⟩)]] w (RetSorted w a):=by
 have H:=LH (collect_s b L cap A a G w B q p);clear q p;go_enter func141,ntmps141;go_wp2_with (go_at_call 191;refine H.out.mono ?_;rintro e W⟨v,rfl,I,g⟩);have s:(byL a).length=(Q a):=by simp[byL]
 rcases I.2 with ⟨rfl,J⟩ | ⟨c,m,U,rfl,h,k,O,P,R,S⟩
 ·have M:=BH J;subst M;have z:=LH (Tryz.slices_Sort_string_none aN 0 W);go_wp2_with (go_at_call 192;refine z.out.mono ?_;rintro e w'⟨rfl,rfl⟩);go_ret;exact⟨g,.inl ⟨rfl,rfl⟩⟩
 have r:c<W.heap.size:=(Array.getElem?_eq_some_iff.1 k).1;have o:Holds encStr W c 0 (byL a).toArray:=holds_of_block k (by rw[s,encStr_byL];simpa using S);have d:=Tryz.slices_Sort_string c 0 m (byL a) W o r AA;rw[s] at d;have u:=LH d;clear d o;go_wp2_with (go_at_call 192;refine u.out.mono ?_;rintro e w'⟨rfl,l,os,rfl⟩);go_ret;have t:((byL a).mergeSort λx y=>decide (x<=y)).length=(byL a).length:=AE
 have F:=ownsRow_sorted (n:=l) (os:=os) t h k AA P R;have C:=g.grown (grownBy_sorted (n:=l) (os:=os) ((byL a).mergeSort λx y=>decide (x<=y)).toArray) g.size (λj E=>by cases E;exact h);refine⟨C,.inr ⟨c,m,rfl,h,?_,O,?_⟩⟩
 ·exact AK r (grownBy_sorted (n:=l) (os:=os) _).size
 rcases F.2 with ⟨f,_⟩ | ⟨X,T,V,f,_,D,_,_,_,N⟩
 ·cases f
 injection f with e1 _ _;injection e1 with e1;injection e1 with e1;subst e1;exact holds_of_block D (by rw[t];simpa using N)
def Zr(w:World)(x:Ext w):Below w w (bl w x):=x.below
def Yt(w:World)(x:Ext w)(b o:Nat)(h:b<w.heap.size):(bl w x).cell? ⟨b,o,aN⟩=w.cell? ⟨b,o,aN⟩:=x.below.cell (p:=⟨b,o,aN⟩) h
def Kh(w:World)(x:Ext w)(b o:Nat)(h:b<w.heap.size):(bl w x).frozen? ⟨b,o,aN⟩=w.frozen? ⟨b,o,aN⟩:=x.below.frozen (p:=⟨b,o,aN⟩) h
def Lb(w:World)(x:Ext w):w.heap.size<=(bl w x).heap.size:=x.below.size
def Ve{P:Program}{f:FuncId}{x:Ext w}(h:Calls P f args (bl w x) λe w'=>e = aR v/\Below (bl w x).heap.size (bl w x) w'):Calls P f args (bl w x) λe a=>e = aR v/\∃y,a=bl w y :=
 h.mono λ_ a ⟨c,b⟩=>⟨c,⟨a,Zz (Zr w x) b⟩,rfl⟩
def Y1.below{c:Int}(l:Y1 w g h c)(b:Below w w w'):Y1 w' g h c:=by
 obtain⟨a,d,f,j,k⟩:=l;refine⟨AK a b.size,?_,?_,?_,?_⟩
 ·rw[b.cell (p:=⟨g,0,aN⟩) a];exact d
 ·rw[b.cell (p:=⟨g,1,aN⟩) a];exact f
 ·rw[b.cell (p:=⟨g,2,aN⟩) a];exact j
 rw[b.cell (p:=⟨g,3,aN⟩) a];exact k
def rf_terms(h:GH)(G:Gr)(w:World)(R:Yf w h G):
 Calls prog 53 #[GV h G.zt] w λe w'=>e = aR (aB G.termsOK)/\Below w w w':=by
 obtain⟨a1,n1,c1,a2,n2,c2,a3,n3,c3⟩:=h;have ht:N8 w a1 n1 c1 G.T:=R.T;have hl:(Q G.T)=n1:=ht.len;have bw:=ht.cap;have V:Hid (G.termsOK=(decide (n1<=24)&&Cg G.termOK G.T)):=LH (by unfold Gr.termsOK;rw[hl]);by_cases h1:n1<=24
 case neg =>
  have X:Hid (G.termsOK=false):=LH (by rw[V.out];simp;omega);have d1:decide ((24:Int)<(n1:Int))=true:=AG
  clear R h1;go_enter func53,ntmps53;go_wp2_with fail;go_ret;exact⟨by rw[X.out];rfl,Zy _ _⟩
 have W:Hid (G.termsOK=Cg G.termOK G.T):=LH (by rw[V.out];simp;omega);have d1:decide ((24:Int)<(n1:Int))=false:=AG
 have Hg:=LH R;clear V R;go_enter func53,ntmps53;have ay:=Y1.new w 26 ⟨a1,n1,c1,a2,n2,c2,a3,n3,c3⟩ G.zt;go_wp2_with fail;go_loopw [3,4,5] (λi t n wr=>∃(k:Nat),k<=n1/\i = aI aJ (k:Int)/\Below w w wr/\Y1 wr w ⟨a1,n1,c1,a2,n2,c2,a3,n3,c3⟩ G.zt/\Hid (∀j,j<k->∀y,G.T[j]? = some y->(!G.termOK j y)=false)) (λi _ _ _=>n1-(intOf i).toNat)
 case atStart=>exact⟨0,AV _,rfl,Zy _ _,ay,LH λj S=>AA⟩
 clear ay;obtain⟨v,rfl⟩:∃v:World,v=wr:=⟨_,rfl⟩;obtain⟨k,hk,rfl,hB,ad,Hk⟩:=hrel;have⟨z5,z0,z1,z2,z3⟩:=ad;simp only[] at z0 z1 z2 z3;by_cases az:k<n1
 ·obtain⟨b,T,t,rfl,hb,Y,q0,q1,q2⟩:=ht.get az;rw[<-hB.cell (by exact hb)] at q0 q1 q2;have J:=hB.alloc (DS z5) (aC #[aS t.name,aI aJ t.V,aI aJ t.S] 140);have ai:=ad.below (Zy v (aC #[aS t.name,aI aJ t.V,aI aJ t.S] 140));have p0:=Wg v 140 #[aS t.name,aI aJ t.V,aI aJ t.S] 0;have p1:=Wg v 140 #[aS t.name,aI aJ t.V,aI aJ t.S] 1;have p2:=Wg v 140 #[aS t.name,aI aJ t.V,aI aJ t.S] 2;have p5:=Zl v (aC #[aS t.name,aI aJ t.V,aI aJ t.S] 140);simp only[DQ,List.getElem?_cons_zero,List.getElem?_cons_succ] at p0 p1 p2;go_wp2_with fail;generalize v.alloc (aC #[aS t.name,aI aJ t.V,aI aJ t.S] 140)=q at *;have af:=Hg.out.below J;have a0:v.heap.size<q.heap.size:=AA
  clear p5 q0 q1 q2 z0 z1 z2 z3 ad;generalize v.heap.size=gt at *;have⟨z5',z0,z1,z2,z3⟩:=ai;simp only[] at z0 z1 z2 z3;have cN:=Zxg t.name q;have N:=λhh=>C6 ⟨some ⟨b,T,aN⟩,n1,c1,a2,n2,c2,a3,n3,c3⟩ G t.name q af hh;have N:=N (by simp only[];omega);have ae:G.termOK k t=(decide (G.term t.name=(k:Int))&&Up t&&Nc G.T t):=rfl;unfold Up at ae;have an:=LH ae;clear ae;generalize Q7 t.name=s at *;generalize G.term t.name=u at *;have C:=LH cN;have CT:=LH N;clear cN N;have br:(s=false\/(s=true/\u≠k)\/(s=true/\u=k/\t.V<0)\/(s=true/\u=k/\0<=t.V/\24<t.V)\/(s=true/\u=k/\0<=t.V/\t.V<=24/\t.S<0)\/(s=true/\u=k/\0<=t.V/\t.V<=24/\0<=t.S/\3<t.S) \/
   (s=true/\u=k/\0<=t.V/\t.V<=24/\0<=t.S/\t.S<=3/\t.V=0/\t.S≠0)\/(s=true/\u=k/\0<=t.V/\t.V<=24/\0<=t.S/\t.S<=3/\t.V≠0/\t.S=0)) \/
   (s=true/\u=k/\0<=t.V/\t.V<=24/\0<=t.S/\t.S<=3/\(t.V=0/\t.S=0\/t.V≠0/\t.S≠0)):=by
   cases s
   ·simp
   simp only[Bool.true_eq_false,false_or,true_and];omega
  rcases br with ax | bq
  ·have A:Hid (G.termsOK=false):=LH (by
    rw[W.out];refine Lp Y.out ?_;rw[an.out];rcases ax with rfl | ⟨rfl,g⟩ | ⟨rfl,g,c⟩ | ⟨rfl,g,c,r⟩ | ⟨rfl,g,c,r,x⟩ | ⟨rfl,g,c,r,x,B⟩ | ⟨rfl,g,c,r,x,B,a,f⟩ | ⟨rfl,g,c,r,x,B,a,f⟩
    ·simp
    ·simp[g]
    ·simp;omega
    ·simp;omega
    ·simp;omega
    ·simp;omega
    ·simp[a,f]
    simp[a,f])
   have E:=LH J;clear J;have D:Hid (Calls prog 114 #[GV ⟨some ⟨b,T,aN⟩,n1,c1,a2,n2,c2,a3,n3,c3⟩ G.zt,aS t.name] q λe w'=>e = aR (aI aJ u)/\(∀b o,b<q.heap.size->w'.cell? ⟨b,o,aN⟩=q.cell? ⟨b,o,aN⟩)/\Hid (Below w w w')):=CT.out.mono λe w' h=>⟨h.1,(Jd h.2).1,LH (E.out.trans (h.2.mono E.out.size))⟩;clear CT hk az;rcases ax with rfl | ⟨rfl,g⟩ | ⟨rfl,rfl,c⟩ | ⟨rfl,rfl,c,r⟩ | ⟨rfl,rfl,c,r,x⟩ | ⟨rfl,rfl,c,r,x,B⟩ | ⟨rfl,rfl,c,r,x,B,a,f⟩ | ⟨rfl,rfl,c,r,x,B,a,f⟩
   ·go_wp2_with (go_at_call 113;(with_reducible refine C.out.mono ?_);rintro e M⟨rfl,rfl⟩);go_ret;exact⟨by rw[A.out];rfl,E.out⟩
   ·have d:(u != (k:Int))=true:=by rw[BK];exact g
    clear g;go_wp2_with (first
     | (go_at_call 113;(with_reducible refine C.out.mono ?_);rintro e M⟨rfl,rfl⟩)
     | (go_at_call 114;(with_reducible refine D.out.mono ?_);rintro e z⟨rfl,H,p⟩))
    go_ret;exact⟨by rw[A.out];rfl,p.out⟩
   iterate 4
    ·go_wp2_with (first
     | (go_at_call 113;(with_reducible refine C.out.mono ?_);rintro e M⟨rfl,rfl⟩)
     | (go_at_call 114;(with_reducible refine D.out.mono ?_);rintro e z⟨rfl,H,p⟩))
     go_ret;exact⟨by rw[A.out];rfl,p.out⟩
   ·have Z:(t.V==0)=true:=by rw[BS];exact a
    have e2:(t.S==0)=false:=by rw[AR];exact f
    clear a f;go_wp2_with (first
     | (go_at_call 113;(with_reducible refine C.out.mono ?_);rintro e M⟨rfl,rfl⟩)
     | (go_at_call 114;(with_reducible refine D.out.mono ?_);rintro e z⟨rfl,H,p⟩))
    go_ret;exact⟨by rw[A.out];rfl,p.out⟩
   have Z:(t.V==0)=false:=by rw[AR];exact a
   have e2:(t.S==0)=true:=by rw[BS];exact f
   clear a f;go_wp2_with (first
    | (go_at_call 113;(with_reducible refine C.out.mono ?_);rintro e M⟨rfl,rfl⟩)
    | (go_at_call 114;(with_reducible refine D.out.mono ?_);rintro e z⟨rfl,H,p⟩))
   go_ret;exact⟨by rw[A.out];rfl,p.out⟩
  obtain⟨rfl,rfl,c,r,x,B,a⟩:=bq;have E:=LH J;have bv:=LH af;have bd:=LH ai;have D:Hid (Calls prog 114 #[GV ⟨some ⟨b,T,aN⟩,n1,c1,a2,n2,c2,a3,n3,c3⟩ G.zt,aS t.name] q λe w'=>e = aR (aI aJ (k:Int))/\(∀b o,b<q.heap.size->w'.cell? ⟨b,o,aN⟩=q.cell? ⟨b,o,aN⟩)/\Hid (Below q q w')):=CT.out.mono λe w' h=>⟨h.1,(Jd h.2).1,LH h.2⟩;have ar:Hid (G.termOK k t=Nc G.T t):=LH (by
   rw[an.out];rcases a with ⟨a,f⟩ | ⟨a,f⟩
   ·simp[a,f]
   have h9:0<=t.V/\t.V<=24/\0<=t.S/\t.S<=3:=⟨c,r,x,B⟩;simp[a,f,h9])
  have bk:((t.V==0)=true/\(t.S==0)=true)\/((t.V==0)=false/\(t.S==0)=false):=by
   rw[BS,BS,AR,AR];exact a
  clear CT J af ai a;rcases bk with ⟨Z,e2⟩ | ⟨Z,e2⟩;all_goals
   go_wp2_with (first
    | (go_at_call 113;(with_reducible refine C.out.mono ?_);rintro e M⟨rfl,rfl⟩)
    | (go_at_call 114;(with_reducible refine D.out.mono ?_);rintro e z⟨rfl,H,p⟩))
   have aw:=E.out.trans (p.out.mono E.out.size);have a4:=bd.out.below p.out;have r1:z.cell? ⟨gt,1,aN⟩=some (aI aJ t.V):=by rw[H _ _ a0];exact p1
   have bo:=AK a0 p.out.size;have be:=LH a4;clear H p p0 p1 p2 z0 z1 z2 z3 a4;go_loopw [5] (λn wr=>∃m:Nat,(m:Int)<=t.V/\n = aI aJ ((m:Int)+1)/\Below z z wr/\Hid (∀j:Nat,j<m->J9 G.T ((j:Int)+1)=true)) (λn _=>t.V.toNat+1-(intOf n).toNat)
   case atStart=>exact⟨0,c,rfl,AP _ _,LH λj S=>AA⟩
   obtain⟨m,hm,rfl,L,Hm⟩:=hrel;rw[<-L.cell (by exact bo)] at r1;have aj:=be.out.below L;have⟨z5',z0,z1,z2,z3⟩:=aj;simp only[] at z0 z1 z2 z3;have O:=aw.trans (L.mono aw.size);have ag:=Hg.out.below O;have am:=LH O;have bf:=LH aj;have bp:w.heap.size<=wr.heap.size:=O.size;have al:=LH L;clear O aj L;by_cases bz:(m:Int)+1<=t.V
   ·have F:=rf_level ⟨some ⟨b,T,aN⟩,n1,c1,a2,n2,c2,a3,n3,c3⟩ G ((m:Int)+1) wr ag (by simp only[];omega);cases I:J9 G.T ((m:Int)+1)
    ·have A:Hid (G.termsOK=false):=LH (by
      rw[W.out];refine Lp Y.out ?_;rw[ar.out];exact Jy (l:=List.range t.V.toNat) (j:=m) (y:=m) (by rw[List.getElem?_range];omega) I)
     rw[I] at F;have U:=LH F;clear F I ag;go_wp2_with (go_at_call 115;(with_reducible refine U.out.mono ?_);rintro e w6⟨rfl,P⟩);go_ret;exact⟨by rw[A.out];rfl,am.out.trans (P.mono bp)⟩
    rw[I] at F;have U:=LH F;have bb:=LH I;clear F I ag;go_wp2_with (go_at_call 115;(with_reducible refine U.out.mono ?_);rintro e w6⟨rfl,P⟩);have ba:=LH (al.out.trans (P.mono al.out.size));clear P;go_roundw
    case rel=>exact⟨m+1,AA,AF,ba.out,LH λj S=>by
     rcases BD j m with h | h
     ·exact Hm.out j h
     obtain rfl:j=m:=AA
     exact bb.out⟩
    simp[intOf];omega
   have bc:Hid ((!G.termOK k t)=false):=LH (by
    rw[ar.out];have:Nc G.T t=true:=by
     unfold Nc;rw[BG];intro j S;rw[BP] at S;exact Hm.out j AA
    rw[this];rfl)
   go_wp2_with fail;go_roundw
   case rel=>exact⟨k+1,AA,AF,am.out,bf.out,LH (Lr Hk.out Y.out bc.out)⟩
   simp[intOf];omega
 obtain rfl:k=n1:=AA
 have X:Hid (G.termsOK=true):=LH (by
  rw[W.out];refine Kc λj y hy=>?_;have:=Hk.out j (by have:=(AN.1 hy).1;omega) y hy;simpa using this)
 go_wp2_with fail;go_ret;exact⟨by rw[X.out];rfl,hB⟩
end
def rf_nons(h:GH)(G:Gr)(w:World)(o:Yf w h G)(U:h.n1<=1000):
 Calls prog 54 #[GV h G.zt] w λe w'=>e = aR (aB G.nonsOK)/\Below w w w':=by
 obtain⟨a1,n1,c1,a2,n2,c2,a3,n3,c3⟩:=h;have A:Js w a2 n2 c2 G.O:=o.O;have W:(Q G.O)=n2:=A.len;have af:=A.cap;simp only[] at U;have r:Hid (G.nonsOK=(decide (1<=n2/\n2<=16)&&Cg G.nonOK G.O)):=LH (by unfold Gr.nonsOK;rw[W]);by_cases n:1<=n2/\n2<=16
 case neg =>
  have u:Hid (G.nonsOK=false):=LH (by rw[r];simp only[n,decide_false,Bool.false_and]);have Y:((n2:Int)<1)\/((1:Int)<=(n2:Int)/\(16:Int)<(n2:Int)):=AA
  clear o n;rcases Y with d | ⟨d,d2⟩;all_goals
   go_enter func54,ntmps54;go_wp2_with fail;go_ret;exact⟨by rw[u];rfl,Zy _ _⟩
 have D:Hid (G.nonsOK=Cg G.nonOK G.O):=LH (by rw[r];simp only[n,and_self,decide_true,Bool.true_and]);obtain⟨ai,aj⟩:=n;have S:=LH o;clear r o;go_enter func54,ntmps54;have N:=Y1.new w 26 ⟨a1,n1,c1,a2,n2,c2,a3,n3,c3⟩ G.zt;go_wp2_with fail;go_loopw [3] (λi wr=>∃(k:Nat),k<=n2/\i = aI aJ (k:Int)/\Below w w wr/\Y1 wr w ⟨a1,n1,c1,a2,n2,c2,a3,n3,c3⟩ G.zt/\Hid (∀j,j<k->∀y,G.O[j]? = some y->(!G.nonOK j y)=false)) (λi _=>n2-(intOf i).toNat)
 case atStart=>exact⟨0,AV _,rfl,Zy _ _,N,LH λj hj=>AA⟩
 clear N;obtain⟨k,hk,rfl,c,v,E⟩:=hrel;have⟨z5,z0,z1,z2,z3⟩:=v;simp only[] at z0 z1 z2 z3;by_cases V:k<n2
 ·obtain⟨b,R,s,rfl,L,F,q0⟩:=A.get V;rw[<-c.cell (by exact L)] at q0;have ae:=AK L c.size;have z:=S.below c;have H:=λw=>Zx8 s w;have I:=λ(x:Ext wr)=>Zu5 ⟨a1,n1,c1,some ⟨b,R,aN⟩,n2,c2,a3,n3,c3⟩ G s (bl wr x) (z.below (Zr wr x)) (by simp only[];omega);have J:=λ(x:Ext wr)=>C6 ⟨a1,n1,c1,some ⟨b,R,aN⟩,n2,c2,a3,n3,c3⟩ G s (bl wr x) (z.below (Zr wr x)) (by simp only[];omega);have O:G.nonOK k s=(Xi (Zh s)&&decide (G.non s=(k:Int))&&decide (G.term s<0)):=rfl;have C:=LH O;have X:=(U9 (λt=>decide (t=s)) G.O).1;have bc:=Yt wr;have Hx:=LH v;have a:=LH c;clear O z v c;generalize Xi (Zh s)=f at *;generalize G.non s=p at *;generalize G.term s=B at *;have l:=LH H;have m:=LH I;have CT:=LH J;clear H I J X;have Z:(f=false\/(f=true/\p≠(k:Int))\/(f=true/\p=(k:Int)/\0<=B))\/(f=true/\p=(k:Int)/\B<0):=by
   cases f
   ·simp
   simp only[Bool.true_eq_false,false_or,true_and];omega
  rcases Z with M | ⟨rfl,rfl,g⟩
  ·have q:Hid (G.nonsOK=false):=LH (by
    rw[D];refine Lp F ?_;rw[C];rcases M with rfl | ⟨rfl,g⟩ | ⟨rfl,rfl,g⟩
    ·simp
    ·simp[g]
    simp;omega)
   rcases M with rfl | ⟨rfl,g⟩ | ⟨rfl,rfl,g⟩
   ·go_wp2_with fail;refine Zs AB AB ?_;repeat (go_big_quiet_step (first
     | (go_at_call 116;exact Qo (l.out _))
     | (go_at_call 74;exact Ve (m.out _))
     | (go_at_call 114;exact Ve (CT.out _))))
    refine BJ ?_;rintro _⟨x,rfl⟩;go_wp2_with fail;go_ret;exact⟨by rw[q];rfl,a.trans ((Zr wr x).mono a.size)⟩
   ·have d:(p != (k:Int))=true:=by rw[BK];exact g
    clear g;go_wp2_with fail;refine Zs AB AB ?_;repeat (go_big_quiet_step (first
     | (go_at_call 116;exact Qo (l.out _))
     | (go_at_call 74;exact Ve (m.out _))
     | (go_at_call 114;exact Ve (CT.out _))))
    refine BJ ?_;rintro _⟨x,rfl⟩;go_wp2_with fail;go_ret;exact⟨by rw[q];rfl,a.trans ((Zr wr x).mono a.size)⟩
   go_wp2_with fail;refine Zs AB AB ?_;repeat (go_big_quiet_step (first
    | (go_at_call 116;exact Qo (l.out _))
    | (go_at_call 74;exact Ve (m.out _))
    | (go_at_call 114;exact Ve (CT.out _))))
   refine BJ ?_;rintro _⟨x,rfl⟩;go_wp2_with fail;go_ret;exact⟨by rw[q];rfl,a.trans ((Zr wr x).mono a.size)⟩
  have T:Hid ((!G.nonOK k s)=false):=LH (by rw[C];simp;omega);have d:decide (0<=B)=false:=AG
  go_wp2_with fail;refine Zs AB AB ?_;repeat (go_big_quiet_step (first
   | (go_at_call 116;exact Qo (l.out _))
   | (go_at_call 74;exact Ve (m.out _))
   | (go_at_call 114;exact Ve (CT.out _))))
  refine BJ ?_;rintro _⟨x,rfl⟩;go_wp2_with fail;go_roundw
  case rel=>exact⟨k+1,AA,AF,a.trans ((Zr wr x).mono a.size),Hx.below (Zr wr x),LH (Lr E F T)⟩
  simp[intOf];omega
 obtain rfl:k=n2:=AA
 have u:Hid (G.nonsOK=true):=LH (by
  rw[D];refine Kc λj y P=>?_;have:=E j (by have:=(AN.1 P).1;omega) y P;simpa using this)
 go_wp2_with fail;go_ret;exact⟨by rw[u];rfl,c⟩
def Fl.below{left:Int}{cr:Nat}{d:Int}(k:Fl w g left Ar c cr d)(b:Below w w w'):Fl w' g left Ar c cr d:=by
 obtain⟨a,f,h,j⟩:=k;refine⟨AK a b.size,?_,?_,?_⟩
 ·rw[b.cell (p:=⟨g,0,aN⟩) a];exact f
 ·rw[b.cell (p:=⟨g,1,aN⟩) a];exact h
 rw[b.cell (p:=⟨g,2,aN⟩) a];exact j
def Zzq(w:World)(t u:TypeId)(h:GH)(a left:Int)(Ar:Option Addr)(b cr:Nat)(c:Int):
 let X:=(w.alloc (aC #[K h.a1 h.n1 h.c1,K h.a2 h.n2 h.c2,K h.a3 h.n3 h.c3,aI aJ a] t)).alloc (aC #[aI aJ left,K Ar b cr,aI aJ c] u)
 Below w w X/\Y1 X w h a/\Fl X (w.heap.size+1) left Ar b cr c:=by
 intro X;have g:=Y1.new w t h a;have f:=Zl w (aC #[K h.a1 h.n1 h.c1,K h.a2 h.n2 h.c2,K h.a3 h.n3 h.c3,aI aJ a] t);refine⟨(Zy w _).alloc (by rw[f];omega) _,g.below (Zy _ _),?_⟩;have d:=Fl.new (w.alloc (aC #[K h.a1 h.n1 h.c1,K h.a2 h.n2 h.c2,K h.a3 h.n3 h.c3,aI aJ a] t)) u left Ar b cr c;rw[f] at d;exact d
def rf_rule(h:GH)(G:Gr)(r:Rul)(Ar:Option Addr)(cr:Nat)(w:World)(p:Yf w h G)(B:Za .i64 w Ar (Q r.rt) cr r.rt)(U:∀s∈r.rt,U3 s)(J:h.n1<=1000)(L:h.n2<=1000):
 Calls prog 55 #[GV h G.zt,aG #[aI aJ r.L,K Ar (Q r.rt) cr,aI aJ r.P]] w λe w'=>e = aR (aB (G.ruleOK r))/\Below w w w':=by
 obtain⟨a1,n1,c1,a2,n2,c2,a3,n3,c3⟩:=h;have o:(Q G.T)=n1:=p.T.len;have ag:=B.cap;simp only[] at J L;have t:Hid (G.ruleOK r=(decide ((Q r.rt)<=6)&&decide (-1<=r.P/\r.P<(n1:Int))&&r.rt.all (G.symOK r.P))):=LH (by unfold Gr.ruleOK;rw[o]);clear o;have C:(6<((Q r.rt):Int)\/(((Q r.rt):Int)<=6/\r.P < -1)\/(((Q r.rt):Int)<=6/\-1<=r.P/\(n1:Int)<=r.P))\/(((Q r.rt):Int)<=6/\-1<=r.P/\r.P<(n1:Int)):=AA
 rcases C with R | ⟨g1,a,I⟩
 ·have v:Hid (G.ruleOK r=false):=LH (by
   rw[t];rcases R with g | ⟨g,a⟩ | ⟨g,a,I⟩
   ·have:decide ((Q r.rt)<=6)=false:=AG
    rw[this];rfl
   ·have:decide (-1<=r.P/\r.P<(n1:Int))=false:=AG
    rw[this];simp
   have:decide (-1<=r.P/\r.P<(n1:Int))=false:=AG
   rw[this];simp)
  clear p;rcases R with g | ⟨g,a⟩ | ⟨g,a,I⟩;all_goals
   go_enter func55,ntmps55;go_wp2_with fail;go_ret;exact⟨by rw[v];rfl,(Zzq w _ _ ⟨a1,n1,c1,a2,n2,c2,a3,n3,c3⟩ _ _ _ _ _ _).1⟩
 have u:Hid (G.ruleOK r=r.rt.all (G.symOK r.P)):=LH (by
  rw[t];have o:decide ((Q r.rt)<=6)=true:=AG
  have Z:decide (-1<=r.P/\r.P<(n1:Int))=true:=AG
  rw[o,Z];rfl)
 have V:=LH p;have W:=LH B;have X:=LH U;clear t p B U;go_enter func55,ntmps55;obtain⟨M,O,P⟩:=Zzq w 26 60 ⟨a1,n1,c1,a2,n2,c2,a3,n3,c3⟩ G.zt r.L Ar (Q r.rt) cr r.P;go_wp2_with fail;go_loopw [5] (λi wr=>∃(k:Nat),k<=(Q r.rt)/\i = aI aJ (k:Int)/\Below w w wr/\Y1 wr w ⟨a1,n1,c1,a2,n2,c2,a3,n3,c3⟩ G.zt/\Fl wr (w.heap.size+1) r.L Ar (Q r.rt) cr r.P/\Hid (∀j,j<k->∀y,r.rt[j]? = some y->(!G.symOK r.P y)=false)) (λi _=>(Q r.rt)-(intOf i).toNat)
 case atStart=>exact⟨0,AV _,rfl,M,O,P,LH λj hj=>AA⟩
 clear M O P;obtain⟨k,hk,rfl,d,D,f,z⟩:=hrel;have⟨z5,z0,z1,z2,z3⟩:=D;have⟨y5,y0,y1,y2⟩:=f;simp only[] at z0 z1 z2 z3;by_cases aa:k<(Q r.rt)
 ·obtain⟨b,aj,s,rfl,N,l,q0⟩:=W.get aa;rw[<-d.cell (by exact N)] at q0;have af:=AK N d.size;have T:=V.below d;have F:=λ(x:Ext wr)=>rf_has ⟨a1,n1,c1,a2,n2,c2,a3,n3,c3⟩ G s (bl wr x) (T.below (Zr wr x)) (X s (AM l)) J L;have S:G.symOK r.P s=(G.has s&&!(decide (0<=s)&&decide (r.P=-1))):=rfl;have n:=LH S;have bc:=Yt wr;have Hx:=LH D;have E:=LH f;have c:=LH d;clear S T D f d;generalize G.has s=m at *;have CH:=LH F;clear F;have C:(m=false\/(m=true/\0<=s/\r.P=-1))\/(m=true/\0<=s/\r.P ≠ -1)\/(m=true/\s<0):=by
   cases m
   ·simp
   simp only[Bool.true_eq_false,false_or,true_and];omega
  rcases C with (rfl | ⟨rfl,g,a⟩) | ⟨rfl,g,a⟩ | ⟨rfl,g⟩
  ·have q:Hid (G.ruleOK r=false):=LH (by rw[u];exact Jy l (by rw[n];rfl));go_wp2_with fail;refine Zs AB AB ?_;repeat (go_big_quiet_step ((go_at_call 60;exact Ve (CH.out _))))
   refine BJ ?_;rintro _⟨x,rfl⟩;go_wp2_with fail;go_ret;exact⟨by rw[q];rfl,c.trans ((Zr wr x).mono c.size)⟩
  ·have q:Hid (G.ruleOK r=false):=LH (by rw[u];exact Jy l (by rw[n];simp[g,a]));have H:decide (0<=s)=true:=AG
   have Y:(r.P == -1)=true:=by rw[BS];exact a
   clear a;go_wp2_with fail;refine Zs AB AB ?_;repeat (go_big_quiet_step ((go_at_call 60;exact Ve (CH.out _))))
   refine BJ ?_;rintro _⟨x,rfl⟩;go_wp2_with fail;go_ret;exact⟨by rw[q];rfl,c.trans ((Zr wr x).mono c.size)⟩
  ·have A:Hid ((!G.symOK r.P s)=false):=LH (by rw[n];simp[a]);have H:decide (0<=s)=true:=AG
   have Y:(r.P == -1)=false:=by rw[AR];exact a
   clear a;go_wp2_with fail;refine Zs AB AB ?_;repeat (go_big_quiet_step ((go_at_call 60;exact Ve (CH.out _))))
   refine BJ ?_;rintro _⟨x,rfl⟩;go_wp2_with fail;go_roundw
   case rel=>exact⟨k+1,AA,AF,c.trans ((Zr wr x).mono c.size),Hx.below (Zr wr x),E.below (Zr wr x),LH (Vz z l A)⟩
   simp[intOf];omega
  have A:Hid ((!G.symOK r.P s)=false):=LH (by rw[n];simp;omega);have H:decide (0<=s)=false:=AG
  go_wp2_with fail;refine Zs AB AB ?_;repeat (go_big_quiet_step ((go_at_call 60;exact Ve (CH.out _))))
  refine BJ ?_;rintro _⟨x,rfl⟩;go_wp2_with fail;go_roundw
  case rel=>exact⟨k+1,AA,AF,c.trans ((Zr wr x).mono c.size),Hx.below (Zr wr x),E.below (Zr wr x),LH (Vz z l A)⟩
  simp[intOf];omega
 obtain rfl:k=(Q r.rt):=AA
 have v:Hid (G.ruleOK r=true):=LH (by
  rw[u];refine Cv λj y f=>?_;have:=z j (AN.1 f).1 y f;simpa using this)
 go_wp2_with fail;go_ret;exact⟨by rw[v];rfl,d⟩
def Jr(h:GH)(G:Gr)(w:World)(x:Yf w h G)(M:h.n1<=1000)(h2:h.n2<=1000)(h3:h.n3<=1000):
 Calls prog 26 #[GV h G.zt] w λe w'=>e = aR (aB G.rt)/\Below w.heap.size w w':=by
 have cT:=λW (p:Yf W h G)=>rf_terms h G W p;have cN:=λW (p:Yf W h G)=>rf_nons h G W p M;have af:=λW r Ar cr (p:Yf W h G) O hw=>rf_rule h G r Ar cr W p O hw M h2;obtain⟨a1,n1,c1,a2,n2,c2,a3,n3,c3⟩:=h;have C:(Q G.O)=n2:=x.O.len;have e3:(Q G.U)=n3:=x.U.len;have ht:Dv w a3 n3 c3 G.U:=x.U;have bf:=ht.cap;simp only[] at M h2 h3;have z:Hid (G.rt=(G.termsOK&&G.nonsOK&&decide (1<=n3/\n3<=40)&&decide (0<=G.zt/\G.zt<(n2:Int))&&decide (G.leftsGo G.U (-1)=some ((n2:Int)-1)))):=LH (by unfold Gr.rt;rw[C,e3]);clear C;generalize a0:G.zt=c at *;clear a0;generalize G.termsOK=l at *;generalize G.nonsOK=n at *;have P:(l=false\/(l=true/\n=false)\/(l=true/\n=true/\(n3:Int)<1)\/(l=true/\n=true/\1<=(n3:Int)/\40<(n3:Int))\/(l=true/\n=true/\1<=(n3:Int)/\(n3:Int)<=40/\c<0)\/(l=true/\n=true/\1<=(n3:Int)/\(n3:Int)<=40/\0<=c/\(n2:Int)<=c)) \/
  (l=true/\n=true/\1<=(n3:Int)/\(n3:Int)<=40/\0<=c/\c<(n2:Int)):=by
  cases l
  ·simp
  cases n
  ·simp
  simp only[Bool.true_eq_false,false_or,true_and];omega
 have j:=LH x;have CT:=LH cT;have S:=LH cN;have an:=LH af;clear x cT cN af;have F:=Y1.new w 26 ⟨a1,n1,c1,a2,n2,c2,a3,n3,c3⟩ c;have m:=Zy w (aC #[K a1 n1 c1,K a2 n2 c2,K a3 n3 c3,aI aJ c] 26);rcases P with v | ⟨rfl,rfl,g1,s,E,g4⟩
 ·have A:Hid (G.rt=false):=LH (by
   rw[z.out];rcases v with rfl | ⟨rfl,rfl⟩ | ⟨rfl,rfl,g⟩ | ⟨rfl,rfl,g,s⟩ | ⟨rfl,rfl,g,s,E⟩ | ⟨rfl,rfl,g,s,E,g4⟩
   ·simp
   ·simp
   ·have:decide (1<=n3/\n3<=40)=false:=AG
    rw[this];simp
   ·have:decide (1<=n3/\n3<=40)=false:=AG
    rw[this];simp
   ·have:decide (0<=c/\c<(n2:Int))=false:=AG
    rw[this];simp
   have:decide (0<=c/\c<(n2:Int))=false:=AG
   rw[this];simp)
  clear z;rcases v with rfl | ⟨rfl,rfl⟩ | ⟨rfl,rfl,g⟩ | ⟨rfl,rfl,g,s⟩ | ⟨rfl,rfl,g,s,E⟩ | ⟨rfl,rfl,g,s,E,g4⟩
  ·go_enter func26,ntmps26;go_wp2_with fail;(with_reducible refine (CT.out _ (j.out.below m)).mono ?_);rintro e w1⟨rfl,d⟩;go_wp2_with fail;go_ret;exact⟨by rw[A.out];rfl,Zz m d⟩
  all_goals
   go_enter func26,ntmps26;go_wp2_with fail;(with_reducible refine (CT.out _ (j.out.below m)).mono ?_);rintro e w1⟨rfl,d⟩;have a:=Zz m d;have⟨z5,z0,z1,z2,z3⟩:=F.below d;simp only[] at z0 z1 z2 z3;clear d;go_wp2_with fail;(with_reducible refine (S.out _ (j.out.below a)).mono ?_);rintro e w2⟨rfl,o⟩;obtain⟨be,_⟩:=Jd o;have ao:=LH (Zz a o);clear o a m F;go_wp2_with fail;go_ret;exact⟨by rw[A.out];rfl,ao.out⟩
 have V:Hid (G.rt=decide (G.leftsGo G.U (-1)=some ((n2:Int)-1))):=LH (by
  rw[z.out];have e1:decide (1<=n3/\n3<=40)=true:=AG
  have C:decide (0<=c/\c<(n2:Int))=true:=AG
  rw[e1,C];rfl)
 clear z;go_enter func26,ntmps26;go_wp2_with fail;(with_reducible refine (CT.out _ (j.out.below m)).mono ?_);rintro e w1⟨rfl,d⟩;have a:=Zz m d;have f:=F.below d;have⟨z5,z0,z1,z2,z3⟩:=f;simp only[] at z0 z1 z2 z3;clear d;go_wp2_with fail;(with_reducible refine (S.out _ (j.out.below a)).mono ?_);rintro e w2⟨rfl,o⟩;have aj:=Zz a o;have R:=f.below o;clear z0 z1 z2 z3 z5;have⟨z5,z0,z1,z2,z3⟩:=R;simp only[] at z0 z1 z2 z3;clear o a m F f;go_wp2_with fail;clear z0 z1 z2 z3 z5;go_loopw [3,4,5] (λtp i t wr=>∃(k:Nat) (top:Int),k<=n3/\i = aI aJ (k:Int)/\tp = aI aJ top/\-1<=top/\top<=(k:Int)/\Below w.heap.size w wr/\Y1 wr w.heap.size ⟨a1,n1,c1,a2,n2,c2,a3,n3,c3⟩ c/\Hid (G.leftsGo (G.U.take k) (-1)=some top)) (λ_ i _ _=>n3-(intOf i).toNat)
 case atStart=>exact⟨0,-1,AV _,rfl,rfl,AA,AA,aj,R,LH rfl⟩
 clear aj R;obtain⟨k,top,hk,rfl,rfl,bi,bj,N,hx,X⟩:=hrel;have⟨z5,z0,z1,z2,z3⟩:=hx;simp only[] at z0 z1 z2 z3;by_cases ay:k<n3
 ·obtain⟨b,bk,r,Ar,cr,rfl,hb,Hr,q0,q1,q2,hi⟩:=ht.get ay;rw[<-N.cell (by exact hb)] at q0 q1 q2;have ak:=lefts_next X.out Hr.out;have a:=N.alloc (DS z5) (aC #[aI aJ r.L,K Ar (Q r.rt) cr,aI aJ r.P] 60);have f:=hx.below (Zy wr (aC #[aI aJ r.L,K Ar (Q r.rt) cr,aI aJ r.P] 60));have y:=Fl.new wr 60 r.L Ar (Q r.rt) cr r.P;have cR:=λW p O=>an.out W r Ar cr p O (j.out.wf r (AM Hr.out));generalize G.ruleOK r=B at *;have T:=LH cR;have Z:=LH ak;clear cR ak;have P:(r.L<0\/(0<=r.L/\top+1<r.L)\/(0<=r.L/\r.L<=top+1/\B=false))\/(0<=r.L/\r.L<=top+1/\B=true/\top<r.L)\/(0<=r.L/\r.L<=top+1/\B=true/\r.L<=top):=by
   cases B
   ·simp only[Bool.false_eq_true,and_false,false_and,or_false,and_true];omega
   simp only[Bool.true_eq_false,and_false,or_false,true_and,and_true];omega
  rcases P with v | az
  ·have I:Hid (G.rt=false):=LH (by
    rw[V.out];have:G.leftsGo G.U (-1)=aN:=by
     refine lefts_bad (k:=k+1) ?_;rw[Z.out,if_neg];intro⟨h5,h6,h7⟩;rcases v with g | ⟨g,q⟩ | ⟨g,q,D⟩
     ·omega
     ·omega
     rw[h7] at D;cases D
    rw[this];rfl)
   rcases v with g | ⟨g,q⟩ | ⟨g,q,rfl⟩
   ·clear f y;go_wp2_with fail;go_ret;exact⟨by rw[I.out];rfl,a⟩
   ·clear f y;go_wp2_with fail;go_ret;exact⟨by rw[I.out];rfl,a⟩
   have H:=LH a;have J:=LH (j.out.below a);have L:=LH (hi.below a);clear a f y;go_wp2_with fail;(with_reducible refine (T.out _ J.out L.out).mono ?_);rintro e w6⟨rfl,u⟩;go_wp2_with fail;go_ret;exact⟨by rw[I.out];rfl,Zz H.out u⟩
  have H:=LH a;have J:=LH (j.out.below a);have L:=LH (hi.below a);have ap:=LH f;have aq:=LH y;clear a f y;rcases az with ⟨g,q,rfl,D⟩ | ⟨g,q,rfl,D⟩;all_goals
   have Y:Hid (G.leftsGo (G.U.take (k+1)) (-1)=some (max top r.L)):=LH (by rw[Z.out,if_pos ⟨g,q,rfl⟩]);go_wp2_with fail;(with_reducible refine (T.out _ J.out L.out).mono ?_);rintro e w6⟨rfl,u⟩;have⟨y5,y0,y1,y2⟩:=aq.out.below u;have ab:=LH (ap.out.below u);have U:=LH (Zz H.out u);clear u z0 z1 z2 z3 y1 y2;go_wp2_with fail;go_roundw
   case rel=>first
    | exact⟨k+1,r.L,AA,AF,rfl,AA,AA,U.out,ab.out,LH (by rw[Y.out,Int.max_eq_right AA])⟩
    | exact⟨k+1,top,AA,AF,rfl,AA,AA,U.out,ab.out,LH (by rw[Y.out,Int.max_eq_left AA])⟩
   simp[intOf];omega
 obtain rfl:k=n3:=AA
 have A:Hid (G.rt=(top==(n2:Int)-1)):=LH (by
  rw[V.out];have:=X.out;rw[AQ AA] at this;rw[this,Cc];simp)
 have bg:IntKind.i64.wrap ((n2:Int)-1)=(n2:Int)-1:=BZ _ AA;go_wp2_with fail;go_ret;exact⟨by rw[A.out];rfl,N⟩
def cf_has(h:GH)(G:Gr)(s:Int)(w:World)(a:Yf w h G)(b:U3 s)(o:h.n1<=1000)(p:h.n2<=1000):
 Calls prog 96 #[GV h G.zt,aI aJ s] w λe w'=>e = aR (aB (G.has s))/\Below w w w':=by
 obtain⟨a1,n1,c1,a2,n2,c2,a3,n3,c3⟩:=h;have g:(Q G.T)=n1:=a.T.len;have j:(Q G.O)=n2:=a.O.len;have m:G.has s=if 0<=s then decide (s<(n1:Int)) else decide (-1-s<(n2:Int)):=by unfold Gr.has;rw[g,j]
 rw[m];simp only[] at o p;clear m g j a;by_cases k:0<=s
 ·rw[if_pos k];obtain⟨r,t⟩:=b;go_enter func96,ntmps96;go_wp2_with fail;go_ret;exact⟨AE,Zy _ _⟩
 rw[if_neg k];have f:=λw=>cf_non s w b AA;obtain⟨r,t⟩:=b;have d:decide (s<0)=true:=AG
 go_enter func96,ntmps96;have q:=Y1.new w 26 ⟨a1,n1,c1,a2,n2,c2,a3,n3,c3⟩ G.zt;have l:=Zy w (aC #[K a1 n1 c1,K a2 n2 c2,K a3 n3 c3,aI aJ G.zt] 26);have n:=LH f;clear f;go_wp2_with fail;generalize w.alloc (aC #[K a1 n1 c1,K a2 n2 c2,K a3 n3 c3,aI aJ G.zt] 26)=c at *;obtain⟨B,u,v,y,z⟩:=q;simp only[] at u v y z;have A:=Yt c;refine Zs AB AB ?_;repeat (go_big_quiet_step ((go_at_call 154;exact Qo (n.out _))))
 refine BJ ?_;rintro _⟨x,rfl⟩;go_wp2_with fail;go_ret;exact⟨AE,l.trans ((Zr c x).mono l.size)⟩
def cf_rule1(h:GH)(G:Gr)(m p:Nat)(s left:Int)(Ar:Option Addr)(A cr:Nat)(a:Int)(w:World)(o:Yf w h G)(v:U3 s)(r:h.n1<=1000)(t:h.n2<=1000)(y:Y1 w m h G.zt)(z:Fl w p left Ar A cr a):
 Calls prog 147 #[aI aJ s,aP (some ⟨m,0,aN⟩),aP (some ⟨p,0,aN⟩)] w λe w'=>e = aR (aB (!G.symOK a s))/\Below w.heap.size w w':=by
 have l:=cf_has h G s w o v r t;obtain⟨a1,n1,c1,a2,n2,c2,a3,n3,c3⟩:=h;have n:G.symOK a s=(G.has s&&!(decide (0<=s)&&decide (a=-1))):=rfl;rw[n];obtain⟨L,B,C,D,E⟩:=y;obtain⟨J,F,H,I⟩:=z;simp only[] at B C D E;generalize G.has s=b at *;have CH:=LH l;clear l o n;have x:(b=false)\/(b=true/\s<0)\/(b=true/\0<=s/\a=-1)\/(b=true/\0<=s/\a ≠ -1):=by
  cases b
  ·simp
  simp only[Bool.true_eq_false,false_or,true_and];omega
 rcases x with rfl | ⟨rfl,g⟩ | ⟨rfl,g,f⟩ | ⟨rfl,g,f⟩
 ·go_enter func147,ntmps147;go_wp2_with (go_at_call 96;(with_reducible refine CH.out.mono ?_);rintro e k⟨rfl,c⟩);go_ret;exact⟨rfl,c⟩
 ·have d:decide (0<=s)=false:=AG
  go_enter func147,ntmps147;go_wp2_with (go_at_call 96;(with_reducible refine CH.out.mono ?_);rintro e k⟨rfl,c⟩);go_ret;exact⟨by simp[d],c⟩
 ·have d:decide (0<=s)=true:=AG
  have q:(a == -1)=true:=by rw[BS];exact f
  have j:Hid (decide (a=-1)=true):=LH (by simp[f]);clear f;go_enter func147,ntmps147;go_wp2_with (go_at_call 96;(with_reducible refine CH.out.mono ?_);rintro e k⟨rfl,c⟩;have u:=(Jd c).1);go_ret;exact⟨by rw[d,j.out];rfl,c⟩
 have d:decide (0<=s)=true:=AG
 have q:(a == -1)=false:=by rw[AR];exact f
 have j:Hid (decide (a=-1)=false):=LH (by simp[f]);clear f;go_enter func147,ntmps147;go_wp2_with (go_at_call 96;(with_reducible refine CH.out.mono ?_);rintro e k⟨rfl,c⟩;have u:=(Jd c).1);go_ret;exact⟨by rw[d,j.out];rfl,c⟩
def cf_rule(h:GH)(G:Gr)(r:Rul)(Ar:Option Addr)(cr:Nat)(w:World)(n:Yf w h G)(o:Za .i64 w Ar (Q r.rt) cr r.rt)(z:∀s∈r.rt,U3 s)(x:h.n1<=1000)(y:h.n2<=1000):
 Calls prog 87 #[GV h G.zt,aG #[aI aJ r.L,K Ar (Q r.rt) cr,aI aJ r.P]] w λe w'=>e = aR (aB (G.ruleOK r))/\Below w w w':=by
 have c1:=λF R (s:Int) w' (L:Yf w' h G) p O P=>cf_rule1 h G F R s r.L Ar (Q r.rt) cr r.P w' L p x y O P;obtain⟨a1,n1,u,a2,n2,c2,a3,n3,c3⟩:=h;have v:(Q G.T)=n1:=n.T.len;have T:=o.cap;simp only[] at x y;have d:Hid (G.ruleOK r=(decide ((Q r.rt)<=6)&&decide (-1<=r.P/\r.P<(n1:Int))&&r.rt.all (G.symOK r.P))):=LH (by unfold Gr.ruleOK;rw[v]);clear v;have j:=λw=>Jx r.P (-1) ((n1:Int)-1) w;have A:Yb r.P (-1) ((n1:Int)-1)=decide (-1<=r.P/\r.P<(n1:Int)):=by
  unfold Yb;rw[Cc,BA,BA];omega
 rw[A] at j;clear A;generalize decide (-1<=r.P/\r.P<(n1:Int))=f at *;have q:=LH j;have B:=LH c1;have C:=LH n;have D:=LH o;have E:=LH z;clear j c1 n o z;obtain⟨a,l,m⟩:=Zzq w 26 60 ⟨a1,n1,u,a2,n2,c2,a3,n3,c3⟩ G.zt r.L Ar (Q r.rt) cr r.P;have U:IntKind.i64.wrap ((n1:Int)-1)=(n1:Int)-1:=BZ _ AA;have N:(6<((Q r.rt):Int))\/(((Q r.rt):Int)<=6/\f=false)\/(((Q r.rt):Int)<=6/\f=true):=by
  cases f <;> simp <;> omega
 rcases N with g | ⟨g,rfl⟩ | ⟨g,rfl⟩
 ·have b:Hid (G.ruleOK r=false):=LH (by
   rw[d];have:decide ((Q r.rt)<=6)=false:=AG
   rw[this];rfl)
  clear l m;have c:=LH a;clear a;go_enter func87,ntmps87;go_wp2_with fail;go_ret;exact⟨by rw[b];rfl,c⟩
 ·have b:Hid (G.ruleOK r=false):=LH (by rw[d];simp);clear l m;have c:=LH a;clear a;go_enter func87,ntmps87;go_wp2_with fail;refine (q.out _).mono ?_;rintro e S⟨rfl,rfl⟩;go_wp2_with fail;go_ret;exact⟨by rw[b];rfl,c⟩
 have b:Hid (G.ruleOK r=r.rt.all (G.symOK r.P)):=LH (by
  rw[d];have:decide ((Q r.rt)<=6)=true:=AG
  rw[this];rfl)
 go_enter func87,ntmps87;go_wp2_with fail;refine (q.out _).mono ?_;rintro e S⟨rfl,rfl⟩;go_wp2_with fail;generalize (w.alloc (aC #[K a1 n1 u,K a2 n2 c2,K a3 n3 c3,aI aJ G.zt] 26)).alloc (aC #[aI aJ r.L,K Ar (Q r.rt) cr,aI aJ r.P] 60)=t at *;have H:Zyw 147 #[aP (some ⟨w,0,aN⟩),aP (some ⟨w+1,0,aN⟩)] (aI aJ) t r.rt (λs=>!G.symOK r.P s):=λs p w' k =>
  B w (w.heap.size+1) s w' ((C.below a).below k) (E s p) (l.below k) (m.below k)
 have J:=U1 Ar (Q r.rt) cr r.rt _ _ _ t enters_rule1 (D.below a) H;refine J.mono ?_;rintro e V⟨rfl,I⟩;go_wp2_with fail;go_ret;have M:(!r.rt.any λs=>!G.symOK r.P s)=r.rt.all (G.symOK r.P):=by
  rw[List.all_eq_not_any_not]
 exact⟨by rw[b,<-M];rfl,Zz a I⟩
section
open Go.RowKit Go.Shelf Go.Sort
def cf_alone(A:Option Addr)(n c:Nat)(a:List ByteArray)(w:World)(h:Js w A n c a)(J:n<=1000):
 Calls prog 83 #[K A n c] w λe w'=>e = aR (aB (decide a.Nodup))/\Below w w w':=by
 obtain rfl:=h.len;have O:=h.cap;have p:=values_in A (Q a) c w;have r:=Zy w (aC #[K A (Q a) c] 23);have l:=Wg w 23 #[K A (Q a) c] 0;simp only[DQ,List.getElem?_cons_zero] at l;have o:=sorted_s w (Q a) c A a J (w.alloc (aC #[K A (Q a) c] 23)) AE l (h.below r);have S:=Zl w (aC #[K A (Q a) c] 23);have B:=LH p;have z:=LH o;clear p o l;go_enter func83,ntmps83;go_wp2_with fail;refine B.out.mono ?_;rintro e w1⟨rfl,rfl⟩;go_wp2_with fail;refine z.out.mono ?_;rintro e b⟨H,L⟩;have k:=Zz r H;rcases L with ⟨rfl,rfl⟩ | ⟨g,cap,rfl,N,R,P,s⟩
 ·have D:=LH (Tryz.slices_Compact_string_empty aN 0 b);go_wp2_with fail;refine D.out.mono ?_;rintro e M⟨rfl,rfl⟩;go_wp2_with fail;go_ret;exact⟨AE,k⟩
 have u:((byL a).mergeSort λx y=>decide (x<=y)).length=(Q a):=by simp[byL]
 have f:=Tryz.slices_Compact_string g 0 cap ((byL a).mergeSort λx y=>decide (x<=y)) b s AA AA;rw[u] at f;have t:decide a.Nodup=decide ((Lib.compact ((byL a).mergeSort λx y=>decide (x<=y))).length=(Q a)):=by
  have:=sorted_len (byL a);rw[byL_nodup,show (byL a).length=(Q a) by simp[byL]] at this;rw[Cc,BA,BA];exact this.symm
 have E:=LH t;have C:Hid (∀q d,Below w w (putRow encStr (Sort.ahead b q) g 0 d)):=LH λq d=>by
  have:=k.grown (grownBy_sorted (n:=q) (os:=#[]) (g:=g) d) k.size (λj I=>by cases I;omega);rwa [grow_none] at this
 generalize (Lib.compact ((byL a).mergeSort λx y=>decide (x<=y))).length=m at *;have v:=LH f;clear f s t u;go_wp2_with fail;refine v.out.mono ?_;rintro e M⟨rfl,q,rfl⟩;have G:=LH (C q (Lib.compact ((byL a).mergeSort λx y=>decide (x<=y))++List.replicate ((Q a)-m) []).toArray);generalize putRow encStr (Sort.ahead b q) g 0 (Lib.compact ((byL a).mergeSort λx y=>decide (x<=y))++List.replicate ((Q a)-m) []).toArray=T at *;have F:Hid (((m:Int)==((Q a):Int))=decide (m=(Q a))):=LH (by rw[Cc];simp;omega);go_wp2_with fail;go_ret;exact⟨by rw[E,<-F];rfl,G⟩
end
section
open Go.RowKit Go.Maps
def Blk.below(h:Blk w g t cs)(a:Below B w w')(b:g<B):Blk w' g t cs:=(a.block g b).trans h
def Blk.ext(h:Blk w g t cs)(a:Below w w w'):Blk w' g t cs:=h.below a h.lt
def made_bools(n:Nat):madeCells #[aB false] n=(Qk (List.replicate n false)).toArray:=by
 apply Array.ext
 ·simp[madeCells,Qk]
 intro j a b;simp[madeCells,Qk,Nat.mod_one]
def Nt(n:Nat)(h:n<=1000)(w:World):
 (Instr.makeSlice 103 (aI aJ (n:Int)) (aI aJ (n:Int))).run prog w = .ok (K (some ⟨w,0,aN⟩) n n) (w.alloc (aC (Qk (List.replicate n false)).toArray 4)):=by
 obtain⟨i,d,g,f,c⟩:=info_parts Tryz.infoBool;have b:(i.bytes:Int)*(n:Int)<=281474976710656:=by rw[c];omega
 have a:=run_make (P:=prog) w 103 4 i (aB false) underlying103 d g .i64 .i64 n n AA AA b AA;simp only[DH] at a;rw[a,f,Eh];simp only[Value.cells,made_bools]
end
def Kq.below(h:Kq w B A n c ts)(a:Below w w w'):Kq w' B A n c ts:=h.keep a.size λk _ b=>a.block k b
def Rfs.below(h:Rfs w A n c ss)(a:Below w w w'):Rfs w' A n c ss:=h.keep a.size λb _ _ d=>a.block b d
def Prds.below(h:Prds w A n c ps)(a:Below w w w'):Prds w' A n c ps:=by
 refine⟨h.1,h.2.1,h.2.2.1,λs=>?_⟩;obtain⟨b,f,e,d,r⟩:=h.2.2.2 s;refine⟨b,f,e,AK d a.size,λj p t=>?_⟩;rw[a.cell (p:=⟨b,f+j*5,aN⟩) d,a.cell (p:=⟨b,f+j*5+1,aN⟩) d,a.cell (p:=⟨b,f+j*5+2,aN⟩) d,a.cell (p:=⟨b,f+j*5+3,aN⟩) d,a.cell (p:=⟨b,f+j*5+4,aN⟩) d];obtain⟨Ar,cr,x,y,u,v,g,k,l,m,o,q⟩:=r j p t;exact⟨Ar,cr,x,y,u,v,g,k,l,m,o,q.below a⟩
def Wk.below{p:Nat}(k:Wk w p B h G)(a:Below w w w'):Wk w' p B h G:=by
 obtain⟨cs,d,g⟩:=k.r3;exact⟨k.blk.ext a,Yq k.r1 λb _ _ c=>a.block b c,Yq k.r2 λb _ _ c=>a.block b c,
  ⟨cs,Yq d λb _ _ c=>a.block b c,g.keep a.size λk j f=>⟨a.block k j,f⟩⟩,k.d12,k.d13,k.d23,k.st,k.wf,k.b1,k.b2,k.b3⟩
def V6.below{p:Nat}{c:GH}(t:V6 w w' p h c)(k:Wk w p B h G):Below p w w':=by
 refine⟨t.os,t.tape,t.output,t.size,λb f=>t.keep b (Nat.lt_trans f k.lt) ?_⟩;rintro (a | a | a | a)
 ·omega
 ·have:=(k.r1.lt b a).1;omega
 ·have:=(k.r2.lt b a).1;omega
 obtain⟨cs,d,_⟩:=k.r3;have:=(d.lt b a).1;omega
def Wc.below{p:Nat}(h:Wc w p ts)(a:Below w w w'):Wc w' p ts:=by
 obtain⟨d,A,c,x,y,g,j,b,f⟩:=h;exact⟨d,A,c,x,y,g,j,b.ext a,f.below a⟩
def Blk.hidden(h:Blk w g t cs)(a:Hid (Below w w w')):Blk w' g t cs:=h.ext a
def Red2.below{d:Nat}{g:Option Addr}(r:Red2 l c d n s G w g m j o p q)(a:Below w w w'):Red2 l c d n s G w' g m j o p q :=
 ⟨r.off.trans (Off.of_below (S:=λk=>k=d\/k=c) a) λ_ _ h=>h,Blk.ext r.tos a,Blk.ext r.out a,Wv r.kept λb _ f=>a.block b f,Wv r.O λb _ f=>a.block b f⟩
def Zyu.below{f:World}{j l:Value}{c3:Nat}{g:List Rul}(r:Zyu f c j l w d c3 g)(a:Below w w w'):Zyu f c j l w' d c3 g:=by
 obtain⟨cs,h1,m⟩:=r.U;exact⟨r.off.trans (Off.of_below (S:=λk=>k=c) a) λ_ _ h=>h,Blk.ext r.out a,cs,Wv h1 λb _ p=>a.block b p,m.keep a.size λk o n=>⟨a.block k o,n⟩⟩
def Zwl.ext{W:World}{a:Nat}(h:Zwl w a g n N)(d:a<w.heap.size)(c:g<w.heap.size)(b:Below w w W):Zwl W a g n N :=
 ⟨(b.cell (p:=⟨a,0,aN⟩) d).trans h.1,λi hi=>(b.cell (p:=⟨g,i,aN⟩) c).trans (h.2 i hi)⟩
def pred_bare{a:Nat}(h:Zwl w a g n N)(f:a<w.heap.size)(c:g<w.heap.size)(d:n<=1000):
 PredAt prog 199 #[aP (some ⟨a,0,aN⟩)] (encB n) (λs=>Xg N s.1) w :=
 λW x b=>Zsz a g n N x.1 W (h.ext f c b) d x.2.1 x.2.2
section
variable {P:Program}
def Xw.nil{Q:Exit->Act->World->Prop}:Xw P ops Q J i []:=trivial
def Xc.nil:Xc P J i []:=trivial
end
section
open Go.Maps (Keyed IsMap Tidy)
def Dm.below{d:Nat}{q:Value}{g:Option Addr}{o:List Nat}(r:Dm l d c q G w g m j n o p)(a:Below w w w'):Dm l d c q G w' g m j n o p :=
 ⟨r.off.trans (Off.of_below (S:=λk=>k=c\/k=d) a) λ_ _ h=>h,r.num.block (a.block c r.num.lt),Blk.ext r.out a,Wv r.kept λb _ f=>a.block b f,Wv r.O λb _ f=>a.block b f⟩
def Zvs.below{m:World}{d:Nat}{g:Option Addr}{l:Nat}(r:Zvs m d c s G w g n j o p q l)(a:Below w w w'):Zvs m d c s G w' g n j o p q l :=
 ⟨r.off.trans (Off.of_below (S:=λk=>k=c\/k=d) a) λ_ _ h=>h,r.num.block (a.block c r.num.lt),Blk.ext r.out a,Wv r.kept λb _ f=>a.block b f,Wv r.O λb _ f=>a.block b f⟩
def Z1.kept(h:Z1 w A n c b x)(a:Zf w w'):Z1 w' A n c b x:=⟨h.1,h.2.kept a⟩
def Z1.below(h:Z1 w A n c b x)(a:Below w w w'):Z1 w' A n c b x:=⟨h.1,h.2.below a⟩
def Vp.kept(h:Vp w g t xs)(m:Zf w w')(l:w'.heap[g]? = w.heap[g]?):Vp w' g t xs:=by
 obtain⟨cs,f,o,k⟩:=h;refine⟨cs,l.trans f,o,λj x p=>?_⟩;obtain⟨A,n,c,b,h1,a,d⟩:=k j x p;exact⟨A,n,c,b,h1,a,d.kept m⟩
def Vp.put(h:Vp w g t xs){j:Nat}(u:j<(Q xs))(C:Z1 w A n c b x):
 Vp ((w.setCell ⟨g,j*2,aN⟩ (K A n c)).setCell ⟨g,j*2+1,aN⟩ (aB b)) g t (xs.set j x)/\Zf w ((w.setCell ⟨g,j*2,aN⟩ (K A n c)).setCell ⟨g,j*2+1,aN⟩ (aB b)):=by
 have v:=h.noInt;have d:Zf w ((w.setCell ⟨g,j*2,aN⟩ (K A n c)).setCell ⟨g,j*2+1,aN⟩ (aB b)) :=
  Zf.of_off ((Off.of_set w g (j*2) (K A n c)).trans (Off.of_set _ g (j*2+1) (aB b)) λ_ _ h=>h) λq z=>by rw[z];exact v
 refine⟨?_,d⟩;obtain⟨cs,r,B,s⟩:=h;refine⟨(cs.setIfInBounds (j*2) (K A n c)).setIfInBounds (j*2+1) (aB b),(r.set _ _).set _ _,by simp[B],λi y a=>?_⟩;have hi:i<(Q xs):=by have:=(AN.1 a).1;simpa using this
 by_cases f:i=j
 ·subst f;rw[List.getElem?_set_self u] at a;obtain rfl:x=y:=by simpa using a
  refine⟨A,n,c,b,?_,?_,C.kept d⟩
  ·rw[Array.getElem?_setIfInBounds_ne AA,Array.getElem?_setIfInBounds_self_of_lt AA]
  rw[Array.getElem?_setIfInBounds_self_of_lt AG]
 rw[List.getElem?_set_ne (λe=>f e.symm)] at a;obtain⟨k,D,m,l,h1,o,p⟩:=s i y a;refine⟨k,D,m,l,?_,?_,p.kept d⟩
 ·rw[Array.getElem?_setIfInBounds_ne AA,Array.getElem?_setIfInBounds_ne AA];exact h1
 rw[Array.getElem?_setIfInBounds_ne AA,Array.getElem?_setIfInBounds_ne AA];exact o
def ptrR:Value->Option (DataW Unit × List MemPlace)
 | .pointer none=>some (.nil,[])
 | .pointer (some ⟨b,0,none⟩)=>some (.lit (.int .i64 (b:Int)),[])
 | _=>none
end
section
open Go.Maps (Keyed IsMap Tidy)
variable {P:Program} {k:TypeId}
def Np(P:Program)(k:TypeId):List (Value × Nat)->DataW Unit
 | [] => .map []
 | p::r=>(Np P k r).put (litK P k p.1) (.lit (.int .i64 (p.2:Int)))
theorem D3:∀r:List (Value × Nat),IsMap (Np P k r)
 | []=>Maps.isMap_empty
 | p::r=>(D3 r).put _ _
theorem Zsc(K:Keyed P k)(b:U4 P k v):∀r:List (Value × Nat),(∀p∈r,U4 P k p.1)->(Maps.has (Np P k r) (litK P k v)=true↔v∈r.map (·.1))
 | [],_=>by
   unfold Np;simp[Maps.has_eq]
 | p::r,hg=>by
   have a:=hg p (By ..);have d:=Zsc K b r (λq c=>hg q (BN _ c));unfold Np;rw[CU,BY];by_cases e:v=p.1
   ·rw[e,Maps.has_put_same (D3 r) (K.key a.lit)];simp
   rw[Maps.has_put_other (Ztc K b a e),d];simp[e]
theorem Zut(K:Keyed P k):∀r:List (Value × Nat),(∀p∈r,U4 P k p.1)->Tidy (Np P k r)
 | [],_=>Maps.tidy_empty
 | p::r,hg=>(Zut K r (λq a=>hg q (BN _ a))).put (K.key (hg p (By ..)).lit) _
theorem F1(K:Keyed P k):∀r:List (Value × Nat),(∀p∈r,U4 P k p.1)->∃L:List Value,L.Nodup/\(∀v∈L,v∈r.map (·.1))/\Maps.size (Np P k r)=L.length
 | [],_=>⟨[],List.nodup_nil,λv h=>(by cases h),rfl⟩
 | p::r,hg=>by
   have f:∀q∈r,U4 P k q.1:=λq l=>hg q (List.mem_cons_of_mem _ l);obtain⟨L,h1,c,g⟩:=F1 K r f;have b:=Maps.size_put (k:=litK P k p.1) (Zut K r f) (.lit (.int .i64 (p.2:Int)));have j:=Zsc K (hg p (List.mem_cons_self ..)) r f;by_cases d:p.1∈r.map (·.1)
   ·rw[if_pos (j.2 d)] at b;exact⟨L,h1,λv a=>by rw[List.map_cons];exact List.mem_cons_of_mem _ (c v a),b.trans g⟩
   rw[if_neg (λh=>d (j.1 h))] at b;refine⟨p.1::L,List.nodup_cons.2 ⟨λh=>d (c _ h),h1⟩,λv a=>?_,by rw[List.length_cons,<-g];exact b⟩;rw[List.map_cons];rcases List.mem_cons.1 a with e | a
   ·rw[e];exact List.mem_cons_self ..
   exact List.mem_cons_of_mem _ (c v a)
structure Vv (P:Program) (k:TypeId) (w:World) (g:Nat) (r:List (Value × Nat)):Prop where
 own:w.ownsMap P k ptrR g (Maps.size (Np P k r)) (Np P k r)
 good:∀p∈r,U4 P k p.1
def Vv.no_cell(h:Vv P k w g r)(o:Nat):w.cell? ⟨g,o,aN⟩=aN:=by
 obtain⟨b,clock,a,_⟩:=h.own;simp[World.cell?,a]
def Vv.noInt(h:Vv P k w g r):Qf w g:=λo k z a=>by rw[h.no_cell] at a;cases a
end
section
open Go.Maps (Keyed IsMap Tidy)
open Go.Maps (Keyed IsMap Tidy)
def H8.kept{b:Nat}(h:H8 w b x)(g:Zf w w')(f:w'.heap[b]? = w.heap[b]?):H8 w' b x:=by
 obtain⟨A,n,c,d,h1,a⟩:=h;exact⟨A,n,c,d,f.trans h1,a.kept g⟩
structure Zzo (w:World) (g:Nat) (G:Gr) (S:Nat->Prop) (ts:List ((Int × Nat) × Nat)):Prop where
 map:Vv Tryz.prog 257 w g (ts.map λp=>(kT p.1.1 p.1.2,p.2))
 key:∀p∈ts,p.1.1<0/\Zp p.1.1<100/\p.1.2<=100
 val:∀p∈ts,H8 w p.2 (Zv G p.1.1 p.1.2)/\¬S p.2
structure Zue (w:World) (g:Nat) (G:Gr) (S:Nat->Prop) (fs:List ((Nat × Nat × Nat) × Nat)):Prop where
 map:Vv Tryz.prog 261 w g (fs.map λp=>(kF p.1.1 p.1.2.1 p.1.2.2,p.2))
 key:∀p∈fs,p.1.1<=100/\p.1.2.1<=100/\p.1.2.2<=100
 val:∀p∈fs,∃x,G.U[p.1.1]? = some x/\H8 w p.2 (Zx (Zv G) (x.rt.drop p.1.2.1) p.1.2.2)/\¬S p.2
end
section
open Ieee
open Go.Maps (Keyed IsMap Tidy)
def Fx.kept{b:Nat}(h:Fx w b x)(g:Zf w w')(f:w'.heap[b]? = w.heap[b]?):Fx w' b x:=by
 obtain⟨A,n,c,d,h1,a⟩:=h;exact⟨A,n,c,d,f.trans h1,a.kept g⟩
end
end
section
variable{r x:Rul}{i j g n id:Nat}{w':World}{a:Act}{l:List Oper}{A0:Option Addr}{t:TypeId}{ops:Array Oper}{J:Array Bool->Act->World->Prop}{xs:List Nat}
def lx_literal(A:Option Addr)(n c:Nat)(d:List Nat)(w:World)(h:Zq .u8 w A n c d)(q:∀x∈d,x<256):
 Calls prog 213 #[K A n c] w λe w'=>e = aR (.tuple #[aI aJ ((litN d).1:Int),aI aJ ((litN d).2:Int)])/\w=w':=by
 obtain rfl:=h.len;have I:=h.cap;by_cases B:(Q d)<2
 ·have D:litN d=(0,4):=by simp[litN,B]
  rw[D];clear D;go_enter func213,ntmps213;go_wp2;go_ret2;exact⟨rfl,rfl⟩
 obtain⟨b,L,rfl,H,s⟩:=h.at_ AA;have F:=lt256 q 1;have G:=lt256 q 2;have J:=lt256 q 3;have c1:=s 1 AA;have c2:=λh=>s 2 h;have c3:=λh=>s 3 h;have a:litN d=if Mt (d.getD 1 0) then (if (Q d)<=2 then (0,4) else if d.getD 2 0=39 then (3,0) else (0,3))
  else if d.getD 1 0≠92 then (0,3) else if (Q d)<3 then (0,4) else if !Q1 (d.getD 2 0) then (0,3)
  else if (Q d)<=3 then (0,4) else if d.getD 3 0=39 then (4,0) else (0,3):=by
  unfold litN;rw[if_neg B]
 generalize d.getD 1 0=o at *;generalize d.getD 2 0=p at *;generalize d.getD 3 0=z at *;generalize litN d=r at *;have k:=lx_plain o w F;have g:=lx_escaped p w G;clear s q;cases u:Mt o
 ·rw[u] at k a;have f:=LH k;clear k u;simp only[Bool.false_eq_true,if_false] at a;by_cases v:o=92
  ·have E:((o:Int)==92)=true:=by rw[BS];omega
   simp only[v,ne_eq,not_true,if_false] at a;clear v;by_cases m:(Q d)<3
   ·rw[if_pos m] at a;subst a;clear c2 c3 g;go_enter func213,ntmps213;go_wp2_with (go_at_call 226;refine f.out.mono ?_;rintro e w'⟨rfl,rfl⟩);go_ret2;exact⟨rfl,rfl⟩
   rw[if_neg m] at a;have c2:=c2 AA;cases t:Q1 p
   ·rw[t] at g a;have l:=LH g;clear g t c3;simp only[Bool.not_false,if_true] at a;subst a;go_enter func213,ntmps213;go_wp2_with (first
     | (go_at_call 226;refine f.out.mono ?_;rintro e w'⟨rfl,rfl⟩)
     | (go_at_call 227;refine l.out.mono ?_;rintro e w'⟨rfl,rfl⟩))
    go_ret2;exact⟨rfl,rfl⟩
   rw[t] at g a;have l:=LH g;clear g t;simp only[Bool.not_true,Bool.false_eq_true,if_false] at a;by_cases C:(Q d)<=3
   ·rw[if_pos C] at a;subst a;clear c3;go_enter func213,ntmps213;go_wp2_with (first
     | (go_at_call 226;refine f.out.mono ?_;rintro e w'⟨rfl,rfl⟩)
     | (go_at_call 227;refine l.out.mono ?_;rintro e w'⟨rfl,rfl⟩))
    go_ret2;exact⟨rfl,rfl⟩
   rw[if_neg C] at a;have c3:=c3 AA;by_cases j:z=39
   ·have y:((z:Int)==39)=true:=by rw[BS];omega
    rw[if_pos j] at a;subst a;clear j;go_enter func213,ntmps213;go_wp2_with (first
     | (go_at_call 226;refine f.out.mono ?_;rintro e w'⟨rfl,rfl⟩)
     | (go_at_call 227;refine l.out.mono ?_;rintro e w'⟨rfl,rfl⟩))
    go_ret2;exact⟨rfl,rfl⟩
   have y:((z:Int)==39)=false:=by rw[AR];omega
   rw[if_neg j] at a;subst a;clear j;go_enter func213,ntmps213;go_wp2_with (first
    | (go_at_call 226;refine f.out.mono ?_;rintro e w'⟨rfl,rfl⟩)
    | (go_at_call 227;refine l.out.mono ?_;rintro e w'⟨rfl,rfl⟩))
   go_ret2;exact⟨rfl,rfl⟩
  have E:((o:Int)==92)=false:=by rw[AR];omega
  rw[if_pos v] at a;subst a;clear v c2 c3 g;go_enter func213,ntmps213;go_wp2_with (go_at_call 226;refine f.out.mono ?_;rintro e w'⟨rfl,rfl⟩);go_ret2;exact⟨rfl,rfl⟩
 rw[u] at k a;have f:=LH k;clear k u g c3;simp only[if_true] at a;by_cases m:(Q d)<=2
 ·rw[if_pos m] at a;subst a;clear c2;go_enter func213,ntmps213;go_wp2_with (go_at_call 226;refine f.out.mono ?_;rintro e w'⟨rfl,rfl⟩);go_ret2;exact⟨rfl,rfl⟩
 rw[if_neg m] at a;have c2:=c2 AA;by_cases j:p=39
 ·have y:((p:Int)==39)=true:=by rw[BS];omega
  rw[if_pos j] at a;subst a;clear j;go_enter func213,ntmps213;go_wp2_with (go_at_call 226;refine f.out.mono ?_;rintro e w'⟨rfl,rfl⟩);go_ret2;exact⟨rfl,rfl⟩
 have y:((p:Int)==39)=false:=by rw[AR];omega
 rw[if_neg j] at a;subst a;clear j;go_enter func213,ntmps213;go_wp2_with (go_at_call 226;refine f.out.mono ?_;rintro e w'⟨rfl,rfl⟩);go_ret2;exact⟨rfl,rfl⟩
def lx_Literal(s:ByteArray)(w:World)(y:s.size<=maxLen):
 Calls prog 190 #[aS s] w λe w'=>e = aR (aB (H5 (Zh s)))/\Below w w w':=by
 have h:=Qh s;have a:=litB_lit (Zh s);by_cases l:s.size=0
 ·have g:H5 (Zh s)=false:=by unfold H5;rw[h,l];simp
  rw[g];have C:=Cp s l;clear g h a;go_enter func190,ntmps190;go_wp2;go_ret;exact⟨rfl,AP _ _⟩
 have f:0<s.size:=AA
 obtain⟨D,E⟩:=Zz8 s f;have v:=Yn (d:=0) (J0 s 0 f);rw[v,h] at a;have B:=LH l;clear l;by_cases m:(s[0]'f).toNat=39
 case neg =>
  have g:H5 (Zh s)=false:=by rw[a];simp[m]
  rw[g];have x:(((s[0]'f).toNat:Int)==39)=false:=by rw[AR];omega
  clear g h a v m;go_enter func190,ntmps190;go_wp2;go_ret;exact⟨rfl,AP _ _⟩
 have x:(((s[0]'f).toNat:Int)==39)=true:=by rw[BS];omega
 rw[m] at a;simp only[decide_true,Bool.true_and] at a;have F:=λw=>Lib.run_convert_string_bytes (P:=prog) w 9 57 5 s underlying9 underlying57 underlying5;have t:=bytesWorld_below w 5 s;have u:=lx_literal _ _ _ (Zh s) _ (bytesWorld_nums w 5 s y) (bytesOf_lt s);generalize H5 (Zh s)=r at *;generalize litN (Zh s)=p at *;obtain⟨j,k⟩:=p;simp only[] at u a;have q:=LH u;clear u h v m;by_cases n:k=0
 ·have z:((k:Int)==0)=true:=by rw[BS];omega
  have b:decide (k=0)=true:=by simp[n]
  rw[b] at a;clear b n;by_cases o:j=s.size
  ·have A:((j:Int)==(s.size:Int))=true:=by rw[BS];omega
   have c:decide (j=s.size)=true:=by simp[o]
   rw[c] at a;subst a;clear c o;go_enter func190,ntmps190;go_wp2_with (go_at_call 213;refine q.out.mono ?_;rintro e w'⟨rfl,rfl⟩);go_ret;exact⟨rfl,t⟩
  have A:((j:Int)==(s.size:Int))=false:=by rw[AR];omega
  have c:decide (j=s.size)=false:=by simp[o]
  rw[c] at a;subst a;clear c o;go_enter func190,ntmps190;go_wp2_with (go_at_call 213;refine q.out.mono ?_;rintro e w'⟨rfl,rfl⟩);go_ret;exact⟨rfl,t⟩
 have z:((k:Int)==0)=false:=by rw[AR];omega
 have b:decide (k=0)=false:=by simp[n]
 rw[b] at a;subst a;clear b n;go_enter func190,ntmps190;go_wp2_with (go_at_call 213;refine q.out.mono ?_;rintro e w'⟨rfl,rfl⟩);go_ret;exact⟨rfl,t⟩
def cf_named(s:ByteArray)(w:World)(d:s.size<=maxLen):
 Calls prog 139 #[aS s] w λe w'=>e = aR (aB (Q7 s))/\Below w w w':=by
 have c1:=lx_name s w;have c2:=lx_Literal s w d;unfold Q7;generalize Xi (Zh s)=p at *;generalize H5 (Zh s)=q at *;have a:=LH c1;have b:=LH c2;clear c1 c2;cases p
 ·go_enter func139,ntmps139;go_wp2_with (first
   | (go_at_call 86;refine a.out.mono ?_;rintro e w'⟨rfl,rfl⟩)
   | (go_at_call 190;refine b.out.mono ?_;rintro e w'⟨rfl,c⟩))
  go_ret;exact⟨rfl,c⟩
 go_enter func139,ntmps139;go_wp2_with (first
  | (go_at_call 86;refine a.out.mono ?_;rintro e w'⟨rfl,rfl⟩)
  | (go_at_call 190;refine b.out.mono ?_;rintro e w'⟨rfl,c⟩))
 go_ret;exact⟨rfl,AP _ _⟩
def Z5(G:Gr):List Bool:=Z3 (Yy (Yp (Zt G)) G.U) G.O.length (Xv G)
def Qq(b:Bool)(G:Gr):(U5 b G).length=(Q G.O):=by unfold U5;rw[Ad];simp
def Qm(G:Gr):Nat:=Jb (λi=>(Zt G).getD i false&&(Z5 G).getD i false) G.O.length
def Gy(G:Gr):Nat:=if G.rt then Qm G else 0
def useG_lt(G:Gr):Gy G<4294967296:=by
 unfold Gy Qm;split
 ·exact Jg _ _
 decide
def endG(G:Gr):Bool:=(Vh G &&& Gy G) != 0
def grown_fix(b:Bool)(G:Gr):Xs (Xo b) G.U (U5 b G)=U5 b G:=by
 have:=(Ng (Xo b) G.U).fix (List.replicate (Q G.O) false);rw[Ee] at this;exact this
def Ue{b:Bool}{G:Gr}(d:r∈G.U)(c:r.L.toNat<(Q G.O))(h:Xj b (U5 b G) r.rt=true):(U5 b G).getD r.L.toNat false=true:=by
 have a:=Zzc (Xo b) G.U (grown_fix b G) r d;unfold Qa at a;rw[if_pos (show Xo b r (U5 b G)=true from h)] at a;rw[<-a];exact (Uh _ _ _).2 (.inr ⟨rfl,by rw[Qq];exact c⟩)
def reach_least{G:Gr}(X:Nat->Prop)(h0:X G.zt.toNat)(a:∀r∈G.U,X r.L.toNat->Xj true (Zt G) r.rt=true->∀s∈r.rt,s<0->X (Zp s))(h:(Z5 G).getD i false=true):X i:=by
 unfold Z5 at h;have key:∀(k i:Nat),(Z3 (Yy (Yp (Zt G)) G.U) k (Xv G)).getD i false=true->X i:=by
  intro k
  induction k with
  | zero =>
    intro i h;rw[Z3] at h;unfold Xv at h;rcases (Uh _ _ _).1 h with h | ⟨rfl,_⟩
    ·rw[Zve] at h;cases h
    ·exact h0
  | succ k b=>intro i h;exact Zyx X G.U a b i h
 exact key _ i h
def useB(G:Gr)(i:Nat):Prop:=(Zt G).getD i false=true/\(Z5 G).getD i false=true
def Yh(G:Gr):List Rul:=G.U.filter (Ky (Zt G) (Z5 G))
def Ze(G:Gr):List Nat:=Wu (Yh G)
def Zi(G:Gr):Gr:=⟨G.T,(Ze G).map (Ws G),(Yh G).map (Wb (Ze G)),toI (Ze G) G.zt.toNat⟩
def Fq{G:Gr}:r∈Yh G↔r∈G.U/\(Z5 G).getD r.L.toNat false=true/\Xj true (Zt G) r.rt=true:=by
 unfold Yh Ky;rw[List.mem_filter,AS]
def Zug{G:Gr}(a:r∈Yh G):r.L.toNat∈Ze G:=Ka.2 ⟨r,a,rfl⟩
def Ub(G:Gr):(Ze G).Nodup:=Nh _
def red_lefts(G:Gr)(n:G.Fits)(k:∀r∈Yh G,(Zi G).ruleOK (Wb (Ze G) r)=true):∀(a b:List Rul),a++b=Yh G->
 (Zi G).leftsGo (a.map (Wb (Ze G))) (-1)=some (((Wu a).length:Int)-1):=by
 intro a
 induction a using K3 with
 | h0=>intro b _;simp[Gr.leftsGo,Wu]
 | h1 a r m =>
   intro b f;have h1:=m (r::b) (by rw[<-f];simp);have l:r∈Yh G:=by rw[<-f];simp
   rw[DI,CU,List.map_nil,Gr.leftsGo_snoc,h1,Option.bind_some];have j:Ze G=Wu ((a++[r])++b):=by unfold Ze;rw[f]
   have g:r.L.toNat∈Wu (a++[r]):=Ka.2 ⟨r,AE,rfl⟩;have c:(Wb (Ze G) r).L=toI (Wu (a++[r])) r.L.toNat:=by
    show toI (Ze G) r.L.toNat=_;rw[j,toI_part g]
   rw[if_pos]
   ·rw[c,Vs];unfold N3;split
    ·rename_i hi;have:=Df (Wu a) r.L.toNat
     rw[BT];omega
    rename_i hi;have d:(Wu a++[r.L.toNat]).Nodup:=by
     have:=Nh (a++[r]);rw[Vs] at this;unfold N3 at this;rwa [if_neg hi] at this
    rw[toI_app d,BT];simp only[AU,CW];omega
   refine⟨?_,?_,k r l⟩
   ·rw[c];have:¬toI (Wu (a++[r])) r.L.toNat<0:=λh=>Bx.1 h g;omega
   rw[c,Vs];unfold N3;split
   ·have:=Df (Wu a) r.L.toNat
    omega
   rename_i hi;have d:(Wu a++[r.L.toNat]).Nodup:=by
    have:=Nh (a++[r]);rw[Vs] at this;unfold N3 at this;rwa [if_neg hi] at this
   rw[toI_app d];omega
def Ms{G:Gr}(d:G.Fits):∀(f:Nat) {s:Int},Qw G f s 0≠0->Xg (Zj G) s=true
 | 0,s,h=>by
   exfalso;unfold Qw at h;split at h
   ·exact h (by simp[K0])
   ·exact h rfl
 | f+1,s,h=>by
   by_cases h0:0<=s
   ·rw[Un G _ h0] at h;exact absurd (by simp[K0]) h
   rw[Fg G f AA] at h;obtain⟨r,a,l⟩:∃r∈G.U.filter (λr=>decide (r.L.toNat=Zp s)),Zx (Qw G f) r.rt 0≠0:=by
    apply DU;intro k;apply h;unfold Yc;rw[Mc];intro r a;apply DU;intro m;exact k ⟨r,a,m⟩
   rw[List.mem_filter,BA] at a;have g:∀q∈r.rt,Xg (Zj G) q=true:=λq c=>Ms d f λn=>l (Uf.2 ⟨q,c,n⟩);have j:Xj false (Zj G) r.rt=true:=U8.2 λq c=>by
    have:=g q c;unfold Xg at this;rw[AS,BA] at this;exact⟨λh1=>AA,λ_=>this.2⟩
   have o:=d.L r a.1;have:=Ue (b:=false) (G:=G) a.1 AA j;rw[a.2] at this;unfold Xg;rw[AS,BA];exact⟨AA,this⟩
def Ll.zt(G:Gr)(a:List Nat):Ll G a (λ_ _=>0) 0 0:=⟨λk b=>AA,λi hi=>by simp at hi,λ_ _=>rfl⟩
def N5(G:Gr):List Nat × Int:=if G.rt then (if endG G then ([],10) else ((Y4 (Yz G) (Qm G) G.O.length G.O.length).1,0)) else ([],1)
def Mx(G:Gr)(w:World)(e:Ending)(w':World):Prop:=Below w.heap.size w w'/\∃A c,e = aR (.tuple #[K A (N5 G).1.length c,aI aJ (N5 G).2])/\Za .i64 w' A (N5 G).1.length c (Z6 (N5 G).1)
def Mx.fail{G:Gr}{w:World}{a:Int}(h:N5 G=([],a))(b:Below w w w'):Mx G w (aR (.tuple #[K aN 0 0,aI aJ a])) w':=by
 unfold Mx;rw[h];exact⟨b,aN,0,rfl,Yl (BL _ 0 3 1)⟩
def Mx.good{G:Gr}{w:World}{l:List Nat}(h:N5 G=(l,0))(a:Below w w w'){A:Option Addr}{c B:Nat}(b:w'.ownsRow B 3 1 (K A (Q l) c) (Q l) (ints .i64 (Z6 l))):Mx G w (aR (.tuple #[K A (Q l) c,aI aJ 0])) w':=by
 unfold Mx;rw[h];exact⟨a,A,c,rfl,Yl b⟩
def useS_lt(G:Gr):Qm G<4294967296:=Jg _ _
def Off.refl(S:Nat->Prop)(w:World):Off S w w:=⟨rfl,rfl,rfl,AJ _,λ_ _ _=>rfl⟩
def Zv5(G:Gr)(i:Nat):Bool:=match G.U[i]? with
 | some r=>Ky (Zt G) (Z5 G) r
 | none=>false
def ksN(G:Gr)(j:Nat):List Nat:=(List.range j).filter (Zv5 G)
def Wj(G:Gr)(j:Nat):List Rul:=(G.U.take j).filter (Ky (Zt G) (Z5 G))
def Zts{G:Gr}(a:G.U[j]? = some r)(h:Ky (Zt G) (Z5 G) r=true):ksN G (j+1)=ksN G j++[j]/\Wj G (j+1)=Wj G j++[r]:=by
 have b:Zv5 G j=true:=by unfold Zv5;rw[a];exact h
 constructor
 ·unfold ksN;rw[DP,List.filter_append];simp[b]
 unfold Wj;rw[Ya a,List.filter_append];simp[h]
def ksN_no{G:Gr}(a:G.U[j]? = some r)(h:Ky (Zt G) (Z5 G) r=false):ksN G (j+1)=ksN G j/\Wj G (j+1)=Wj G j:=by
 have b:Zv5 G j=false:=by unfold Zv5;rw[a];exact h
 constructor
 ·unfold ksN;rw[DP,List.filter_append];simp[b]
 unfold Wj;rw[Ya a,List.filter_append];simp[h]
def Mh(G:Gr):∀j,j<=(Q G.U)->(ksN G j).length=(Wj G j).length/\∀q i:Nat,(ksN G j)[q]? = some i->∃r,G.U[i]? = some r/\(Wj G j)[q]? = some r
 | 0,_=>⟨rfl,λq i h=>by simp[ksN] at h⟩
 | j+1,hj=>by
   obtain⟨h1,f⟩:=Mh G j AA;have b:G.U[j]? = some (G.U[j]' AA):=AL _;generalize G.U[j]=r at b;cases g:Ky (Zt G) (Z5 G) r with
   | false =>
     obtain⟨c,d⟩:=ksN_no b g;rw[c,d];exact⟨h1,f⟩
   | true =>
     obtain⟨c,d⟩:=Zts b g;rw[c,d];refine⟨by simp[h1],λq i a=>?_⟩;rcases Nat.lt_trichotomy q (ksN G j).length with l | k | m
     ·rw[DF l] at a;rw[DF AA];exact f q i a
     ·subst k;rw[BX (AJ _),Nat.sub_self] at a;have:j=i:=by simpa using a
      subst this;refine⟨r,b,?_⟩;rw[h1,BX (AJ _),Nat.sub_self];rfl
     rw[BE AG] at a;cases a
def Jp(G:Gr):Wj G (Q G.U)=Yh G:=by unfold Wj Yh;rw[List.take_length]
def ks_lt{G:Gr}(h:i∈ksN G j):i<j:=by
 unfold ksN at h;exact BP.1 (List.mem_filter.1 h).1
def Zu9(G:Gr)(j:Nat):(ksN G j).length<=j:=BC (List.length_filter_le _ _) AE
def Zsg(G:Gr)(a:G.Fits)(j:Nat):(Wu (Wj G j)).length<=(Q G.O):=by
 refine Br _ _ (Nh _) λi hi=>?_;obtain⟨r,b,rfl⟩:=Ka.1 hi;have:=a.L r (List.mem_of_mem_take (List.mem_filter.1 b).1);omega
def Wk.cells{w:World}{p B:Nat}{h:GH}{G:Gr}(k:Wk w p B h G):p<w.heap.size/\w.cell? ⟨p,0,aN⟩=some (K h.a1 h.n1 h.c1)/\w.cell? ⟨p,1,aN⟩=some (K h.a2 h.n2 h.c2)/\w.cell? ⟨p,2,aN⟩=some (K h.a3 h.n3 h.c3)/\w.cell? ⟨p,3,aN⟩=some (aI aJ 0) /\
 w.cell? ⟨p,7,aN⟩=some (aB false)/\w.cell? ⟨p,10,aN⟩=some (aI aJ 0)/\w.frozen? ⟨p,0,aN⟩=false/\w.frozen? ⟨p,1,aN⟩=false/\w.frozen? ⟨p,2,aN⟩=false :=
 ⟨k.blk.lt,k.blk.cell 0,k.blk.cell 1,k.blk.cell 2,k.blk.cell 3,k.blk.cell 7,k.blk.cell 10,k.blk.frozen 0,k.blk.frozen 1,k.blk.frozen 2⟩
def Qn(W:World)(a:List Value)(e:TypeId):∀j u,a[j]? = some u->(W.alloc (aC a.toArray e)).cell? ((⟨W,0,aN⟩:Addr).add j)=some u:=by
 intro j u d;have b:(⟨W,0,aN⟩:Addr).add j=⟨W,j,aN⟩:=by
  unfold Addr.add;split
  ·rename_i c;subst c;rfl
  simp
 rw[b,World.cell?_alloc_mark];simpa using d
def Xp(G:Gr):Bool:=G.rt&&(Zt G).getD G.zt.toNat false
def Dh(G:Gr)(w:World)(e:Ending)(w':World):Prop:=Below w.heap.size w w' /\
 ((Xp G=false/\∃b:Int,b≠0/\e = aR (.tuple #[GV noH 0,K none 0 0,aI aJ b])) \/
  (Xp G=true/\∃a c f d,e = aR (.tuple #[GV a (Zi G).zt,K c f d,aI aJ 0])/\Yf w' a (Zi G)/\a.n1<=24/\a.n2<=16/\a.n3<=40))
def Zyo(G:Gr)(w:World)(e:Ending)(w':World):Prop:=Below w.heap.size w w' /\
 ((Xp G=false/\∃d:Int,d≠0/\e = aR (.tuple #[GV noH 0,K none 0 0,aI aJ d])) \/
  (Xp G=true/\∃a b f c,e = aR (.tuple #[GV a (Zi G).zt,K b f c,aI aJ 0])/\Yf w' a (Zi G)/\a.n1<=24/\a.n2<=16/\a.n3<=40/\Za .i64 w' b f c (Z6 (ksN G G.U.length))))
def Zyo.plain{G:Gr}{w:World}{e:Ending}(h:Zyo G w e w'):Dh G w e w':=by
 obtain⟨h1,a|⟨a,d,b,m,c,f,g,j,k,l,_⟩⟩:=h
 ·exact⟨h1,.inl a⟩
 exact⟨h1,.inr ⟨a,d,b,m,c,f,g,j,k,l⟩⟩
def tr_one(n:Int)(w:World):Calls prog 157 #[aI aJ n] w λe w'=>e = aR (aI .u32 ((Y6 n:Nat):Int))/\Below w w w':=by
 have b:=Zy w (aC #[aI aJ n] 3);have a:=set_of (some ⟨w,0,aN⟩) 1 1 [n] (w.alloc (aC #[aI aJ n] 3)) (Ztd w 3 n);rw[ofN_one] at a;have c:=LH a;have d:=LH b;clear a b;go_enter func157,ntmps157;go_wp2_with (go_at_call 201;refine c.out.mono ?_;rintro e w'⟨rfl,rfl⟩);go_ret;exact⟨rfl,d⟩
def Zxu(A:Option Addr)(n c:Nat)(l:List Int)(w:World)(h:Za .i64 w A n c l)(z:n<=100000):
 Calls prog 92 #[K A n c] w λe w'=>∃g,e = aR g/\w'.ownsRow w 3 1 g n (ints .i64 l)/\Below w w w':=by
 obtain rfl:=h.len;rcases A with _ | a
 ·have d:l=[]:=by
   rcases l with _ | ⟨x,l⟩
   ·rfl
   obtain⟨k,p,s,b,_⟩:=h.get (j:=0) AE;cases b
  subst d;refine (Tryz.slices_Clone_int_nil 0 c w).mono ?_;rintro e w'⟨rfl,rfl⟩;exact⟨_,rfl,BL _ _ _ _,AP _ _⟩
 by_cases d:l=[]
 ·subst d;refine (Tryz.slices_Clone_int_zero a c w).mono ?_;rintro e w'⟨g,rfl,f,_,m⟩;exact⟨_,rfl,f,m⟩
 have u:=List.length_pos_iff.2 d;obtain⟨k,p,s,b,_⟩:=h.get u;injection b with b;subst b;have r:∀j,j<(Q l)->w.cell? ⟨k,p+j,aN⟩=some (aI aJ (l.getD j 0)):=λj t=>by
  obtain⟨y,B,C,o,_,q,v⟩:=h.get t;injection o with o;injection o with e1 e2 e3;subst e1;subst e2;rw[AO,q];exact v
 refine (Tryz.slices_Clone_int k p (Q l) c l w (AJ _) AA r).mono ?_;rintro e w'⟨g,rfl,f,_,m⟩;rw[AQ (AJ _)] at f;exact⟨_,rfl,f,m⟩
def Uc{w a:World}{n0 c0:Nat}{b0:Bool}(f:Blk a g 154 #[K A0 n0 c0,aB b0])(d:Below w w a)(j:w.heap.size<=g)(A:Option Addr)(n c:Nat)(b:Bool):
 Below w w ((a.setCell ⟨g,0,aN⟩ (K A n c)).setCell ⟨g,1,aN⟩ (aB b)) /\
 Blk ((a.setCell ⟨g,0,aN⟩ (K A n c)).setCell ⟨g,1,aN⟩ (aB b)) g 154 #[K A n c,aB b]/\Zf a ((a.setCell ⟨g,0,aN⟩ (K A n c)).setCell ⟨g,1,aN⟩ (aB b)):=by
 refine⟨(d.trans (Zn (Zd _ _ _ _) d.size j)).trans (Zn (Zd _ _ _ _) (by simpa using d.size) j),(f.set 0 _).set 1 _,?_⟩;refine Zf.of_off ((Off.of_set a g 0 (K A n c)).trans (Off.of_set _ g 1 (aB b)) λ_ _ h=>h) λq k=>?_;rw[k];exact Jk f
def eqG_yes{A B:Gr}(h1:A.T=B.T)(f:A.O=B.O)(g:A.U=B.U)(h:A.zt=B.zt):eqG A B=true:=by
 rw[Ztp];obtain⟨a,b,c,d⟩:=A;obtain⟨j,k,l,m⟩:=B;simp only at h1 f g h;rw[h1,f,g,h]
noncomputable def Q9(G:Gr):Bool:=Xp G&&eqG G (Zi G)
def Zzn{G:Gr}:Q9 G=true↔Xp G=true/\Zi G=G:=by
 unfold Q9;rw[AS,Ztp];exact⟨λh=>⟨h.1,h.2.symm⟩,λh=>⟨h.1,h.2.symm⟩⟩
open Classical in
noncomputable def Wi(G:Gr)(l:List Int)(n:Int):List Nat × Nat :=
 if Q9 G=false\/6<l.length\/n<0\/10<n\/(∃s∈l,G.has s=false) then ([],1)
 else if Vh G≠0 then ([],10) else Xm (Zx (Zv G) l n.toNat)
def Jc.zt(w:World)(B N:Nat)(tab:Nat->Nat->Nat):Jc w B aN 0 0 N [] tab:=⟨BL _ _ _ _,λg h=>(by cases h),List.nodup_nil,λm g h=>by simp at h⟩
open Classical in
noncomputable def Z2(G:Gr)(n:Int):List Nat × Nat :=
 if G.rt=false\/n<0\/10<n then ([],1) else if Xp G=false then ([],0) else Wi (Zi G) [-1-(Zi G).zt] n
def Zsk{G:Gr}(a:G.rt=true):0<=G.zt/\G.zt<((Q G.O):Int)/\(Q G.O)<=16:=by
 have b:=Gr.fits a;obtain⟨_,_,_,c,_⟩:=Nd.1 a;have:=b.n2;omega
def Db(G:Gr):(Zi G).T=G.T:=rfl
def red22A:Xp Xt=true:=AB
def Fh:Zi Xt=Xt:=AB
def cnt_of{G:Gr}(b:G.rt=true)(d:n<=10)(a:Xp G=true)(hi:Zi G=G)(c:G.zt=0):Z2 G (n:Int)=Wi G [-1] (n:Int):=by
 unfold Z2;rw[if_neg,if_neg (by rw[a];simp),hi,c]
 ·rfl
 rintro (h | h | h)
 ·rw[b] at h;cases h
 ·omega
 omega
def Yr(G:Gr)(i:Nat):Nat:=(ksN G G.U.length).getD i 0
def ks_pair(G:Gr)(j:Nat):(ksN G j).Pairwise (·<·):=by
 unfold ksN;exact List.Pairwise.filter _ List.pairwise_lt_range
def Zzr{G:Gr}(hi:i<(ksN G (Q G.U)).length)(a:j<(ksN G (Q G.U)).length)(h:Yr G i=Yr G j):i=j:=by
 unfold Yr at h;rw[AO,AO,AL hi,AL a] at h;have h:(ksN G (Q G.U))[i]=(ksN G (Q G.U))[j]:=h;rcases Nat.lt_trichotomy i j with b | rfl | b
 ·have h1:=List.pairwise_iff_getElem.1 (ks_pair G (Q G.U)) i j hi a b;omega
 ·rfl
 have h1:=List.pairwise_iff_getElem.1 (ks_pair G (Q G.U)) j i a hi b;omega
def Zv9{G:Gr}:∀{t u:List Nat},(∀i∈t,i<(ksN G (Q G.U)).length)->(∀i∈u,i<(ksN G (Q G.U)).length)->t.map (Yr G)=u.map (Yr G)->t=u
 | [],[],_,_,_=>rfl
 | [],_::_,_,_,h=>by cases h
 | _::_,[],_,_,h=>by cases h
 | i::t,j::u,ht,hu,h=>by
   rw[CU,CU] at h;injection h with h1 h2;rw[Zzr (ht i (By ..)) (hu j (By ..)) h1,Zv9 (λi hi=>ht i (.tail _ hi)) (λi hi=>hu i (.tail _ hi)) h2]
def Fu(G:Gr):(Zi G).U.length=(ksN G (Q G.U)).length:=by
 have h1:=(Mh G (Q G.U) (AJ _)).1;rw[Jp] at h1;rw[h1];simp[Zi]
def Bc(G:Gr)(t:List Nat)(j:Nat):List Int:=((t.take j).map (Yr G)++t.drop j).map λi:Nat=>(i:Int)
def rowU_at{G:Gr}{t:List Nat}{x:Nat}(h:t[j]? = some x):(Bc G t j)[j]? = some (x:Int):=by
 obtain⟨a,rfl⟩:=AN.1 h;unfold Bc;rw[BB,BX AG];simp[Nat.min_eq_left (DS a)];exact⟨_,h,rfl⟩
def rowU_set{G:Gr}{t:List Nat}{x:Nat}(h:t[j]? = some x):(Bc G t j).set j ((Yr G x:Nat):Int)=Bc G t (j+1):=by
 have h1:=Ya h;obtain⟨a,rfl⟩:=AN.1 h;unfold Bc;rw[h1,Eb a];simp only[DI,CU,List.map_nil,DW,DL,DA];have b:(((t.take j).map (Yr G)).map λi:Nat=>(i:Int)).length=j:=by
  rw[BI,BI,BU];omega
 rw[List.set_append_right _ _ AA,b,Nat.sub_self];rfl
def Fa{H:Gr}(a:H.Fits):-1-H.zt<0/\Zp (-1-H.zt)=H.zt.toNat/\Zp (-1-H.zt)<(Q H.O):=by
 have:=a.st;have e:Zp (-1-H.zt)=H.zt.toNat:=by unfold Zp;omega
 exact⟨AA,e,by rw[e];omega⟩
def kept22:Yr Xt 0=0/\Yr Xt 1=1:=⟨AB,AB⟩
def start22:(Zi Xt).zt.toNat=0:=by rw[Fh];rfl
def Zrk.zt(w:World)(B:Nat):Zrk w B aN 0 0 [] []:=⟨BL _ _ _ _,λg h=>(by cases h),rfl,λj xs h=>by simp at h⟩
section
open Go.RowKit Go.Maps
theorem cf_levels(A:Option Addr)(n c:Nat)(l:List Trm)(w:World)(h:N8 w A n c l)(hn:n<=1000)(C:∀t∈l,0<=t.V/\t.V<=24/\0<=t.S/\t.S<=3):
 Calls prog 140 #[.slice A n c] w λe w'=>e = .returned (.bool (Jh l))/\Below w.heap.size w w':=by
 obtain rfl:=h.len;have a2:=h.cap;have Hb:=LH C;clear C;have ap:=@run_makeMap prog;have U:=Zy w (.map #[] 0);have W:=World.ownsMap_made w prog 3 (plainElem (H:=Unit) prog 3);go_enter func140,ntmps140;go_wp2_with fail;go_loopw [4,6,7,11] (λtop _ _ i wr=>∃(k:Nat) (D:DataW Unit),k<=l.length/\i = .int .i64 (k:Int)/\top = .int .i64 (J7 (l.take k))/\wr.ownsMap prog 3 (plainElem prog 3) w.heap.size k D/\Below w.heap.size w wr/\Hid (Ways D (l.take k))/\Hid (0<=J7 (l.take k)/\J7 (l.take k)<=24)/\Hid (∀j,j<k->∀y,l[j]? = some y->(!Fo l j y)=false)) (λ_ _ _ i _=>l.length-(intOf i).toNat)
 case atStart=>exact⟨0,.map [],AV _,rfl,rfl,W,U,LH Ways.zt,LH (by simp[J7]),LH λj Z=>AA⟩
 clear W U ap;obtain⟨k,D,hk,rfl,rfl,E,B,z,I,G⟩:=hrel;have a4:=E.lt;by_cases ao:k<l.length
 ·obtain⟨b,a6,t,rfl,C,r,q0,q1,q2⟩:=h.get ao;rw[<-B.cell (by exact C)] at q0 q1 q2;have am:=Hb.out t (AM r.out);have ab:l.take (k+1)=l.take k++[t]:=by rw[Du,r.out];rfl
  have s:=LH ab;obtain⟨g1,g2,g3,g4⟩:=am;obtain⟨t1,t2⟩:=I.out;have V:∀o,Below w.heap.size w (wr.alloc o):=λo=>B.alloc B.size o;have v:=LH V;have x:Hid (∀o,(wr.alloc o).ownsMap prog 3 (plainElem prog 3) w.heap.size k D):=LH λo=>E.alloc o;clear V ab E;by_cases m:t.V=0
  ·have d1:(t.V==0)=true:=by rw[BS];exact m
   have p:=LH m;clear m;go_wp2_with fail;go_roundw
   case rel=>exact⟨k+1,D,AA,AF,by rw[s.out,Dz,if_pos p.out],(x.out _).mono AA,v.out _,by rw[s.out];exact LH (z.out.zero p.out),by rw[s.out,Dz,if_pos p.out];exact I,LH (Lr G.out r.out (by simp[Fo,p.out]))⟩
   simp[intOf];omega
  have d1:(t.V==0)=false:=by rw[AR];exact m
  have p:=LH m;have R:1<=t.V:=AA
  have L:keyOf prog 3 (.int .i64 t.V)=some (.int .i64 t.V):=keyOf_int_mk underlying3 (WalkArith.wf_i64 AA);have aa:=z.out.at_ t.V R;have X:Fo l k t=(decide (Vl (l.take k) t.V=0) || decide (Vl (l.take k) t.V=t.S)):=by
   unfold Fo;rw[show decide (t.V=0)=false from by simp[m],Bool.false_or]
  have M:=LH X;generalize Vl (l.take k) t.V=f at *;have N:=LH aa;clear m aa X;by_cases g:f≠0/\f≠t.S
  ·have F:Hid (Jh l=false):=LH (by
    have:consOK l=false:=Lp r.out (by rw[M.out];simp[g.1,g.2]);unfold Jh;rw[this];rfl)
   have P:(f != 0)=true:=by rw[BK];exact g.1
   have d3:(f != t.S)=true:=by rw[BK];exact g.2
   clear g;go_wp2_with (at_lookup;refine wpList_lookup_own_int _ rfl _ _ 147 rfl 3 3 .i64 law3 underlying147 underlying3 (zero3 _) w.heap.size k _ rfl (x.out _) _ _ rfl L ?_;intro c' d au;rw[N.out] at d;injection d with d;injection d with _ d;subst d);go_ret;exact⟨by rw[F.out];rfl,v.out _⟩
  have ag:Hid ((!Fo l k t)=false):=LH (by
   rw[M.out];by_cases q:f=0
   ·simp[q]
   by_cases u:f=t.S
   ·simp[u]
   exact absurd ⟨q,u⟩ g)
  have hw:(f != 0)=false\/((f != 0)=true/\(f != t.S)=false):=by
   rw[BR,BR,BK];by_cases q:f=0
   ·exact .inl q
   exact .inr ⟨q,by by_cases u:f=t.S;exact u;exact absurd ⟨q,u⟩ g⟩
  have O:Hid (J7 (l.take (k+1))=max (J7 (l.take k)) t.V):=LH (by rw[s.out,Dz,if_neg p.out]);have J:=Wg wr 140 #[.string t.name,.int .i64 t.V,.int .i64 t.S] 1;simp only[DQ,List.getElem?_cons_zero,List.getElem?_cons_succ] at J;have af:=LH J;clear g J;rcases hw with P | ⟨P,d3⟩;all_goals
   go_wp2_with (first
    | (at_lookup;refine wpList_lookup_own_int _ rfl _ _ 147 rfl 3 3 .i64 law3 underlying147 underlying3 (zero3 _) w.heap.size k _ rfl (x.out _) _ _ rfl L ?_;intro c' d au;rw[N.out] at d;injection d with d;injection d with _ d;subst d)
    | (at_mapUpdate;refine wpList_mapUpdate_own _ rfl _ _ _ 147 rfl 3 3 law3 underlying147 _ w.heap.size k _ rfl (x.out _) (by unfold maxLen;omega) _ _ _ rfl rfl L _ [] (plainElem_int underlying3 (WalkArith.wf_i64 AA)) ?_;intro w4 aq Y;have r1:=(DG (a:=⟨wr.heap.size,1,none⟩) (Y.block wr.heap.size AE (by intro S;injection S with S;omega))).trans af.out))
   go_roundw
   case rel=>exact⟨k+1,_,AA,AF,by rw[O.out],aq,(v.out _).grown Y (v.out _).size (λj Z=>by cases Z;exact AJ _),by rw[s.out];exact LH (z.out.more R g2),LH (by rw[O.out];omega),LH (Lr G.out r.out ag.out)⟩
   simp[intOf];omega
 obtain rfl:k=l.length:=AA
 have hL:((l.length:Int)<(l.length:Int))=False:=AE
 have F:Hid (Jh l=(((Maps.size D:Nat):Int)==J7 l)):=LH (by
  have hc:consOK l=true:=Kc λj y hy=>by
   have:=G.out j (AN.1 hy).1 y hy;simpa using this
  have T:=z.out.size_;have h2:=I.out;rw[AQ (AJ _)] at T h2;unfold Jh;rw[hc,T,Bool.true_and,Cc,BA,BS])
 go_wp2_with (at_len;refine wpList_len_own _ rfl _ 147 rfl 3 3 underlying147 _ w.heap.size _ _ rfl E ?_);go_ret;exact⟨by rw[F.out];rfl,B⟩
def V0.at{w:World}{F:List Nat}(h:V0 w g F)(hi:i<(Q F)):w.cell? ⟨g,i,aN⟩=some (aI .u32 ((F.getD i 0:Nat):Int)):=by
 rw[Blk.cell h];simp[nums,hi]
def V0.new(w:World)(F:List Nat):V0 (w.alloc (aC (nums .u32 F).toArray 41)) w F:=Blk.new w _ _
def rf_all(Ar:Option Addr)(A cr g n:Nat)(ss:List Int)(N:List Bool)(b:Bool)(w:World)(q:Za .i64 w Ar A cr ss)(r:Z8 w g N)(M:(Q N)=n)(G:n<=1000)(v:∀s∈ss,-(n:Int)<=s/\s<=1000):
 Calls prog 58 #[K Ar A cr,K (some ⟨g,0,aN⟩) n n,aB b] w λe w'=>e = aR (aB (Xj b N ss))/\w=w':=by
 obtain rfl:=q.len;have J:=q.cap;have D:=LH v;have B:=LH r;have m:Hid (Xj b N ss=ss.all λs=>if 0<=s then b else N.getD (Zp s) false):=rfl;clear v r;go_enter func58,ntmps58;go_wp2_with fail;go_loop [7] (λi=>∃(k:Nat),k<=(Q ss)/\i = aI aJ (k:Int)/\Hid (∀j,j<k->∀y,ss[j]? = some y->(!(if 0<=y then b else N.getD (Zp y) false))=false)) (λi=>(Q ss)-(intOf i).toNat)
 case atStart=>exact⟨0,AV _,rfl,LH λj E=>AA⟩
 obtain⟨k,L,rfl,p⟩:=hrel;by_cases F:k<(Q ss)
 ·obtain⟨I,P,s,rfl,a,c,R⟩:=q.get F;obtain⟨H,S⟩:=D s (AM c);by_cases h:0<=s
  ·have d:b=false->Xj b N ss=false:=λa=>by rw[m];exact Jy c (by rw[if_pos h];exact a)
   have f:b=true->(!(if 0<=s then b else N.getD (Zp s) false))=false:=λa=>by rw[if_pos h,a];rfl
   have l:=LH d;have o:=LH f;clear d f;rcases (by cases b <;> simp:b=false\/b=true) with rfl | rfl
   ·go_wp2_with fail;go_ret;exact⟨by rw[l (by trivial)];rfl,rfl⟩
   go_wp2_with fail;go_roundw
   case rel=>exact⟨k+1,AA,AF,LH (Vz p c (o (by trivial)))⟩
   simp[intOf];omega
  obtain⟨j,E,u,O⟩:=Vy (s:=s) (n:=n) AA H G;have c0:=B.at (i:=j) AA;have d:N.getD j false=false->Xj b N ss=false:=λa=>by rw[m];exact Jy c (by rw[if_neg h,u];exact a)
  have f:N.getD j false=true->(!(if 0<=s then b else N.getD (Zp s) false))=false:=λa=>by rw[if_neg h,u,a];rfl
  generalize N.getD j false=x at *;have l:=LH d;have o:=LH f;clear d f;rcases (by cases x <;> simp:x=false\/x=true) with rfl | rfl
  ·go_wp2_with fail;go_ret;exact⟨by rw[l (by trivial)];rfl,rfl⟩
  go_wp2_with fail;go_roundw
  case rel=>exact⟨k+1,AA,AF,LH (Vz p c (o (by trivial)))⟩
  simp[intOf];omega
 obtain rfl:k=(Q ss):=AA
 have t:Xj b N ss=true:=by
  rw[m];exact Cv λj y z=>by
   have:=p j (AN.1 z).1 y z;simpa using this
 have C:=LH t;clear t;go_wp2_with fail;go_ret;exact⟨by rw[C];rfl,rfl⟩
end
def tr_within1(s:Int)(b g n:Nat)(N:List Bool)(w:World)(l:w.cell? ⟨b,0,aN⟩=some (K (some ⟨g,0,aN⟩) n n))(d:Z8 w g N)(o:(Q N)=n)(f:n<=1000)(k:-(n:Int)<=s/\s<=1000):
 Calls prog 151 #[aI aJ s,aP (some ⟨b,0,aN⟩)] w λe w'=>e = aR (aB (Cf N s))/\w=w':=by
 by_cases c:s<0
 ·obtain⟨j,m,h,p⟩:=Vy c k.1 f;have c0:=d.at (i:=j) AA;have a:Hid (Cf N s=!N.getD j false):=LH (by unfold Cf;rw[DV c,h];rfl);generalize N.getD j false=x at *;clear d;go_enter func151,ntmps151;go_wp2_with fail;go_ret;exact⟨by rw[a];rfl,rfl⟩
 have a:Hid (Cf N s=false):=LH (by unfold Cf;rw[BV c];rfl);clear d;go_enter func151,ntmps151;go_wp2_with fail;go_ret;exact⟨by rw[a];rfl,rfl⟩
def rf_made(Ar:Option Addr)(v cr g n:Nat)(ss:List Int)(N:List Bool)(w:World)(l:Za .i64 w Ar v cr ss)(o:Z8 w g N)(L:(Q N)=n)(F:n<=1000)(t:∀s∈ss,-(n:Int)<=s/\s<=1000):
 Calls prog 174 #[K Ar v cr,K (some ⟨g,0,aN⟩) n n] w λe w'=>e = aR (aB (Xj true N ss))/\w=w':=by
 obtain rfl:=l.len;have I:=l.cap;have C:=LH t;have z:=LH o;have m:Hid (Xj true N ss=ss.all λs=>if 0<=s then true else N.getD (Zp s) false):=rfl;clear t o;go_enter func174,ntmps174;go_wp2_with fail;go_loop [5] (λi=>∃(k:Nat),k<=(Q ss)/\i = aI aJ (k:Int)/\Hid (∀j,j<k->∀y,ss[j]? = some y->(!(if 0<=y then true else N.getD (Zp y) false))=false)) (λi=>(Q ss)-(intOf i).toNat)
 case atStart=>exact⟨0,AV _,rfl,LH λj D=>AA⟩
 obtain⟨k,J,rfl,f⟩:=hrel;by_cases E:k<(Q ss)
 ·obtain⟨H,O,s,rfl,c,b,R⟩:=l.get E;obtain⟨G,S⟩:=C s (AM b);by_cases h:0<=s
  ·have a:(!(if 0<=s then true else N.getD (Zp s) false))=false:=by rw[if_pos h];rfl
   have d:=LH a;clear a;go_wp2_with fail;go_roundw
   case rel=>exact⟨k+1,AA,AF,LH (Vz f b d)⟩
   simp[intOf];omega
  obtain⟨j,D,r,M⟩:=Vy (s:=s) (n:=n) AA G F;have c0:=z.at (i:=j) AA;have q:N.getD j false=false->Xj true N ss=false:=λc=>by rw[m];exact Jy b (by rw[if_neg h,r];exact c)
  have a:N.getD j false=true->(!(if 0<=s then true else N.getD (Zp s) false))=false:=λc=>by rw[if_neg h,r,c];rfl
  generalize N.getD j false=x at *;have B:=LH q;have d:=LH a;clear q a;rcases (by cases x <;> simp:x=false\/x=true) with rfl | rfl
  ·go_wp2_with fail;go_ret;exact⟨by rw[B (by trivial)];rfl,rfl⟩
  go_wp2_with fail;go_roundw
  case rel=>exact⟨k+1,AA,AF,LH (Vz f b (d (by trivial)))⟩
  simp[intOf];omega
 obtain rfl:k=(Q ss):=AA
 have p:Xj true N ss=true:=by
  rw[m];exact Cv λj y u=>by
   have:=f j (AN.1 u).1 y u;rw[Bool.not_eq_eq_eq_not] at this;exact this
 have A:=LH p;clear p;go_wp2_with fail;go_ret;exact⟨by rw[A];rfl,rfl⟩
def rf_alone(Ar:Option Addr)(r cr g n q:Nat)(ss:List Int)(N:List Bool)(w:World)(o:Za .i64 w Ar r cr ss)(v:Z8 w g N)(b:(Q N)=n)(R:n<=1000)(d:∀s∈ss,-(n:Int)<=s/\s<=1000)(hq:q<=1000)(Z:r<=1000):
 Calls prog 173 #[K Ar r cr,aI aJ (q:Int),K (some ⟨g,0,aN⟩) n n] w λe w'=>e = aR (aB (J6 N ss q))/\w=w':=by
 obtain rfl:=o.len;have X:=o.cap;have J:=LH d;have F:=LH v;clear d v;go_enter func173,ntmps173;go_wp2_with fail;go_loop [7] (λi=>∃(k:Nat),k<=(Q ss)/\i = aI aJ (k:Int)/\Hid (∀p,p<k->∀s,ss[p]? = some s->p≠q->Xg N s=true)) (λi=>(Q ss)-(intOf i).toNat)
 case atStart=>exact⟨0,AV _,rfl,LH λj L=>AA⟩
 obtain⟨k,Y,rfl,f⟩:=hrel;by_cases M:k<(Q ss)
 ·obtain⟨U,ad,s,rfl,W,l,q0⟩:=o.get M;obtain⟨T,s2⟩:=J s (AM l);by_cases m:k=q
  ·have D:∀p,p<k+1->∀s,ss[p]? = some s->p≠q->Xg N s=true:=λp c s d a=>f p AA s d a;have I:=LH D;have a:((k:Int) != (q:Int))=false:=by rw[BR];omega
   clear D m;go_wp2_with fail;go_roundw
   case rel=>exact⟨k+1,AA,AF,I⟩
   simp[intOf];omega
  have a:((k:Int) != (q:Int))=true:=by rw[BK];omega
  have B:Xg N s=true->∀p,p<k+1->∀s,ss[p]? = some s->p≠q->Xg N s=true:=λb p c y E a=>by
   rcases BD p k with h | h
   ·exact f p h y E a
   obtain rfl:p=k:=AA
   have:=l.symm.trans E;injection this with this;rw[<-this];exact b
  have A:Xg N s=false->J6 N ss q=false:=λb=>alone_false l m b;have t:=LH A;have H:=LH B;clear A B m;by_cases V:0<=s
  ·have O:Hid (Xg N s=false):=LH (by unfold Xg;rw[show decide (s<0)=false by rw[AZ];omega];rfl);go_wp2_with fail;go_ret;exact⟨by rw[t O];rfl,rfl⟩
  obtain⟨j,L,S,hw⟩:=Vy (s:=s) (n:=n) AA T R;have c0:=F.at (i:=j) AA;have C:Xg N s=N.getD j false:=by unfold Xg;rw[show decide (s<0)=true by rw[BA];omega,S];rfl
  have u:=LH C;clear C;generalize N.getD j false=x at *;rcases (by cases x <;> simp:x=false\/x=true) with rfl | rfl
  ·go_wp2_with fail;go_ret;exact⟨by rw[t u];rfl,rfl⟩
  go_wp2_with fail;go_roundw
  case rel=>exact⟨k+1,AA,AF,LH (H u)⟩
  simp[intOf];omega
 obtain rfl:k=(Q ss):=AA
 have z:J6 N ss q=true:=alone_true λp s c a=>f p (AN.1 c).1 s c a;have G:=LH z;clear z;go_wp2_with fail;go_ret;exact⟨by rw[G];rfl,rfl⟩
section
variable {G:Gr}
def sig(G:Gr)(i:Nat):Nat:=(toI (Ze G) i).toNat
def C8(h:i∈Ze G):toI (Ze G) i=(sig G i:Int)/\sig G i<(Ze G).length/\(Ze G)[sig G i]? = some i:=by
 obtain⟨k,a,b,c⟩:=toI_mem (Ub G) h;have:sig G i=k:=by unfold sig;omega
 rw[this];exact⟨c,a,b⟩
def sig_get{k:Nat}(h:(Ze G)[k]? = some i):sig G i=k:=by
 have:=Fc (Ub G) h;unfold sig;omega
def Zsw:(Zi G).O.length=(Ze G).length:=by show ((Ze G).map (Ws G)).length=_;rw[BI]
def Zs8{a:Rul}:a∈(Zi G).U↔∃r∈Yh G,Wb (Ze G) r=a:=CX
def Zyb(a:r∈Yh G):(Wb (Ze G) r).L.toNat=sig G r.L.toNat:=rfl
def Zuo(a:G.Fits)(b:(Zt G).getD G.zt.toNat false=true):(Zi G).zt.toNat=sig G G.zt.toNat:=rfl
def kept_at(f:G.Fits)(b:G.U[j]? = some r)(a:r∈Yh G):∃k,Yr G k=j/\(Zi G).U[k]? = some (Wb (Ze G) r):=by
 have d:j∈ksN G (Q G.U):=by
  unfold ksN;rw[List.mem_filter];refine⟨BP.2 (AN.1 b).1,?_⟩;unfold Zv5;rw[b];unfold Yh at a;exact (List.mem_filter.1 a).2
 obtain⟨k,a⟩:=BQ d;obtain⟨g,h1,c⟩:=(Mh G (Q G.U) (AJ _)).2 k j a;rw[b] at h1;obtain rfl:=BM h1;rw[Jp] at c;refine⟨k,by unfold Yr;rw[AO,a];rfl,?_⟩;show ((Yh G).map (Wb (Ze G)))[k]? = _;rw[BB,c];rfl
def kept_back{k:Nat}(a:(Zi G).U[k]? = some x):∃r,G.U[Yr G k]? = some r/\r∈Yh G/\x=Wb (Ze G) r:=by
 have a:((Yh G).map (Wb (Ze G)))[k]? = some x:=a;rw[BB] at a;cases b:(Yh G)[k]? with
 | none=>rw[b] at a;cases a
 | some r =>
   rw[b] at a;obtain⟨h1,c⟩:=Mh G (Q G.U) (AJ _);rw[Jp] at h1 c;have f:k<(ksN G (Q G.U)).length:=by rw[h1];exact (AN.1 b).1
   obtain⟨h,g,d⟩:=c k _ (AL f);rw[b] at d;obtain rfl:=BM d;refine⟨r,?_,AM b,(BM a).symm⟩;unfold Yr;rw[AO,AL f];exact g
end
section
variable {P:Program}
def Xw.at{Q:Exit->Act->World->Prop}:∀{l:List Oper} {i k:Nat} {o:Oper},Xw P ops Q J i l->l[k]? = some o->
 (∀(listed:Array Bool) (a:Act) (w:World),J listed a w->listed.getD (i+k) true=false->(∀e∈o.after,Region.binds .any e=true->listed.getD e.on false=true)->
   ∀K:Act->World->Prop,(∀c w',J (listed.setIfInBounds (i+k) true) c w'->K c w')->if Region.wanted o (yielded ops a.tmps) then o.wp P a w K Q else K (a.put o.dst undef) w)
 | [],i,k,o,_,b=>by simp at b
 | q::l,i,0,o,h,b=>by
   have e:q=o:=by simpa using b
   subst e;exact h.1
 | q::l,i,k+1,o,h,b=>by
   have:=Xw.at h.2 (by simpa using b:l[k]? = some o);rw[show i+(k+1)=i+1+k by omega];exact this
def Zy4{Q:Exit->Act->World->Prop}(g:Zvw ops=true)(l:∀i o,ops[i]? = some o->∀(listed:Array Bool) (a:Act) (w:World),J listed a w->listed.getD i true=false->(∀e∈o.after,Region.binds .any e=true->listed.getD e.on false=true)->
   ∀K:Act->World->Prop,(∀c w',J (listed.setIfInBounds i true) c w'->K c w')->if Region.wanted o (yielded ops a.tmps) then o.wp P a w K Q else K (a.put o.dst undef) w)(j:∀(listed:Array Bool) (a:Act) (w:World),J listed a w->(∀i,i<ops.size->listed.getD i true=true)->Q .normal a w):
 ∀(fuel:Nat) (listed:Array Bool) (a:Act) (w:World),leftN ops.size listed<=fuel->J listed a w->wpAny P .any ops Q fuel listed a w
 | 0,listed,a,w,hl,hJ=>by
   have d:Region.ready .any ops listed=[]:=by
    rw[List.eq_nil_iff_forall_not_mem];intro i hi;obtain⟨f,o,b,_⟩:=mem_ready.1 hi;have:=F6 (n:=ops.size) (Array.getElem?_eq_some_iff.1 b).1 f;omega
   exact⟨d,j listed a w hJ (Zwd g d)⟩
 | fuel+1,listed,a,w,hl,hJ=>by
   refine⟨λd=>j listed a w hJ (Zwd g d),λi hi=>?_⟩;obtain⟨f,o,b,m⟩:=mem_ready.1 hi;have p:=F6 (n:=ops.size) (Array.getElem?_eq_some_iff.1 b).1 f;have h1:=l i o b listed a w hJ f m (wpAny P .any ops Q fuel (listed.setIfInBounds i true)) (λc w' h=>Zy4 g l j fuel _ c w' AA h);unfold wpOp;simp only[b];split
   ·rename_i k;rw[if_pos k] at h1;exact .inl h1
   rename_i k;rw[if_neg k] at h1;exact h1
def Dq{Q:Exit->Act->World->Prop}{w:World}(J:Array Bool->Act->World->Prop)(j:P.follows .mixedOrders=true)(f:Zvw l.toArray=true)(h0:J (Array.replicate (aQ l) false) a w.drew)(p:Xw P l.toArray Q J 0 l)(g:∀(listed:Array Bool) (a:Act) (w:World),J listed a w->(∀i,i<(aQ l)->listed.getD i true=true)->Q .normal a w):(Code.region id l.toArray true).wp P Q a w:=by
 refine wp_region_any j ?_;refine Zy4 f (λi o m listed a w b q n K d=>?_) (λlisted a w b h=>g listed a w b λi hi=>h i (by simpa using hi)) _ _ _ _ ?_ (by simpa using h0)
 ·have:=Xw.at (k:=i) p (by simpa using m) listed a w b (by rw[BF];exact q) n K (λc w' h=>d c w' (by rw[BF] at h;exact h));exact this
 exact BC (List.length_filter_le _ _) AE
def H6{Q:Exit->Act->World->Prop}{w:World}(J:Array Bool->Act->World->Prop)(d:P.follows .mixedOrders=true)(b:Zvw l.toArray=true)(h0:J (Array.replicate (aQ l) false) a w.drew)(f:Xc P J 0 l)(c:∀(listed:Array Bool) (a:Act) (w:World),J listed a w->(∀i,i<(aQ l)->listed.getD i true=true)->Q .normal a w):(Code.region id l.toArray true).wp P Q a w :=
 Dq J d b h0 f.inv c
end
section
open Go.Maps (Keyed IsMap Tidy)
def Vp.lt{w:World}(h:Vp w g t xs):g<w.heap.size:=by
 obtain⟨cs,a,_⟩:=h;exact a.lt
def Vp.get{w:World}(h:Vp w g t xs)(d:j<(Q xs)):∃A n c b,w.cell? ⟨g,j*2,aN⟩=some (K A n c)/\w.cell? ⟨g,j*2+1,aN⟩=some (aB b)/\Z1 w A n c b (xs.getD j 0):=by
 obtain⟨cs,a,m,l⟩:=h;obtain⟨A,n,c,b,h1,f,k⟩:=l j _ (AL d);refine⟨A,n,c,b,(a.cell _).trans h1,(a.cell _).trans f,?_⟩;rw[AO,AL d];exact k
def Vp.frozen{w:World}(h:Vp w g t xs)(i:Nat):w.frozen? ⟨g,i,aN⟩=false:=by
 obtain⟨cs,a,_⟩:=h;exact a.frozen i
def Zb(A:Option Addr)(n c:Nat)(xs:List Nat)(w:World)(h:Zq .u32 w A n c xs):
 Calls prog 42 #[K A n c] w λe w'=>e = aR (aB (Zm xs))/\w=w':=by
 have a:=h.len;have o:=h.cap;by_cases h0:n=0
 ·subst h0;go_enter func42,ntmps42;go_wp2;go_ret;exact⟨by simp[Zm,a],rfl⟩
 obtain⟨b,q,x,rfl,l,Hx,m⟩:=h.get (j:=n-1) AA;have g:=Hx.out;by_cases d:n<=32
 ·have p:((n:Int)==0)=false:=AG
  have f:Zm xs=((x:Int) != 0):=by
   simp[Zm,a,d,h0,g,Zux]
  have k:=LH f;clear f g;go_enter func42,ntmps42;go_wp2;go_ret;rw[k];exact⟨rfl,rfl⟩
 go_enter func42,ntmps42;go_wp2;go_ret;exact⟨by simp[Zm,a,d],rfl⟩
def Z4(A:Option Addr)(n c:Nat)(xs:List Nat)(w:World)(h:Zq .u32 w A n c xs):
 Calls prog 35 #[K A n c] w λe w'=>e = aR (aB (Zm xs))/\w=w':=by
 have a:=h.len;have o:=h.cap;by_cases h0:n=0
 ·subst h0;go_enter func35,ntmps35;go_wp2;go_ret;exact⟨by simp[Zm,a],rfl⟩
 obtain⟨b,q,x,rfl,l,Hx,m⟩:=h.get (j:=n-1) AA;have g:=Hx.out;by_cases d:n<=32
 ·have p:((n:Int)==0)=false:=AG
  have f:Zm xs=((x:Int) != 0):=by
   simp[Zm,a,d,h0,g,Zux]
  have k:=LH f;clear f g;go_enter func35,ntmps35;go_wp2;go_ret;rw[k];exact⟨rfl,rfl⟩
 go_enter func35,ntmps35;go_wp2;go_ret;exact⟨by simp[Zm,a,d],rfl⟩
def Ww(A:Option Addr)(n c:Nat)(xs:List Nat)(i:Nat)(w:World)(h:Zq .u32 w A n c xs)(g:Lim xs):
 Calls prog 76 #[K A n c,aI aJ (i:Int)] w λe w'=>e = aR (aI .u64 ((xs.getD i 0:Nat):Int))/\w=w':=by
 obtain rfl:=h.len;obtain⟨y,a⟩:∃y,Hid (xs.getD i 0=y):=⟨_,LH rfl⟩;rw[a];by_cases hi:i<(Q xs)
 ·obtain⟨b,o,x,rfl,k,Hx,l⟩:=h.get hi;have f:¬((Q xs):Int)<=(i:Int):=AA
  have m:=g.of_get Hx;go_enter func76,ntmps76;go_wp2;go_ret;rw[<-a,Yg Hx];exact⟨rfl,rfl⟩
 have f:((Q xs):Int)<=(i:Int):=AA
 have d:=LH (K8 (xs:=xs) (j:=i) AA);go_enter func76,ntmps76;go_wp2;go_ret;rw[<-a,d];exact⟨rfl,rfl⟩
def Zww{s:Int}(h1:-1000<=s)(d:s<=1000)(h:n<=1000):∃l,keyOf prog 257 (kT s n)=some l:=by
 have a:prog.keyType 257=true:=AB
 have b:prog.cellsOf 257=2:=AB
 have c:prog.cellsOf 3=1:=AB
 have w1:=Mb h1 d;have g:(Lit.int .i64 (n:Int)).wf=true:=Mb AA AA;obtain⟨m,f⟩:=Zy5 Tryz.rowKT AC;unfold keyOf kT;rw[f];simp[underlying257,a,Value.formed,b,Program.keyLits,Value.cells,c,underlying3,w1,g,DP]
def Zsn{d:Nat}(h1:i<=1000)(j:d<=1000)(o:n<=1000):∃l,keyOf prog 261 (kF i d n)=some l:=by
 have a:prog.keyType 261=true:=AB
 have b:prog.cellsOf 261=3:=AB
 have c:prog.cellsOf 3=1:=AB
 have w1:(Lit.int .i64 (i:Int)).wf=true:=Mb AA AA;have g:(Lit.int .i64 (d:Int)).wf=true:=Mb AA AA;have h:(Lit.int .i64 (n:Int)).wf=true:=Mb AA AA;obtain⟨m,f⟩:=Zy5 Tryz.rowKF AC;unfold keyOf kF;rw[f];simp[underlying261,a,Value.formed,b,Program.keyLits,Value.cells,c,underlying3,w1,g,h]
end
section
variable {P:Program} {M:World->Prop} {R:World->World->Prop}
def Zwm.at:∀{ds:List (Value->World->Prop)},Zwm R ds->∀i v X a,atL ds i v X->R X a->atL ds i v a
 | [],_,i,_,_,_,_,_=>trivial
 | d::ds,h,0,v,X,a,hd,hb=>h.1 v X a hd hb
 | d::ds,h,i+1,v,X,a,hd,hb=>Zwm.at (ds:=ds) h.2 i v X a hd hb
end
section
open Ieee
def Xl(G:Gr)(t:List Int):Option (List Int × List Int × Nat) :=
 if G.rt&&decide (t.length<=300) then
  match Y0 G t.length ⟨t,[],[]⟩ G.zt with
  | none=>none
  | some (st,n)=>if st.rest=[] then some (st.word,st.posts,n) else none
 else none
end
section
open Ieee
open Go.Maps (Keyed IsMap Tidy)
variable {G:Gr}
def sig_inj(hi:i∈Ze G)(b:j∈Ze G)(h:sig G i=sig G j):i=j:=by
 have h1:=(C8 hi).2.2;have a:=(C8 b).2.2;rw[h,a] at h1;exact (BM h1).symm
end
section
open Ieee
open Go.Maps (Keyed IsMap Tidy)
structure Zxy (G:Gr):Prop where
 red:Q9 G=true
 cyc:Vh G=0
def Zt8{G:Gr}{l:List Int}(h:(Wi G l (n:Int)).2=0):Zxy G/\(Q l)<=6/\n<=10/\(∀s∈l,G.has s=true)/\Zx (Zv G) l n<big:=by
 unfold Wi at h;split at h
 ·cases h
 rename_i h1;split at h
 ·cases h
 rename_i b;refine⟨⟨?_,?_⟩,?_,?_,?_,?_⟩
 ·cases d:Q9 G
  ·exact absurd (.inl d) h1
  rfl
 ·exact DU b
 ·exact DU λa=>h1 (.inr (.inl AA))
 ·exact DU λa=>h1 (.inr (.inr (.inr (.inl AA))))
 ·intro s f;cases c:G.has s
  ·exact absurd (.inr (.inr (.inr (.inr ⟨s,f,c⟩)))) h1
  rfl
 rw[DH] at h;unfold Xm at h;exact DU λa=>by rw[if_neg a] at h;cases h
def Zua{G:Gr}(a:Zxy G){l:List Int}(d:(Q l)<=6)(f:n<=10)(b:∀s∈l,G.has s=true):Wi G l (n:Int)=Xm (Zx (Zv G) l n):=by
 unfold Wi;rw[if_neg,if_neg (by rw[a.cyc];exact λh=>h rfl),DH];rintro (h | h | h | h | ⟨s,c,h⟩)
 ·rw[a.red] at h;cases h
 ·omega
 ·omega
 ·omega
 rw[b s c] at h;cases h
end
section
open Go.Maps (Keyed IsMap Tidy)
variable {W0:World} {k:BkH} {h:GH} {G:Gr} {S':Nat->Prop} {w:World} {gR:Nat} {b:Nat->Bool} {u:Nat->Value} {X:World}
def Zu.refl(w:World):Zu w w:=⟨AJ _,λ_ _ _=>rfl⟩
def InG.at{G:Gr}(a:G.Fits)(b:G.U[i]? = some x):InG G x.rt:=InG.rule a (AM b)
end
def Le(s:Option Addr)(n c1:Nat)(xs:List Nat)(t:Option Addr)(m c2:Nat)(M:List Nat)(w:World)(h1:Zq .u32 w s n c1 xs)(b:Zq .u32 w t m c2 M)(g:Lim xs)(h:Lim M):
 Calls prog 36 #[K s n c1,K t m c2] w (Quiet w (aI aJ (Vq xs M))):=by
 by_cases l:Zm xs=true
 case neg =>
  have G:Zm xs=false:=by simpa using l
  have a:Vq xs M=0:=by simp[Vq,G]
  rw[a];clear a l;go_enter func36,ntmps36;go_wp2_with (first
   | (go_at_call 35;(with_reducible refine (Z4 _ _ _ _ _ h1).mono ?_);rintro e w'⟨rfl,rfl⟩)
   | (go_at_call 35;(with_reducible refine (Z4 _ _ _ _ _ b).mono ?_);rintro e w'⟨rfl,rfl⟩))
  go_ret;exact⟨rfl,Uz.refl _⟩
 by_cases o:Zm M=true
 case neg =>
  have H:Zm M=false:=by simpa using o
  have a:Vq xs M=0:=by simp[Vq,H]
  rw[a];clear a o;go_enter func36,ntmps36;go_wp2_with (first
   | (go_at_call 35;(with_reducible refine (Z4 _ _ _ _ _ h1).mono ?_);rintro e w'⟨rfl,rfl⟩)
   | (go_at_call 35;(with_reducible refine (Z4 _ _ _ _ _ b).mono ?_);rintro e w'⟨rfl,rfl⟩))
  go_ret;exact⟨rfl,Uz.refl _⟩
 have D:=Ut xs l;have C:=Ut M o;have x:Vq xs M=Vm (val xs) (val M):=by simp[Vq,l,o]
 have z:=LH x;clear x;go_enter func36,ntmps36;go_wp2_with (first
  | (go_at_call 35;(with_reducible refine (Z4 _ _ _ _ _ h1).mono ?_);rintro e w'⟨rfl,rfl⟩)
  | (go_at_call 35;(with_reducible refine (Z4 _ _ _ _ _ b).mono ?_);rintro e w'⟨rfl,rfl⟩))
 go_loop [5] (λi=>∃k:Nat,k<=32/\i = aI aJ ((k:Int)-1)/\Vq xs M=Vm (val (xs.take k)) (val (M.take k))) (λi=>(intOf i+1).toNat)
 case atStart=>exact⟨32,AJ _,rfl,by rw[z.out,AQ D,AQ C]⟩
 obtain⟨k,J,rfl,hrel⟩:=hrel;have u:=LH hrel;clear hrel;by_cases L:0<k
 ·have r:=Zzx xs M g h (k-1);rw[show k-1+1=k from by omega,<-u.out] at r;have p:=LH r;clear r;have v:((k:Int)-1)=((k-1:Nat):Int):=AA
  rw[v];generalize y:k-1=j at *;have B:=LH y;have I:j<32:=AA
  clear y v;by_cases d:xs.getD j 0<M.getD j 0
  ·have E:((xs.getD j 0:Nat):Int)<((M.getD j 0:Nat):Int):=AA
   have c:=LH d;clear d;go_wp2_with (first
    | (go_at_call 76;(with_reducible refine (Ww _ _ _ _ _ _ h1 g).mono ?_);rintro e w'⟨rfl,rfl⟩)
    | (go_at_call 76;(with_reducible refine (Ww _ _ _ _ _ _ b h).mono ?_);rintro e w'⟨rfl,rfl⟩))
   go_ret;rw[p.out,if_pos c.out];exact⟨rfl,Uz.refl _⟩
  have E:¬((xs.getD j 0:Nat):Int)<((M.getD j 0:Nat):Int):=AA
  have c:=LH d;clear d;by_cases f:M.getD j 0<xs.getD j 0
  ·have F:((M.getD j 0:Nat):Int)<((xs.getD j 0:Nat):Int):=AA
   have q:=LH f;clear f;go_wp2_with (first
    | (go_at_call 76;(with_reducible refine (Ww _ _ _ _ _ _ h1 g).mono ?_);rintro e w'⟨rfl,rfl⟩)
    | (go_at_call 76;(with_reducible refine (Ww _ _ _ _ _ _ b h).mono ?_);rintro e w'⟨rfl,rfl⟩))
   go_ret;rw[p.out,if_neg c.out,if_pos q.out];exact⟨rfl,Uz.refl _⟩
  have F:¬((M.getD j 0:Nat):Int)<((xs.getD j 0:Nat):Int):=AA
  have q:=LH f;clear f;go_wp2_with (first
   | (go_at_call 76;(with_reducible refine (Ww _ _ _ _ _ _ h1 g).mono ?_);rintro e w'⟨rfl,rfl⟩)
   | (go_at_call 76;(with_reducible refine (Ww _ _ _ _ _ _ b h).mono ?_);rintro e w'⟨rfl,rfl⟩))
  go_round
  case rel=>exact⟨j,by have:=B.out;omega,rfl,by rw[p.out,if_neg c.out,if_neg q.out]⟩
  simp[intOf] <;> omega
 obtain rfl:k=0:=AA
 have a:Vq xs M=0:=by rw[u.out];simp[Vm,val]
 have A:=LH a;clear a;go_wp2;go_ret;rw[A.out];exact⟨rfl,Uz.refl _⟩
def Zvr(c:Option Addr)(n c1:Nat)(xs:List Nat)(d:Option Addr)(m c2:Nat)(M:List Nat)(w:World)(h1:Zq .u32 w c n c1 xs)(E:Zq .u32 w d m c2 M)(A:Lim xs)(B:Lim M)(G:(Q xs)<=33)(F:(Q M)<=33):
 Calls prog 188 #[K c n c1,K d m c2] w λe w'=>e = aR (aB (decide (Vm (val xs) (val M)=-1)))/\w=w':=by
 go_enter func188,ntmps188;go_wp2;go_loop [5] (λi=>∃k:Nat,k<=33/\i = aI aJ ((k:Int)-1)/\Vm (val xs) (val M)=Vm (val (xs.take k)) (val (M.take k))) (λi=>(intOf i+1).toNat)
 case atStart=>exact⟨33,AJ _,rfl,by rw[AQ G,AQ F]⟩
 obtain⟨k,J,rfl,hrel⟩:=hrel;have r:=LH hrel;clear hrel;by_cases L:0<k
 ·have b:=Zzx xs M A B (k-1);rw[show k-1+1=k from by omega,<-r.out] at b;have s:=LH b;clear b;have u:((k:Int)-1)=((k-1:Nat):Int):=AA
  rw[u];generalize v:k-1=j at *;have D:=LH v;have I:j<33:=AA
  clear v u;obtain⟨x,Hx⟩:∃x,Hid (xs.getD j 0=x):=⟨_,LH rfl⟩;obtain⟨y,t⟩:∃y,Hid (M.getD j 0=y):=⟨_,LH rfl⟩;have o:=Ww c n c1 xs j w h1 A;have p:=Ww d m c2 M j w E B;rw[Hx.out] at o;rw[t.out] at p;have b:=s.out;rw[Hx.out,t.out] at b;have g:=LH o;have h:=LH p;have l:=LH b;clear o p b s;by_cases q:x<y
  ·have H:((x:Int)==(y:Int))=false:=by rw[AR];omega
   have a:decide (Vm (val xs) (val M)=-1)=true:=by rw[l.out,if_pos q];rfl
   have f:=LH a;clear a;go_wp2_with (first
    | (go_at_call 76;(with_reducible refine g.out.mono ?_);rintro e w'⟨rfl,rfl⟩)
    | (go_at_call 76;(with_reducible refine h.out.mono ?_);rintro e w'⟨rfl,rfl⟩))
   go_ret;rw[f.out];exact⟨AE,rfl⟩
  by_cases z:y<x
  ·have H:((x:Int)==(y:Int))=false:=by rw[AR];omega
   have a:decide (Vm (val xs) (val M)=-1)=false:=by rw[l.out,if_neg q,if_pos z];rfl
   have f:=LH a;clear a;go_wp2_with (first
    | (go_at_call 76;(with_reducible refine g.out.mono ?_);rintro e w'⟨rfl,rfl⟩)
    | (go_at_call 76;(with_reducible refine h.out.mono ?_);rintro e w'⟨rfl,rfl⟩))
   go_ret;rw[f.out];exact⟨AE,rfl⟩
  obtain rfl:x=y:=AA
  go_wp2_with (first
   | (go_at_call 76;(with_reducible refine g.out.mono ?_);rintro e w'⟨rfl,rfl⟩)
   | (go_at_call 76;(with_reducible refine h.out.mono ?_);rintro e w'⟨rfl,rfl⟩))
  go_round
  case rel=>exact⟨j,by have:=D.out;omega,rfl,by rw[l.out,if_neg q,if_neg z]⟩
  simp[intOf] <;> omega
 obtain rfl:k=0:=AA
 have a:decide (Vm (val xs) (val M)=-1)=false:=by rw[r.out];simp[Vm,val]
 have C:=LH a;clear a;go_wp2;go_ret;rw[C.out];exact⟨rfl,rfl⟩
def Zrn.get{w:World}{A:Option Addr}{c:Nat}{g:List (List Nat)}(h:Zrn w A n c g)(o:j<n):∃b f xs a d,A=some ⟨b,f,aN⟩/\b<w.heap.size/\Hid (g[j]? = some xs)/\w.cell? ⟨b,f+j,aN⟩=some (K a (Q xs) d)/\Za .i64 w a (Q xs) d (Zrc xs):=by
 obtain⟨b,f,e,m,p⟩:=h.2.2.2 AA;have k:g[j]? = some (g[j]'(by rw[h.1];exact o)):=AL _;obtain⟨a,d,h1,l⟩:=p j _ k;exact⟨b,f,_,a,d,e,m,LH k,h1,l⟩
def VMs.zt(W:World)(L:List Qr)(u:Nat->Value):VMs W L (λ_=>false) u W.drew :=
 ⟨(AP _ _).drew,λ_ _ h=>(by cases h),λ_ _ _ _ _ h=>(by cases h)⟩
structure Bp (W0:World) (h:GH) (G:Gr) (At:Option Addr) (nt ct:Nat) (wk:Nat) (cs:List Nat) (full:Bool) (A:Option Addr) (c:Nat) (W:World):Prop where
 base:Below W0.heap.size W0 W
 box:Blk W wk 87 #[K h.a1 h.n1 h.c1,K h.a2 h.n2 h.c2,K h.a3 h.n3 h.c3,aI aJ G.zt,K At nt ct,K A cs.length c,aB full]
 row:M4 W W0.heap.size A cs.length c (cs.map λi:Nat=>(i:Int))
 low:W0.heap.size<=wk
 few:cs.length<=300
def WkAt(a:World)(h:GH)(G:Gr)(At:Option Addr)(g d:Nat)(j:Nat)(b:List Nat)(f:Bool)(W:World):Prop:=∃A c,Bp a h G At g d j b f A c W
def WkRet(b:World)(h:GH)(G:Gr)(At:Option Addr)(f d g:Nat)(a t:List Nat)(w:World)(e:Ending)(w':World):Prop :=
 e = aR (.tuple #[])/\Zu w w'/\((a.length+t.length<=300/\WkAt b h G At f d g (a++t) false w')\/(300<a.length+t.length/\∃j,WkAt b h G At f d g j true w'))
def WholeRet(G:Gr)(t:List Int)(w:World)(e:Ending)(w':World):Prop:=Below w.heap.size w w' /\
 ((Xl G t=none/\e = aR (aG #[aI aJ 0,K none 0 0,aI aJ 0,K none 0 0])) \/
  (∃(wd ps:List Int) (k a:Nat) (c:Option Addr) (f:Nat) (b:Option Addr) (d:Nat),Xl G t=some (wd,ps,k)/\0<a/\a<=t.length/\e = aR (aG #[aI aJ ((a:Nat):Int),K c wd.length f,aI aJ ((k:Nat):Int),K b ps.length d])/\Za .i64 w' c wd.length f wd/\Za .i64 w' b ps.length d ps))
section
variable {W0:World} {h:GH} {G:Gr} {At:Option Addr} {nt ct wk:Nat} {cs:List Nat} {full:Bool} {A:Option Addr} {c:Nat} {W:World}
def Bp.no32(M:Bp W0 h G At nt ct wk cs full A c W):∀o z,W.cell? ⟨wk,o,aN⟩≠some (aI .u32 z):=λo z a=>by
 rw[M.box.cell o] at a;rcases o with _ | _ | _ | _ | _ | _ | _ | o <;> cases a
end
section
open Go.ChangeShapes Go.WideShapes Go.ChangeAt Go.RowKit
open Go.ChangeShapes Go.WideShapes Go.ChangeAt Go.RowKit
open Go.ChangeShapes Go.WideShapes Go.ChangeAt Go.RowKit Go.Lib Go.Deep
open Go.ChangeShapes Go.WideShapes Go.ChangeAt Go.RowKit Go.Lib Go.Deep
def SMs.zt(W:World)(g j is a:Nat)(u:Nat->Value):SMs W g j is a (λ_=>false) u W.drew:=⟨λ_=>(AP _ _).drew,λh=>(by cases h)⟩
end
def readT_some{G:Gr}{t:List Int}(b:G.rt=true)(a:(Q t)<=300):Xl G t=match Y0 G (Q t) ⟨t,[],[]⟩ G.zt with
 | none=>aN
 | some (st,n)=>if st.rest=[] then some (st.word,st.posts,n) else aN:=by
 unfold Xl;rw[b,show decide ((Q t)<=300)=true by rw[BA];exact a];rfl
end
end Go.Proofs.YtaagompdgiobeaaGreatDoor
