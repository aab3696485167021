/- Words for slices that read as lists: no program in sight. -/
import Derived.Test.YtaagompdgiobeaaGreatDoorV01
import Derived.Test.YtaagompdgiobeaaGreatDoorV02
import Derived.Test.YtaagompdgiobeaaGreatDoorV03
set_option linter.all false
set_option maxHeartbeats 1500000
set_option maxRecDepth 100000
namespace Go.Proofs.YtaagompdgiobeaaGreatDoor
open Go.RowKit Go.Proofs.Tryz
variable{ts a rest:List Tk}{n i q:Nat}{c l ps:List Prd}{A:Option Addr}{cs:List Value}{ss:List ByteArray}{xs:List Nat}{s:ByteArray}{R:Gr × List Int × Int}{v:Value}
theorem Zzm(k:IntKind)(xs:List Int)(x:Int):ints k (xs++[x])=ints k xs++[.int k x]:=by simp[ints]
def Bz(xs:List Nat)(i:Nat)(pat:List Nat):Bool:=decide (i+pat.length<=xs.length)&&decide ((xs.drop i).take pat.length=pat)
def Ci(xs:List Nat)(i:Nat):Bool:=!Bz xs i [47,42]&&!Bz xs i [47,47]&&!Bz xs i [37,123]&&(xs.getD i 0 != 60)&&(xs.getD i 0 != 123)
def oneP(xs:List Nat)(i:Nat):Option (Af × Nat) :=
 if Xf (xs.getD i 0) then (if Kk xs i<=i+20 then some (⟨1,(xs.drop i).take (Kk xs i-i),i⟩,Kk xs i) else none)
 else if xs.getD i 0=39 then (if H5 ((xs.drop i).take 3)&&decide (i+3<=xs.length) then some (⟨2,(xs.drop i).take 3,i⟩,i+3) else none)
 else if Bz xs i [37,37] then some (⟨9,[],i⟩,i+2)
 else if xs.getD i 0=37 then none
 else if L0 (xs.getD i 0)=0 then none else some (⟨L0 (xs.getD i 0),[],i⟩,i+1)
def Ml(xs:List Nat):Nat->Nat->Option (List Af)
 | 0,_=>none
 | q+1,i =>
   if i ≥ xs.length then some []
   else if !Ci xs i then none
   else if Jv (xs.getD i 0) then Ml xs q (i+1)
   else match oneP xs i with
    | none=>none
    | some (t,j)=>(Ml xs q j).map (t::·)
def Xa:List Tk->List ByteArray × List Tk
 | []=>([],[])
 | t::ts=>if Fz t.1 then (t.2::(Xa ts).1,(Xa ts).2) else ([],t::ts)
theorem Zw3{t:Tk}(h:Fz t.1=true):Xa (t::ts)=(t.2::(Xa ts).1,(Xa ts).2):=by
 show (if Fz t.1 then _ else _)=_;rw[if_pos h]
theorem Zt2(h:Fz (Qy ts)=false):Xa ts=([],ts):=by
 cases ts with
 | nil=>rfl
 | cons t ts =>
   show (if Fz t.1 then _ else _)=_;rw[if_neg (by simpa [Qy] using h)]
theorem Zvd(ts:List Tk):(Xa ts).2.length<=ts.length/\(Xa ts).1.length+(Xa ts).2.length=ts.length:=by
 induction ts with
 | nil=>exact⟨AJ _,rfl⟩
 | cons t ts a =>
   by_cases h:Fz t.1=true
   ·rw[Zw3 h];simp only[AY];omega
   rw[Zt2 (by simpa [Qy] using h)];simp
def L9(left:ByteArray):Nat->List Tk->Option (List Prd × List Tk)
 | 0,_=>none
 | q+1,ts =>
   if Qy (Xa ts).2=11 then (L9 left q (Xa ts).2.tail).map λr=>(⟨left,(Xa ts).1,⟨#[]⟩⟩::r.1,r.2)
   else if Qy (Xa ts).2=12 then some ([⟨left,(Xa ts).1,⟨#[]⟩⟩],(Xa ts).2.tail) else none
def Fj(q:Nat):List Tk->Option (List Prd × List Tk)
 | a::b::rest=>if a.1=1/\b.1=10 then L9 a.2 q rest else none
 | _=>none
def Ku:Nat->List Tk->Option (List Prd)
 | 0,_=>none
 | q+1,ts =>
   match ts with
   | []=>some []
   | t::_=>if t.1=9 then none else
     match Fj q ts with
     | none=>none
     | some (ps,rest)=>(Ku q rest).map (ps++·)
def srcP(q:Nat):List Tk->Option (List Prd)
 | m::rest=>if m.1=9 then (match Fj q rest with
   | none=>none
   | some (ps,r)=>(Ku q r).map (ps++·)) else none
 | []=>none
def Nv:List ByteArray->List Prd->Option (List ByteArray)
 | ns,[]=>some ns
 | ns,p::ps =>
   if !Xi (Zh p.left) then none
   else if 0<=Y8 (λt=>decide (t=p.left)) ns then Nv ns ps
   else if ns.length=16 then none
   else Nv (ns++[p.left]) ps
def Nl(a:Bool)(G:Gr)(s:ByteArray):Option (Int × Gr) :=
 if 0<=G.non s then (if a then some (-1-G.non s,G) else none)
 else if decide (0<=G.term s) || H5 (Zh s) || decide (s=errS) then Zzj G s
 else none
def Ko:Gr->List ByteArray->List Int->Int->Option (Gr × List Int × Int)
 | G,[],acc,pr=>some (G,acc,pr)
 | G,s::ss,acc,pr =>
   if !Q7 s then none
   else if acc.length=6 then none
   else match Nl true G s with
    | none=>none
    | some (x,G')=>Ko G' ss (acc++[x]) (if 0<=x then x else pr)
def prodP(G:Gr)(p:Prd):Option Gr :=
 if G.rules.length=40 then none
 else if p.prec=⟨#[]⟩ then (match Ko G p.right [] (-1) with
  | none=>none
  | some (G1,l,pr)=>some { G1 with rules:=G1.rules++[⟨G.non p.left,l,pr⟩] })
 else none
def Gn:Gr->List Prd->Option Gr
 | G,[]=>some G
 | G,p::ps=>match prodP G p with
   | none=>none
   | some a=>Gn a ps
def Zwy(ps:List Prd):Option Gr :=
 match ps with
 | []=>none
 | _=>match Nv [] ps with
   | none=>none
   | some a=>Gn ⟨[],a,[],0⟩ ps
def Zyr(t:Af):Tk:=(t.kind,str t.text)
theorem own_rfs{w:World}{base e c:Nat}(h:w.ownsRow base e 2 (.slice A n c) n cs)(l:Gi cs ss):Rfs w A n c ss:=by
 have d:ss.length=n:=by have:=h.1;have:=l.1;omega
 rcases h.2 with ⟨k,rfl⟩ | ⟨g,cap,s,k,u,m,r,p,v,C⟩
 ·injection k with h1 b h3;subst h1;subst h3;exact⟨d,AJ _,AA,λa=>absurd a AA⟩
 injection k with h1 b h3;subst h1;subst h3;have f:g<w.heap.size:=by
  rcases BD g w with f | q
  ·exact f
  rw[CZ q] at m;cases m
 refine⟨d,r,by simpa [maxLen] using p,λB=>⟨g,0,rfl,f,λj t o=>?_⟩⟩;have z:j<n:=by rw[<-d];exact (AO.1 o).1
 obtain⟨a,x,y,b⟩:=l.2 j t o;refine⟨?_,x,y,?_⟩
 ·rw[BF,h.cellAt (j*2) AA];exact a
 rw[BF,h.cellAt (j*2+1) AA];exact b
theorem oneP_lt{t:Af}{j:Nat}(hi:i<xs.length)(h:oneP xs i=some (t,j)):i<j/\j<=xs.length:=by
 unfold oneP at h;split at h
 ·split at h
  ·simp only[BX,DN] at h;obtain⟨_,rfl⟩:=h;have:=Zu3 Wa (xs.drop (i+1));rw[BT] at this;unfold Kk;omega
  cases h
 split at h
 ·split at h
  ·rename_i a;simp only[AU,decide_eq_true_eq] at a;simp only[BX,DN] at h;omega
  cases h
 split at h
 ·rename_i a;unfold Bz at a;simp only[AU,decide_eq_true_eq,AY,DE] at a;simp only[BX,DN] at h;omega
 split at h
 ·cases h
 split at h
 ·cases h
 simp only[BX,DN] at h;omega
theorem toksP_end{a:List Af}(h:Ml xs q i=some a)(hi:xs.length<=i):a=[]:=by
 cases q with
 | zero=>cases h
 | succ q =>
   unfold Ml at h;rw[if_pos hi] at h;injection h with h;exact h.symm
theorem toksP_step{c:List Af}(h:Ml xs q i=some c)(hi:i<xs.length):Ci xs i=true /\
 ((Jv (xs.getD i 0)=true/\∃d,Ml xs d (i+1)=some c)\/(Jv (xs.getD i 0)=false/\∃t j rest d,oneP xs i=some (t,j)/\Ml xs d j=some rest/\c=t::rest)):=by
 cases q with
 | zero=>cases h
 | succ q =>
   unfold Ml at h;rw[if_neg AA] at h;by_cases b:Ci xs i=true
   ·rw[if_neg (by simp[b])] at h;refine⟨b,?_⟩;by_cases a:Jv (xs.getD i 0)=true
    ·rw[if_pos a] at h;exact .inl ⟨a,q,h⟩
    rw[if_neg a] at h;refine .inr ⟨by simpa using a,?_⟩;split at h
    ·cases h
    rename_i t j k;rw[Option.map_eq_some_iff] at h;obtain⟨rest,f,g⟩:=h;exact⟨t,j,rest,q,k,f,g.symm⟩
   rw[if_pos (by simp[b])] at h;cases h
theorem Ztj(ts:List Tk):isP 1 2 ts=Fz (Qy ts):=by
 cases ts with
 | nil=>rfl
 | cons t ts=>rfl
theorem He{L:ByteArray}{c:List Tk}{f:List Prd}(h:L9 L q c=some (f,rest)):
 ∃u a,(Xa c).2=u::a/\((u.1=11/\∃k j,L9 L k a=some (j,rest)/\f=⟨L,(Xa c).1,⟨#[]⟩⟩::j)\/(u.1=12/\f=[⟨L,(Xa c).1,⟨#[]⟩⟩]/\rest=a)):=by
 cases q with
 | zero=>cases h
 | succ q =>
   unfold L9 at h;by_cases h1:Qy (Xa c).2=11
   ·rw[if_pos h1,Option.map_eq_some_iff] at h;obtain⟨⟨m,r⟩,b,g⟩:=h;simp only[DN] at g;obtain⟨rfl,rfl⟩:=g;obtain⟨u,a,e,d⟩:=Lf h1 AC;rw[e] at b;exact⟨u,a,e,.inl ⟨d,q,m,b,rfl⟩⟩
   rw[if_neg h1] at h;by_cases b:Qy (Xa c).2=12
   ·rw[if_pos b] at h;simp only[BX,DN] at h;obtain⟨rfl,rfl⟩:=h;obtain⟨u,a,e,d⟩:=Lf b AC;exact⟨u,a,e,.inr ⟨d,rfl,by rw[e];rfl⟩⟩
   rw[if_neg b] at h;cases h
theorem altsP_pos{L:ByteArray}(h:L9 L q a=some (c,rest)):0<c.length/\c.length+rest.length<=a.length:=by
 induction q generalizing a c rest with
 | zero=>cases h
 | succ q k =>
   have b:=Zvd a;obtain⟨u,l,f,h1 | h1⟩:=He h
   ·unfold L9 at h;by_cases d:Qy (Xa a).2=11
    ·rw[if_pos d,Option.map_eq_some_iff] at h;obtain⟨⟨m,r⟩,j,g⟩:=h;simp only[DN] at g;obtain⟨rfl,rfl⟩:=g;have:=k j;rw[f] at b this;simp only[AY,List.tail_cons] at b this ⊢;omega
    rw[f] at d;exact absurd h1.1 d
   obtain⟨_,rfl,rfl⟩:=h1;rw[f] at b;simp only[AY,DE] at b ⊢;omega
theorem Zxb{d:List Tk}(h:Fj q d=some (c,rest)):0<c.length/\c.length+rest.length<d.length:=by
 match d,h with
 | a::b::ts,h =>
   have h:(if a.1=1/\b.1=10 then L9 a.2 q ts else none)=some (c,rest):=h;split at h
   ·have:=altsP_pos h;simp only[AY];omega
   cases h
theorem groupsP_step(h:Ku q a=some c):
 (a=[]/\c=[])\/(∃u l,a=u::l/\u.1≠9/\∃f ps rest b,Fj f a=some (ps,rest)/\Ku f rest=some b/\c=ps++b):=by
 cases q with
 | zero=>cases h
 | succ q =>
   cases a with
   | nil =>
     injection h with h;exact .inl ⟨rfl,h.symm⟩
   | cons u a =>
     refine .inr ⟨u,a,rfl,?_⟩;have h:(if u.1=9 then none else match Fj q (u::a) with | none=>none | some (ps,rest)=>(Ku q rest).map (ps++·))=some c:=h;by_cases d:u.1=9
     ·rw[if_pos d] at h;cases h
     rw[if_neg d] at h;refine⟨d,?_⟩;split at h
     ·cases h
     rename_i ps rest k;rw[Option.map_eq_some_iff] at h;obtain⟨b,g,j⟩:=h;exact⟨q,ps,rest,b,k,g,j.symm⟩
theorem Bu{g:Bool}{G d:Gr}{i:Int}(h:Nl g G s=some (i,d)):
 (0<=G.non s/\g=true/\i=-1-G.non s/\d=G)\/(¬0<=G.non s/\Zzj G s=some (i,d)/\(0<=G.term s\/(¬0<=G.term s/\H5 (Zh s)=true)\/(¬0<=G.term s/\H5 (Zh s)=false/\s=errS))):=by
 unfold Nl at h;by_cases b:0<=G.non s
 ·rw[if_pos b] at h;split at h
  ·rename_i j;simp only[BX,DN] at h;exact .inl ⟨b,j,h.1.symm,h.2.symm⟩
  cases h
 rw[if_neg b] at h;split at h
 ·rename_i a;refine .inr ⟨b,h,?_⟩;simp only[CJ,decide_eq_true_eq] at a;by_cases c:0<=G.term s
  ·exact .inl c
  by_cases f:H5 (Zh s)=true
  ·exact .inr (.inl ⟨c,f⟩)
  rcases a with (a | a) | a
  ·exact absurd a c
  ·exact absurd a f
  exact .inr (.inr ⟨c,by simpa using f,a⟩)
 cases h
theorem leftsP_step{a d:List ByteArray}{k:Nat}{q:Prd}(h:Nv a (l.drop k)=some d)(g:l[k]? = some q):
 Xi (Zh q.left)=true/\((0<=Y8 (λt=>decide (t=q.left)) a/\Nv a (l.drop (k+1))=some d)\/(Y8 (λt=>decide (t=q.left)) a=-1/\a.length≠16/\Nv (a++[q.left]) (l.drop (k+1))=some d)):=by
 rw[Q8 g] at h;unfold Nv at h;by_cases b:Xi (Zh q.left)=true
 ·rw[if_neg (by simp[b])] at h;refine⟨b,?_⟩;by_cases c:0<=Y8 (λt=>decide (t=q.left)) a
  ·rw[if_pos c] at h;exact .inl ⟨c,h⟩
  rw[if_neg c] at h;split at h
  ·cases h
  rename_i f;have:=(U9 (λt=>decide (t=q.left)) a).1;exact .inr ⟨AA,f,h⟩
 rw[if_pos (by simpa using b)] at h;cases h
theorem rightsP_step{G:Gr}{l:List ByteArray}{k:Nat}{b:List Int}{pr:Int}(h:Ko G (l.drop k) b pr=some R)(f:l[k]? = some s):
 Q7 s=true/\b.length≠6/\∃x a,Nl true G s=some (x,a)/\Ko a (l.drop (k+1)) (b++[x]) (if 0<=x then x else pr)=some R:=by
 rw[Q8 f] at h;unfold Ko at h;by_cases h1:Q7 s=true
 ·rw[if_neg (by simp[h1])] at h;split at h
  ·cases h
  rename_i c;refine⟨h1,c,?_⟩;split at h
  ·cases h
  rename_i x a d;exact⟨x,a,d,h⟩
 rw[if_pos (by simpa using h1)] at h;cases h
structure Zwr (W wx:World) (g:Nat) (n:Int):Prop where
 lo:W.heap.size<=g
 blk:Blk wx g 60 #[.int .i64 n,.slice none 0 0,.int .i64 (-1)]
 bel:Below W.heap.size W wx
theorem prodsP_step{G b:Gr}{k:Nat}{q:Prd}(h:Gn G (l.drop k)=some b)(d:l[k]? = some q):∃a,prodP G q=some a/\Gn a (l.drop (k+1))=some b:=by
 rw[Q8 d] at h;unfold Gn at h;split at h
 ·cases h
 rename_i a c;exact⟨a,c,h⟩
theorem buildP_ways{G:Gr}(h:Zwy ps=some G):0<ps.length/\∃ns,Nv [] ps=some ns/\Gn ⟨[],ns,[],0⟩ ps=some G:=by
 unfold Zwy at h;split at h
 ·cases h
 rename_i b;split at h
 ·cases h
 rename_i ns a;refine⟨?_,ns,a,h⟩;cases ps with
 | nil=>exact absurd rfl b
 | cons p ps=>simp
def readC(xs:List Nat):Option Gr :=
 match Ml xs (xs.length+1) 0 with
 | none=>none
 | some ts=>if Dd ts<2/\ts.length<=4000 then (match srcP (ts.length+1) (ts.map Zyr) with
   | none=>none
   | some ps=>if ps.length<=4000/\(ps.all λq=>decide (q.right.length<=4000))=true then Zwy ps else none) else none
theorem read22A:readC Zyh=some Xt:=AB
theorem nums_far{k:IntKind}{w:World}{c:Nat}(h:Zq k w A n c xs){B:Nat}(g:∀b a,A=some ⟨b,a,none⟩->B<b)(i:Nat)(u:Value):
 Zq k (w.setCell ⟨B,i,none⟩ u) A n c xs:=by
 refine⟨h.1,h.2.1,h.2.2.1,λm=>?_⟩;obtain⟨b,a,e,d,f⟩:=h.2.2.2 m;have:=g b a e;refine⟨b,a,e,by simpa using d,λj l=>?_⟩;rw[World.cell?_setCell_other _ _ _ _ (by intro h;simp only[Addr.mk.injEq] at h;omega)];exact f j l
theorem bit_in(xs:List Nat)(b:Lim xs)(k:Nat)(a:k<bitLen (val xs)):k / 32<xs.length:=by
 rcases BD (k / 32) xs.length with h | h
 ·exact h
 have h1:=bitLen_le _ _ a;have c:=Ui _ b;have d:(4294967296:Nat) ^ xs.length=2 ^ (32*xs.length):=by rw[Nat.pow_mul]
 have f:2 ^ (32*xs.length)<=2 ^ k:=CV AC AA;omega
def QuoRel(w:World)(xs:List Nat)(b:Nat)(r i:Value)(wr:World):Prop :=
 ∃(k:Nat) (A:Option Addr) (c:Nat) (a d:List Nat),i = .int .i64 ((k:Int)-1)/\k<=bitLen (val xs)/\r = .slice A d.length c/\Zq .u32 wr A d.length c d /\
  (∀b f,A=some ⟨b,f,none⟩->w.heap.size<b)/\Own wr w.heap.size 41 .u32 a/\Below w.heap.size w wr /\
  Hid (a.length=xs.length)/\Lim a/\Hid (val a=val xs / 2 ^ k / b*2 ^ k)/\Hid (d=limbs (val xs / 2 ^ k % b))
def RSubRel(w:World)(xs b:List Nat)(o c i:Value)(wr:World):Prop :=
 ∃(k:Nat) (A:Option Addr) (a:Nat),k<=32/\i = .int .i64 (k:Int)/\c = .int .u64 ((Xn xs b k).2:Int)/\o = .slice A k a /\
  wr.ownsRow w.heap.size 41 1 (.slice A k a) k (nums .u32 (Xn xs b k).1)/\Below w.heap.size w wr
def RQuoRel(w:World)(xs:List Nat)(b:Nat)(q r i:Value)(wr:World):Prop :=
 ∃(k:Nat) (A:Option Addr) (c:Nat) (f:Option Addr) (g:Nat) (a d:List Nat),i = .int .i64 ((k:Int)-1)/\k<=32*xs.length /\
  q = .slice A a.length c/\Zq .u32 wr A a.length c a/\r = .slice f d.length g/\Zq .u32 wr f d.length g d /\
  Below w.heap.size w wr/\Hid (a=limbs (val xs / 2 ^ k / b))/\Hid (d=limbs (val xs / 2 ^ k % b))
def RDblRel(w:World)(a b:List Nat)(bt:Nat)(c q:Value)(wr:World):Prop :=
 ∃j:Nat,j<=33/\q = .int .i64 (j:Int)/\c = .int .u64 ((twP a bt j).2:Int)/\Own wr w.heap.size 41 .u32 ((twP a bt j).1++b.drop j)/\Below w.heap.size w wr
def RetOver(a x:Nat)(Ar:Option Addr)(cr:Nat)(w:World)(e:Ending)(w':World):Prop:=Below w.heap.size w w' /\
 ((a<x/\e = .returned (.tuple #[.slice Ar (limbs a).length cr,.bool false]))\/(x<=a/\∃A c,e = .returned (.tuple #[.slice A (limbs (a-x)).length c,.bool true])/\Zq .u32 w' A (limbs (a-x)).length c (limbs (a-x))))
theorem Do.other{b:Nat->Bool}{u:Nat->Value}{p:Nat}{c:Value}(h:Do b u p c)(i:Nat)(v:Value)(hi:p≠i):Do (Mz b i) (upd u i v) p c:=λa=>by
 rw[Ys hi] at a;rw[Yj hi];exact h a
def BoxAt(W X:World)(b:Nat->Bool)(u:Nat->Value)(p:Qr):Prop:=b p.ia=true->∃g a,u p.ia = .pointer (some ⟨g,0,none⟩)/\W.heap.size<=g/\Blk X g p.ty a/\((b p.is=false/\a=p.z)\/(b p.is=true/\u p.ic = .agg a))
structure VMs (W:World) (L:List Qr) (b:Nat->Bool) (u:Nat->Value) (X:World):Prop where
 below:Below W.heap.size W X
 at_:∀p∈L,BoxAt W X b u p
 apart:∀p∈L,∀q∈L,p.ia≠q.ia->b p.ia=true->b q.ia=true->u p.ia≠u q.ia
abbrev Alive24:Prop:=∀w:World,Q2 w->Calls Tryz.prog 7 #[] w λe w'=>e = .returned (.bool true)/\Below w.heap.size w w'
section
open Go.ChangeShapes Go.WideShapes Go.ChangeAt Go.RowKit
theorem Zyl{W:World}(h:laidMetH prog Nn W):Q2 W:=by
 rw[MakeChecks.laidMetH_plain _ _ _ AB] at h;obtain⟨ps,⟨g0,B,m,u,p0,A,f,s,t,q,_,_⟩,_,_⟩:=h;obtain rfl:=BH (gTab.symm.trans f);obtain rfl:=BH (tTab.symm.trans s);obtain⟨xs,z,rfl,g,x,y,a⟩:=DataW.trod_array underlying272 q;have c1:prog.cellsOf 5=1:=AB
 simp only[DN] at g;have c:=g.1;rw[tab_lits] at c;simp only[DataW.agg.injEq] at c;intro j r;have a:=a j r;have l:xs[j]? = some (xs[j]' AA):=AM AA;rw[l] at a;obtain⟨k,d,n,_⟩:=DataW.trod_int underlying5 a;have b:(xs.map (·.1))[j]? = some (.lit (.int .u8 k)):=by
  rw[BB,l,n];rfl
 rw[<-c,BB] at b;have v:Lib.deBruijn32tab.length=32:=AC
 rw[AM AA] at b;simp only[Ek,BX,DataW.lit.injEq,Lit.int.injEq,true_and] at b;have o:=World.var?_cell f t j;rw[c1] at d;have p:m[j]? = some (.int .u8 k):=by
  have:=congrArg List.head? d;simpa [List.head?_take,List.head?_drop] using this
 rw[o,p,<-b];simp[AM (show j<Lib.deBruijn32tab.length by omega)]
theorem Zyg{w:World}{b c:Nat}(h:w.cell? ⟨b,c,none⟩=some v):b<w.heap.size:=by
 rcases BD b w with a | a
 ·exact a
 simp[World.cell?,CZ a] at h
end
section
open Go.ChangeShapes Go.WideShapes Go.ChangeAt Go.RowKit
open Ieee
def atP(a:List Nat)(i:Int):Value:=if 0<=i/\i<=a.length then PV (atN (a.take i.toNat)).1 (atN (a.take i.toNat)).2 else PV 0 0
theorem B0(A:Option Addr)(n c:Nat)(a:List Nat)(i:Int)(w:World)(h:Zq .u8 w A n c a)(O:n<=100000):
 Calls prog 129 #[.slice A n c,.int .i64 i] w λe w'=>e = .returned (atP a i)/\w=w':=by
 obtain rfl:=h.len;have I:=h.cap;by_cases hi:0<=i/\i<=a.length
 case neg =>
  have y:atP a i = .complex .f64 0 0:=by unfold atP;rw[if_neg hi,PV_zero]
  rw[y];have F:i<0\/(0<=i/\(a.length:Int)<i):=AA
  rcases F with g | ⟨g,G⟩;all_goals
   go_enter func129,ntmps129;go_wp2;go_ret;exact⟨rfl,rfl⟩
 have t:Hid (atP a i=PV (atN (a.take i.toNat)).1 (atN (a.take i.toNat)).2):=LH (by unfold atP;rw[if_pos hi]);obtain⟨m,rfl⟩:∃m:Nat,i=(m:Int):=⟨i.toNat,AA⟩;obtain⟨J,L⟩:=hi;rw[DC] at t;go_enter func129,ntmps129;go_wp2;go_loop [5,6,7] (λl E i=>∃k d f:Nat,k<=m/\i = .int .i64 (k:Int)/\l = .int .i64 (d:Int)/\E = .int .i64 (f:Int)/\Hid (atN (a.take k)=(d,f))) (λ_ _ i=>m-(intOf i).toNat)
 case atStart=>exact⟨0,1,1,AS _,rfl,rfl,rfl,LH rfl⟩
 obtain⟨k,d,f,M,rfl,rfl,rfl,s⟩:=hrel;have o:=atN_bd (a.take k);have R:(a.take k).length<=100000:=by rw[BS];omega
 rw[s] at o;simp only[] at o;by_cases N:k<m
 ·obtain⟨b,T,x,rfl,H,Hx,p⟩:=h.get (j:=k) AA;have r:atN (a.take (k+1))=H9 (d,f) x:=by
   rw[Du,Hx,<-s];exact atN_snoc _ _
  by_cases v:x=10
  ·subst v;have u:=LH r;go_wp2;go_round
   case rel=>exact⟨k+1,d+1,1,AA,AF,AF,rfl,LH (by rw[u];simp[H9])⟩
   simp[intOf];omega
  have u:=LH r;have S:((x:Int)==10)=false:=by rw[AQ];omega
  have D:=LH v;go_wp2;go_round
  case rel=>exact⟨k+1,d,f+1,AA,AF,rfl,AF,LH (by rw[u];simp[H9,D.out])⟩
  simp[intOf];omega
 obtain rfl:k=m:=AA
 have p:=ref_of (d:Int) (f:Int) w;rw[ofP_of d f (okP_of o.1 AA o.2.2.1 AA)] at p;have z:atP a (k:Int)=PV d f:=by rw[t,s]
 generalize PV d f=q at *;have C:=LH z;have B:=LH p;go_wp2_with (go_at_call 180;refine B.out.mono ?_;rintro e w'⟨rfl,rfl⟩);go_ret;exact⟨by rw[C];rfl,rfl⟩
end
section
open Ieee
theorem Gu(k:IntKind)(xs:List Int):∀u∈ints k xs,u.oneCell'=true:=by
 intro u a;simp only[ints,CW] at a;obtain⟨x,_,rfl⟩:=a;rfl
end
section
variable {W0:World} {k:BkH} {h:GH} {G:Gr} {S':Nat->Prop} {w:World} {gR:Nat} {b:Nat->Bool} {u:Nat->Value} {X:World}
theorem Zsj{o:Nat}{v:Value}{b:List Int}(h:(ints .i64 b)[o]? = some v):∃z,v = .int .i64 z:=by
 simp only[ints,List.getElem?_map] at h;cases a:b[o]? with
 | none=>rw[a] at h;cases h
 | some z=>rw[a] at h;injection h with h;exact⟨z,h.symm⟩
theorem Ug(T:Int->Nat->Nat)(s:Int)(l:List Int)(n:Nat):Yv T s l n 0=0:=rfl
theorem quo_one{a b F r c:Nat}(h1:r<F)(j:c<F)(h:a*F+r=b*F+c):a=b/\r=c:=by
 have d:0<F:=AA
 have f:(a*F+r) / F=a:=by rw[Eo,Nat.add_mul_div_right _ _ d,Nat.div_eq_of_lt h1,BF]
 have g:(b*F+c) / F=b:=by rw[Eo,Nat.add_mul_div_right _ _ d,Nat.div_eq_of_lt j,BF]
 have:a=b:=by rw[<-f,<-g,h]
 subst this;exact⟨rfl,AA⟩
theorem Blk.same_ty{w:World}{g:Nat}{t b:TypeId}{d f:Array Value}(h:Blk w g t d)(a:Blk w g b f):t=b:=by
 unfold Blk at h a;rw[h] at a;injection a with a;injection a with _ h2 _
end
section
open Go.RowKit Go.Shelf
attribute [local go_sem] Oper.semAt_some
theorem Zrq.b{a b:Nat}{w:World}(d:a<w.heap.size)(f:b<w.heap.size)(W:World)(l:Nat)(o c:Obj)(g:w.heap.size<=l)(h:W.heap[l]? = some o)(_:o.isCells=false)(_:o.isWalk=false):Zrq a b W (W.putObj l c) :=
 ⟨World.putObj_heap_other AA,World.putObj_heap_other AA⟩
end
section
open Go.RowKit Go.Shelf
attribute [local go_sem] Oper.semAt_some
open Go.RowKit Go.Shelf
theorem Zrh{w W:World}(h:Zqy w W v)(o:Obj):Zqy w (W.alloc o) v:=⟨Boxed.alloc h.b o,Boxed.alloc h.r0 o,Boxed.alloc h.r1 o,Boxed.alloc h.r2 o⟩
end
section
variable {W X:World} {L:List Qr} {b:Nat->Bool} {u:Nat->Value}
theorem VMs.fin(M:VMs W L b u X){p:Qr}(k:p∈L)(h:b p.ia=true)(l:b p.is=true):∃g a,u p.ia = .pointer (some ⟨g,0,none⟩)/\W.heap.size<=g/\Blk X g p.ty a/\u p.ic = .agg a:=by
 obtain⟨g,a,e,j,f,⟨c,_⟩ | ⟨_,d⟩⟩:=M.at_ p k h
 ·rw[l] at c;cases c
 exact⟨g,a,e,j,f,d⟩
end
section
open Go.ChangeShapes Go.WideShapes Go.ChangeAt Go.RowKit
open Go.ChangeShapes Go.WideShapes Go.ChangeAt Go.RowKit
open Go.ChangeShapes Go.WideShapes Go.ChangeAt Go.RowKit Go.Lib Go.Deep
variable {H:Type} {enc:TypeId × Value->H} {w:World} {base:Nat} {sp:Nat->Bool} {held:Bool}
theorem elem3{P:Program}{e:TypeId}{b c d:Field}(v:P.underlying e=some (.struct #[b,c,d]))(C:P.cellsOf e=3)(z:b.offset=0)(A:c.offset=1)(B:d.offset=2)(c0:P.cellsOf b.type=1)(c1:P.cellsOf c.type=1)(c2:P.cellsOf d.type=1)
 {a:Addr} {i n:Nat} {cs:List Value} {y:DataW H × List MemPlace} (h1:w.cells? base (a.add (i*3)) 3=some cs) (u:DataW.trod enc P w base sp held n e cs=some y) :
 ∃f g h l m o k,w.cell? (a.add (i*3))=some f/\w.cell? (a.add (i*3+1))=some g/\w.cell? (a.add (i*3+2))=some h /\
  DataW.trod enc P w base sp held k b.type [f]=some l/\DataW.trod enc P w base sp held k c.type [g]=some m/\DataW.trod enc P w base sp held k d.type [h]=some o:=by
 obtain⟨_,x,j⟩:=World.cells?_some h1;obtain⟨l,m,o,k,_,_,g0,s,t⟩:=trod_struct3 v u
 match cs,x with
 | [f,g,h],_ =>
   have p:=j 0 (by omega);have q:=j 1 (by omega);have r:=j 2 (by omega);rw[Addr.add_add] at p q r;simp[z,A,B,c0,c1,c2] at g0 s t;exact⟨f,g,h,l,m,o,k,by simpa using p,by simpa using q,by simpa using r,g0,s,t⟩
end
section
open Go.ChangeShapes Go.WideShapes Go.ChangeAt Go.RowKit
open Go.ChangeShapes Go.WideShapes Go.ChangeAt Go.RowKit
open Go.ChangeShapes Go.WideShapes Go.ChangeAt Go.RowKit Go.Lib Go.Deep
open Go.ChangeShapes Go.WideShapes Go.ChangeAt Go.RowKit Go.Lib Go.Deep
theorem Kv{G:Gr}(h:G.great=false):G.terms.length<=40/\G.nons.length<=40/\G.rules.length<=60/\∀r∈G.rules,r.right.length<=20:=by
 unfold Gr.great at h;simp at h;obtain⟨⟨⟨h1,a⟩,b⟩,c⟩:=h;exact⟨h1,a,b,c⟩
end
