/- A region that draws its order: quiet in a class of worlds but for its last operations, which stand in one order: one walk serves. -/
import Derived.Test.YtggbjdmpjidhgaaGreatDoorY01
import Derived.Test.YtggbjdmpjidhgaaGreatDoorY02
import Derived.Test.YtggbjdmpjidhgaaGreatDoorY03
set_option linter.all false
set_option maxHeartbeats 1500000
set_option maxRecDepth 100000
namespace Go.Proofs.YtggbjdmpjidhgaaGreatDoor
open Go.RowKit Go.Proofs.Tryz
variable{xs:List Nat}{i:Nat}
def oneP(xs:List Nat)(i:Nat):Option (Af × Nat) :=
 if Xf (xs.getD i 0) then (if Kk xs i<=i+20 then some (⟨1,(xs.drop i).take (Kk xs i-i),i⟩,Kk xs i) else none)
 else if xs.getD i 0=39 then (if H5 ((xs.drop i).take 3)&&decide (i+3<=xs.length) then some (⟨2,(xs.drop i).take 3,i⟩,i+3) else none)
 else if Bz xs i [37,37] then some (⟨9,[],i⟩,i+2)
 else if xs.getD i 0=37 then none
 else if L0 (xs.getD i 0)=0 then none else some (⟨L0 (xs.getD i 0),[],i⟩,i+1)
def Ml(xs:List Nat):Nat->Nat->Option (List Af)
 | 0,_=>none
 | q+1,i =>
   if i ≥ xs.length then some []
   else if !Ci xs i then none
   else if Jv (xs.getD i 0) then Ml xs q (i+1)
   else match oneP xs i with
    | none=>none
    | some (t,j)=>(Ml xs q j).map (t::·)
def Zyr(t:Af):Tk:=(t.kind,str t.text)
theorem oneP_lt{t:Af}{j:Nat}(hi:i<xs.length)(h:oneP xs i=some (t,j)):i<j/\j<=xs.length:=by
 unfold oneP at h;split at h
 ·split at h
  ·simp only[BR,DM] at h;obtain⟨_,rfl⟩:=h;have:=Zu3 Wa (xs.drop (i+1));rw[DQ] at this;unfold Kk;omega
  cases h
 split at h
 ·split at h
  ·rename_i a;simp only[AS,decide_eq_true_eq] at a;simp only[BR,DM] at h;omega
  cases h
 split at h
 ·rename_i a;unfold Bz at a;simp only[AS,decide_eq_true_eq,AZ,DR] at a;simp only[BR,DM] at h;omega
 split at h
 ·cases h
 split at h
 ·cases h
 simp only[BR,DM] at h;omega
theorem toksP_end{q:Nat}{a:List Af}(h:Ml xs q i=some a)(hi:xs.length<=i):a=[]:=by
 cases q with
 | zero=>cases h
 | succ q =>
   unfold Ml at h;rw[if_pos hi] at h;injection h with h;exact h.symm
theorem toksP_step{q:Nat}{c:List Af}(h:Ml xs q i=some c)(hi:i<xs.length):Ci xs i=true /\
 ((Jv (xs.getD i 0)=true/\∃d,Ml xs d (i+1)=some c)\/(Jv (xs.getD i 0)=false/\∃t j rest d,oneP xs i=some (t,j)/\Ml xs d j=some rest/\c=t::rest)):=by
 cases q with
 | zero=>cases h
 | succ q =>
   unfold Ml at h;rw[if_neg AA] at h;by_cases b:Ci xs i=true
   ·rw[if_neg (by simp[b])] at h;refine⟨b,?_⟩;by_cases a:Jv (xs.getD i 0)=true
    ·rw[if_pos a] at h;exact .inl ⟨a,q,h⟩
    rw[if_neg a] at h;refine .inr ⟨by simpa using a,?_⟩;split at h
    ·cases h
    rename_i t j k;rw[Option.map_eq_some_iff] at h;obtain⟨rest,f,g⟩:=h;exact⟨t,j,rest,q,k,f,g.symm⟩
   rw[if_pos (by simp[b])] at h;cases h
theorem leftsP_step{a d:List ByteArray}{l:List Prd}{k:Nat}{q:Prd}(h:Nv a (l.drop k)=some d)(g:l[k]? = some q):
 Xi (Zh q.left)=true/\((0<=Y8 (λt=>decide (t=q.left)) a/\Nv a (l.drop (k+1))=some d)\/(Y8 (λt=>decide (t=q.left)) a=-1/\a.length≠16/\Nv (a++[q.left]) (l.drop (k+1))=some d)):=by
 rw[Q8 g] at h;unfold Nv at h;by_cases b:Xi (Zh q.left)=true
 ·rw[if_neg (by simp[b])] at h;refine⟨b,?_⟩;by_cases c:0<=Y8 (λt=>decide (t=q.left)) a
  ·rw[if_pos c] at h;exact .inl ⟨c,h⟩
  rw[if_neg c] at h;split at h
  ·cases h
  rename_i f;have:=(U9 (λt=>decide (t=q.left)) a).1;exact .inr ⟨AA,f,h⟩
 rw[if_pos (by simpa using b)] at h;cases h
section
open Go.ChangeShapes Go.WideShapes Go.ChangeAt Go.RowKit
theorem Zyl{W:World}(h:laidMetH prog Nn W):Q2 W:=by
 rw[MakeChecks.laidMetH_plain _ _ _ AB] at h;obtain⟨ps,⟨g0,B,m,u,p0,A,f,s,t,q,_,_⟩,_,_⟩:=h;obtain rfl:=BI (gTab.symm.trans f);obtain rfl:=BI (tTab.symm.trans s);obtain⟨xs,z,rfl,g,x,y,a⟩:=DataW.trod_array underlying270 q;have c1:prog.cellsOf 5=1:=AB
 simp only[DM] at g;have c:=g.1;rw[tab_lits] at c;simp only[DataW.agg.injEq] at c;intro j r;have a:=a j r;have l:xs[j]? = some (xs[j]' AA):=AN AA;rw[l] at a;obtain⟨k,d,n,_⟩:=DataW.trod_int underlying5 a;have b:(xs.map (·.1))[j]? = some (.lit (.int .u8 k)):=by
  rw[By,l,n];rfl
 rw[<-c,By] at b;have v:Lib.deBruijn32tab.length=32:=AC
 rw[AN AA] at b;simp only[Ek,BR,DataW.lit.injEq,Lit.int.injEq,true_and] at b;have o:=World.var?_cell f t j;rw[c1] at d;have p:m[j]? = some (.int .u8 k):=by
  have:=congrArg List.head? d;simpa [List.head?_take,List.head?_drop] using this
 rw[o,p,<-b];simp[AN (show j<Lib.deBruijn32tab.length by omega)]
end
section
open Go.Shelf
abbrev Alive23:Prop:=∀w:World,Q2 w->Calls Tryz.prog 32 #[] w λe w'=>e = .returned (.bool true)/\Below w.heap.size w w'
end
