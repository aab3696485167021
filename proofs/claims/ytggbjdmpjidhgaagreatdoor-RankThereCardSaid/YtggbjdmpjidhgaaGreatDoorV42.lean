/- ranks: what is read as a tree is a tree of the reduced grammar, and back, plainly. -/
import Derived.Test.YtggbjdmpjidhgaaGreatDoorV24
set_option linter.all false
set_option maxHeartbeats 1500000
set_option maxRecDepth 100000
namespace Go.Proofs.YtggbjdmpjidhgaaGreatDoor
open Go.RowKit Go.Proofs.Tryz
theorem cnt_errs(G:Gr)(n:Int):(Z2 G n).2≠11:=by
 have a:∀x,(Xm x).2≠11:=λx=>by
  rcases F8 x with ⟨_,e⟩ | ⟨_,e⟩ <;> rw[e]
  ·show (0:Nat)≠11;decide
  show (2:Nat)≠11;decide
 unfold Z2 Wi;split
 ·decide
 split
 ·decide
 split
 ·decide
 split
 ·decide
 exact a _
theorem Vj.err{G:Gr}{t:List Int}{b:List Nat}{a:Nat}(h:Vj G t b a)(c:a≠0):b=[]:=by
 rcases h with ⟨_,h,_⟩ | ⟨_,_,_,_,⟨_,h,_⟩ | ⟨_,_,h,_⟩ | ⟨_,_,h,_⟩⟩
 ·exact h
 ·exact h
 ·exact h
 exact absurd h c
theorem V9.err{G:Gr}{n:Int}{f g:List Nat}{d:Nat}(h:V9 G n f g d)(j:d≠0):g=[]/\(d=11->¬badU G n f/\(Z2 G n).2=0/\val (Z2 G n).1<=val f)/\((Z2 G n).2=0\/d=(Z2 G n).2\/d=1):=by
 rcases h with ⟨_,h,e⟩ | ⟨_,_,h,e⟩ | ⟨a,b,c,h,e⟩ | ⟨_,b,_,_,_,⟨_,h,e⟩ | ⟨_,_,e⟩⟩
 ·exact⟨h,λh=>AA,.inr (.inr e)⟩
 ·exact⟨h,λh=>absurd (e.symm.trans h) (cnt_errs G n),.inr (.inl e)⟩
 ·exact⟨h,λ_=>⟨a,b,c⟩,.inl b⟩
 ·exact⟨h,λh=>AA,.inl b⟩
 exact absurd e j
end Go.Proofs.YtggbjdmpjidhgaaGreatDoor
