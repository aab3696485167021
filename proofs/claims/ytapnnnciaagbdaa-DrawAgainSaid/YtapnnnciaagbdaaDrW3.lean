/- draw: a part of a row. -/
import Derived.Test.YtapnnnciaagbdaaDrW2
namespace Go.Proofs.Ytapnnnciaagbdaa
open Go.RowKit
set_option linter.unusedVariables false
set_option linter.unusedSimpArgs false

theorem Nums.part {k : IntKind} {w : World} {b off n c : Nat} {xs : List Nat} (h : Nums k w (some ⟨b, off, none⟩) n c xs) (i m c' : Nat) (hm : i + m ≤ n) (hc : m ≤ c') (hc' : c' ≤ 9223372036854775807) :
    Nums k w (some ⟨b, off + i, none⟩) m c' ((xs.drop i).take m) := by
  have hl := h.len
  refine ⟨by simp [nums]; omega, hc, hc', fun hn => ?_⟩
  simp [nums] at hn
  obtain ⟨b', off', e, hb, hcell⟩ := h.2.2.2 (by rw [nums_length]; omega)
  injection e with e
  injection e with e1 e2
  subst e1; subst e2
  refine ⟨b, off + i, rfl, hb, fun j hj => ?_⟩
  simp [nums] at hj
  rw [Nat.add_assoc, hcell (i + j) (by rw [nums_length]; omega)]
  simp [nums, List.getElem?_take, List.getElem?_drop]
  intro; omega
end Go.Proofs.Ytapnnnciaagbdaa
