/- set: the table that the rows list, as a walk reads it. -/
import Derived.Test.YtapnnnciaagbdaaDoorRows
import Derived.Test.YtapnnnciaagbdaaDoorSetL3
import Derived.ProofKit
import Derived.LaidMore
import Derived.OpenShut
import Derived.Stop.Joined
namespace Go.Proofs.YtapnnnciaagbdaaDoor
open Go.ChangeShapes Go.WideShapes Go.ChangeAt Go.RowKit
set_option linter.unusedVariables false
set_option linter.unusedSimpArgs false

def laidL : List (String × DataW Unit) := [("math/bits.deBruijn32tab", Rows.laid_math_bits_deBruijn32tab)]
theorem gTab : Tryd.prog.globalNamed "math/bits.deBruijn32tab" = some 0 := by kernel_rfl
theorem tTab : (Tryd.prog.globals[0]?).map (·.type) = some 34 := by kernel_rfl

/-- The door's own heap meets the condition. -/
theorem door_met (os : Os) (args : Array Value) : laidMetH Tryd.prog laidL ((World.doorLaid Tryd.prog 400 os).forCall (fun _ _ => 0) ⟨#[], args, []⟩).memory :=
  laidMetH_of_parts3 (fuel := 8) (laidMet_of_run' 8 (by kernel_rfl) (by kernel_rfl)) (by kernel_rfl) (by kernel_rfl)

theorem tab_lits : (Rows.laid_math_bits_deBruijn32tab : DataW Unit) = .agg (Lib.deBruijn32tab.map fun (n : Nat) => .lit (.int .u8 (n : Int))) := by rfl

/-- What the condition gives the walks: the table's cells. -/
theorem of_laid {W : World} (h : laidMetH Tryd.prog laidL W) : TabAt W := by
  rw [MakeChecks.laidMetH_plain _ _ _ (by kernel_rfl)] at h
  obtain ⟨ps, ⟨g0, t0, cs0, f0, p0, q0, hg0, ht0, hv0, hd0, _, _⟩, _, _⟩ := h
  obtain rfl := Option.some.inj (gTab.symm.trans hg0)
  obtain rfl := Option.some.inj (tTab.symm.trans ht0)
  obtain ⟨xs, m1, rfl, hx1, hlen, hn, hel⟩ := DataW.trod_array Tryd.underlying34 hd0
  have c1 : Tryd.prog.cellsOf 5 = 1 := by kernel_rfl
  simp only [Prod.mk.injEq] at hx1
  have hx := hx1.1
  rw [tab_lits] at hx
  simp only [DataW.agg.injEq] at hx
  intro j hj
  have hel := hel j hj
  have hxj : xs[j]? = some (xs[j]'(by omega)) := List.getElem?_eq_getElem (by omega)
  rw [hxj] at hel
  obtain ⟨k, e1, e2, _⟩ := DataW.trod_int Tryd.underlying5 hel
  have hk : (xs.map (·.1))[j]? = some (.lit (.int .u8 k)) := by
    rw [List.getElem?_map, hxj, e2]; rfl
  rw [← hx, List.getElem?_map] at hk
  have hl : Lib.deBruijn32tab.length = 32 := by decide
  rw [List.getElem?_eq_getElem (by omega)] at hk
  simp only [Option.map_some, Option.some.injEq, DataW.lit.injEq, Lit.int.injEq, true_and] at hk
  have hcell := World.var?_cell hg0 hv0 j
  rw [c1] at e1
  have hcs : cs0[j]? = some (.int .u8 k) := by
    have := congrArg List.head? e1
    simpa [List.head?_take, List.head?_drop] using this
  rw [hcell, hcs, ← hk]
  simp [List.getElem?_eq_getElem (show j < Lib.deBruijn32tab.length by omega)]
end Go.Proofs.YtapnnnciaagbdaaDoor
