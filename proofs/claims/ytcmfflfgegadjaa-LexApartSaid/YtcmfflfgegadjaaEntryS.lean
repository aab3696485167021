/- What a law's walk is told of a slice of strings that came in. -/
import Derived.Test.YtcmfflfgegadjaaKit5
import Derived.Test.YtcmfflfgegadjaaEntryI
import Derived.SliceStrings
namespace Go.Proofs.Ytcmfflfgegadjaa
open Go.ChangeShapes Go.WideShapes Go.ChangeAt Go.RowKit
theorem Strs.of_row {w : World} {x : Addr} {len cap : Nat} {ss : List ByteArray} (hl : len ≤ cap) (hm : cap ≤ maxLen) (hz : ss.length = cap)
    (hc : ∀ i, i < ss.length → w.cell? (x.add i) = some (.string (ss.getD i ByteArray.empty))) : Strs w (some x) len cap (ss.take len) := by
  have hlen : (ss.take len).length = len := by rw [List.length_take]; omega
  refine ⟨by rw [List.length_map, hlen], hl, by simpa [maxLen] using hm, fun hn => ?_⟩
  rw [List.length_map, hlen] at hn
  obtain ⟨b, off, spot⟩ := x
  have h0 := hc 0 (by omega)
  have hspot : spot = none := by simpa [Addr.add] using World.cell?_spot h0
  subst hspot
  have h0' : w.cell? ⟨b, off, none⟩ = some (.string (ss.getD 0 ByteArray.empty)) := by simpa [Addr.add] using h0
  refine ⟨b, off, rfl, cell_lt h0', fun j hj => ?_⟩
  rw [List.length_map, hlen] at hj
  have hj' := hc j (by omega)
  have e : (⟨b, off, none⟩ : Addr).add j = ⟨b, off + j, none⟩ := by
    unfold Addr.add
    split
    · rename_i h0; subst h0; rfl
    · rfl
  rw [e] at hj'
  rw [hj', List.getElem?_map, List.getElem?_take, if_pos hj, List.getElem?_eq_getElem (by omega), List.getD_eq_getElem?_getD, List.getElem?_eq_getElem (by omega)]
  rfl
end Go.Proofs.Ytcmfflfgegadjaa
