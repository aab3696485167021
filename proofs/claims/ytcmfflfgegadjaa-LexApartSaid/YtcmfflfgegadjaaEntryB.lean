/- What a law's walk is told of bytes that came in. -/
import Derived.Test.YtcmfflfgegadjaaEntryI
namespace Go.Proofs.Ytcmfflfgegadjaa
open Go.ChangeShapes Go.WideShapes Go.ChangeAt Go.RowKit
theorem row_bytes {w : World} {a : Option Addr} {len cap : Nat} {zs : List Int} (h : IsRow .u8 w a len cap zs) :
    ∃ bs : List Nat, Nums .u8 w a len cap bs ∧ (∀ x ∈ bs, x < 256) ∧ (a = none → cap = 0) := by
  obtain ⟨xs, hx, hw⟩ := h.ints
  have e : nums .u8 (xs.map Int.toNat) = ints .u8 xs := by
    unfold nums ints
    rw [List.map_map]
    refine List.map_congr_left fun x hx => ?_
    have := (Go.bounds_u8 (hw x hx)).1
    show Value.int .u8 ((x.toNat : Nat) : Int) = _
    rw [Int.toNat_of_nonneg this]
  refine ⟨xs.map Int.toNat, ?_, fun y hy => ?_, fun ha => ?_⟩
  · unfold Nums; rw [e]; exact hx
  · simp only [List.mem_map] at hy
    obtain ⟨x, hx, rfl⟩ := hy
    have := Go.bounds_u8 (hw x hx)
    omega
  · rcases h with ⟨_, _, h, _⟩ | ⟨x, h, _⟩
    · exact h
    · rw [ha] at h; cases h
end Go.Proofs.Ytcmfflfgegadjaa
