/- what the world's shape tells of the library's variable -/
import Derived.Test.YtcmfflfgegadjaaLxW5
import Derived.Test.YtcmfflfgegadjaaEntryI
import Derived.HandedShaped
import Derived.Shelf.Vars
namespace Go.Proofs.Ytcmfflfgegadjaa
open Go.RowKit
theorem maxAt_shaped {W : World} (h : W.ShapedOpen Try.prog) : MaxAt W := by
  obtain ⟨m, hm⟩ := Go.Proofs.cell_of_shapedOpen_int (zero := #[.int .i64 0]) (t := 3) (g := 0) h (of_decide_eq_true (by kernel_rfl)) (by kernel_rfl) rfl (by kernel_rfl) (by kernel_rfl) Try.underlying3
  exact ⟨m, hm, cell_lt hm⟩
end Go.Proofs.Ytcmfflfgegadjaa
