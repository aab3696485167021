/- 'make' with room, for slices that are appended to. -/
import Derived.Test.YtapnnnciaagbdaaKit2
namespace Go.Proofs.Ytapnnnciaagbdaa
open Go.RowKit
set_option linter.unusedVariables false
set_option linter.unusedSimpArgs false

/-- 'make' of an empty slice with room -/
theorem run_make_cap {P : Program} (t e : TypeId) (k : IntKind) (bytes : Nat) (ht : P.underlying t = some (.slice e))
    (hi : (P.info? e).map (fun i => (i.zero, i.size, i.bytes)) = some (some (.int k 0), 1, bytes)) (n : Nat) (hb : bytes * n ≤ 281474976710656) (hn : n ≤ 9223372036854775807) (w : World) :
    (Instr.makeSlice t (.int .i64 0) (.int .i64 (n : Int))).run P w = .ok (.slice (some ⟨w.heap.size, 0, none⟩) 0 n) (w.alloc (.cells (nums k (List.replicate n 0)).toArray e)) := by
  obtain ⟨i, hi', hz, hs, hby⟩ := info_parts hi
  have hb' : (i.bytes : Int) * (n : Int) ≤ 281474976710656 := by
    rw [hby]
    have h : ((bytes * n : Nat) : Int) ≤ 281474976710656 := by omega
    rwa [Int.natCast_mul] at h
  have hr := run_make (P := P) w t e i (.int k 0) ht hi' hz .i64 .i64 0 n (by omega) (by omega) hb' (by omega)
  simp only [Int.toNat_natCast] at hr
  have h0 : Int.toNat 0 = 0 := rfl
  rw [hr, hs, Nat.mul_one, h0]
  simp only [Value.cells, made_nums]

theorem own_cap (w : World) (e : TypeId) (k : IntKind) (n : Nat) (zs : List Nat) (hz : zs.length = n) (hn : n ≤ 9223372036854775807) :
    (w.alloc (.cells (nums k zs).toArray e)).ownsRow w.heap.size e 1 (.slice (some ⟨w.heap.size, 0, none⟩) 0 n) 0 [] :=
  World.ownsRow_made w _ n (Nat.le_refl _) (by simpa [maxLen] using hn) (by simp [nums, hz])

end Go.Proofs.Ytapnnnciaagbdaa
