/- place: the example, and the laws. -/
import Derived.Test.YtcmfflfgegadjaaDoorPlW4
import Derived.Test.YtcmfflfgegadjaaDoorEntryI
import Derived.Lib.SlBytesConst
namespace Go.Proofs.YtcmfflfgegadjaaDoor
open Go.RowKit
set_option linter.unusedVariables false
set_option linter.unusedSimpArgs false

theorem o22 : FloatKind.f64.format.order 4611686018427387904 4611686018427387904 = some .eq := by decide
theorem o11 : FloatKind.f64.format.order 4607182418800017408 4607182418800017408 = some .eq := by decide
theorem o33 : FloatKind.f64.format.order 4613937818241073152 4613937818241073152 = some .eq := by decide

/-- a block that a constant text's bytes have laid -/
theorem mark_sl (w : World) (t : TypeId) (fr : Nat × Nat) (vs : List Value) (n : Nat) (arr : Array Value) (h : arr = vs.toArray) (hn : vs.length = n) (hs : n ≤ 1000000) : Sl (w.alloc (.cells arr t fr)) (some ⟨w.heap.size, 0, none⟩) n n vs := by
  subst h
  refine ⟨hn, Nat.le_refl _, by omega, fun _ => ⟨_, _, rfl, ?_, fun j hj => ?_⟩⟩
  · show w.heap.size < (w.heap.push _).size
    simp
  · rw [Nat.zero_add, World.cell?_alloc_mark]
    simp

set_option maxHeartbeats 1000000 in
theorem alive06 (W : World) : Calls Tryd.prog 6 #[] W fun e w' => e = .returned (.bool true) ∧ Below W.heap.size W w' := by
  have p11 := o11
  have p22 := o22
  have p33 := o33
  have kc := fun (w : World) (C : Array Value) (n c : Nat) => Lib.run_convert_bytes_const (P := Tryd.prog) w 22 5 C n c Tryd.underlying22 Tryd.underlying5
  go_enter Tryd.func6, Tryd.ntmps6
  go_wp2_with fail
  have hc := pl_at (some ⟨W.heap.size, 0, none⟩) 4 4 [97, 98, 10, 99] 3 _ (mark_sl W 5 (4, 5) (nums .u8 [97, 98, 10, 99]) 4 #[.int .u8 97, .int .u8 98, .int .u8 10, .int .u8 99] rfl rfl (by decide)) (by decide)
  have ep : atP [97, 98, 10, 99] 3 = .complex .f64 4611686018427387904 4607182418800017408 := by
    rw [← fN_1, ← fN_2]; rfl
  rw [ep] at hc
  (with_reducible refine hc.mono ?_)
  rintro e w1 ⟨rfl, rfl⟩
  clear hc ep
  have hB : Below W.heap.size W (W.alloc (.cells #[.int .u8 97, .int .u8 98, .int .u8 10, .int .u8 99] 5 (4, 5))) := (Below.refl W.heap.size W).alloc (Nat.le_refl _) _
  generalize W.alloc (.cells #[.int .u8 97, .int .u8 98, .int .u8 10, .int .u8 99] 5 (4, 5)) = w1 at *
  have c1 : Calls Tryd.prog 14 #[.complex .f64 4611686018427387904 4607182418800017408] w1 fun e w' => e = .returned (.string ⟨#[50, 58, 49]⟩) ∧ w1 = w' := text21 w1
  have c2 : Calls Tryd.prog 15 #[.complex .f64 4611686018427387904 4607182418800017408] w1 fun e w' => e = .returned (.int .i64 2) ∧ w1 = w' := by
    have := pl_line 2 1 w1 (by decide); rw [fN_1, fN_2] at this; exact this
  have c3 : Calls Tryd.prog 16 #[.complex .f64 4611686018427387904 4607182418800017408] w1 fun e w' => e = .returned (.int .i64 1) ∧ w1 = w' := by
    have := pl_col 2 1 w1 (by decide); rw [fN_1, fN_2] at this; exact this
  have c4 : Calls Tryd.prog 12 #[.complex .f64 4611686018427387904 4607182418800017408, .int .u8 99] w1 fun e w' => e = .returned (.complex .f64 4611686018427387904 4611686018427387904) ∧ w1 = w' := by
    have := pl_step 2 1 99 w1 (by decide) (by decide) (by decide)
    rw [show keptP (stepP (2, 1) 99).1 (stepP (2, 1) 99).2 = PV 2 2 from rfl] at this
    unfold PV at this
    rw [fN_1, fN_2] at this; exact this
  have c5 : Calls Tryd.prog 7 #[.int .i64 2, .int .i64 2] w1 fun e w' => e = .returned (.complex .f64 4611686018427387904 4611686018427387904) ∧ w1 = w' := by
    have := pl_of 2 2 w1
    rw [show ofP 2 2 = PV 2 2 from rfl] at this
    unfold PV at this
    rw [fN_2] at this; exact this
  have c6 : Calls Tryd.prog 12 #[.complex .f64 4611686018427387904 4607182418800017408, .int .u8 10] w1 fun e w' => e = .returned (.complex .f64 4613937818241073152 4607182418800017408) ∧ w1 = w' := by
    have := pl_step 2 1 10 w1 (by decide) (by decide) (by decide)
    rw [show keptP (stepP (2, 1) 10).1 (stepP (2, 1) 10).2 = PV 3 1 from rfl] at this
    unfold PV at this
    rw [fN_1, fN_2, fN_3] at this; exact this
  have c7 : Calls Tryd.prog 13 #[.complex .f64 4611686018427387904 4607182418800017408, .complex .f64 4611686018427387904 4611686018427387904] w1 fun e w' => e = .returned (.bool true) ∧ w1 = w' := by
    have := pl_before 2 1 2 2 w1 (by decide) (by decide) (by decide) (by decide)
    rw [fN_1, fN_2, show beforeP 2 1 2 2 = true from by decide] at this; exact this
  have c8 : Calls Tryd.prog 13 #[.complex .f64 4611686018427387904 4607182418800017408, .complex .f64 4611686018427387904 4607182418800017408] w1 fun e w' => e = .returned (.bool false) ∧ w1 = w' := by
    have := pl_before 2 1 2 1 w1 (by decide) (by decide) (by decide) (by decide)
    rw [fN_1, fN_2, show beforeP 2 1 2 1 = false from by decide] at this; exact this
  have c9 : Calls Tryd.prog 11 #[.complex .f64 4611686018427387904 4607182418800017408] w1 fun e w' => e = .returned (.bool true) ∧ w1 = w' := by
    have := pl_right 2 1 w1 (by decide) (by decide); rw [fN_1, fN_2, show okP 2 1 = true from by decide] at this; exact this
  have c10 := right_half w1
  have c11 := text0 w1
  have C1 := Lib.hid c1
  have C2 := Lib.hid c2
  have C3 := Lib.hid c3
  have C4 := Lib.hid c4
  have C5 := Lib.hid c5
  have C6 := Lib.hid c6
  have C7 := Lib.hid c7
  have C8 := Lib.hid c8
  have C9 := Lib.hid c9
  have C10 := Lib.hid c10
  have C11 := Lib.hid c11
  clear c1 c2 c3 c4 c5 c6 c7 c8 c9 c10 c11
  go_wp2_with (first
    | (with_reducible refine C1.out.mono ?_; rintro e w' ⟨rfl, rfl⟩)
    | (with_reducible refine C2.out.mono ?_; rintro e w' ⟨rfl, rfl⟩)
    | (with_reducible refine C3.out.mono ?_; rintro e w' ⟨rfl, rfl⟩)
    | (with_reducible refine C4.out.mono ?_; rintro e w' ⟨rfl, rfl⟩)
    | (with_reducible refine C5.out.mono ?_; rintro e w' ⟨rfl, rfl⟩)
    | (with_reducible refine C6.out.mono ?_; rintro e w' ⟨rfl, rfl⟩)
    | (with_reducible refine C7.out.mono ?_; rintro e w' ⟨rfl, rfl⟩)
    | (with_reducible refine C8.out.mono ?_; rintro e w' ⟨rfl, rfl⟩)
    | (with_reducible refine C9.out.mono ?_; rintro e w' ⟨rfl, rfl⟩)
    | (with_reducible refine C10.out.mono ?_; rintro e w' ⟨rfl, rfl⟩)
    | (with_reducible refine C11.out.mono ?_; rintro e w' ⟨rfl, rfl⟩))
  go_ret
  exact ⟨rfl, hB⟩
end Go.Proofs.YtcmfflfgegadjaaDoor
