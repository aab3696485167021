/- place: the law of the order, walked. -/
import Derived.Test.YtcmfflfgegadjaaDoorPlL3
import Derived.Test.YtcmfflfgegadjaaDoorKit4
namespace Go.Proofs.YtcmfflfgegadjaaDoor
open Go.RowKit
set_option linter.unusedVariables false
set_option linter.unusedSimpArgs false

theorem quiet_eq {P : Program} {f : FuncId} {args : Array Value} {w : World} {n : Nat} {v : Value}
    (h : Calls P f args (w.drewN n) fun e w' => e = .returned v ∧ w.drewN n = w') : Calls P f args (w.drewN n) fun e w'' => e = .returned v ∧ ∃ m, w'' = w.drewN m :=
  h.mono fun _ _ ⟨he, hm⟩ => ⟨he, n, hm.symm⟩

/-- all that the law asks of three places -/
theorem order_plain (l0 c0 l1 c1 l2 c2 : Nat) (h0 : okP l0 c0 = true) (h1 : okP l1 c1 = true) (h2 : okP l2 c2 = true) :
    (beforeP l0 c0 l1 c1 = true ∧ beforeP l1 c1 l0 c0 = false ∧ decide (l0 = l1 ∧ c0 = c1) = false ∧ (beforeP l1 c1 l2 c2 = false ∨ (beforeP l1 c1 l2 c2 = true ∧ beforeP l0 c0 l2 c2 = true))) ∨
    (beforeP l0 c0 l1 c1 = false ∧ beforeP l1 c1 l0 c0 = true ∧ decide (l0 = l1 ∧ c0 = c1) = false) ∨
    (beforeP l0 c0 l1 c1 = false ∧ beforeP l1 c1 l0 c0 = false ∧ decide (l0 = l1 ∧ c0 = c1) = true) := by
  unfold beforeP
  rw [h0, h1, h2]
  simp only [Bool.and_true, Bool.true_and, Bool.or_eq_true, Bool.and_eq_true, decide_eq_true_eq, Bool.or_eq_false_iff, Bool.and_eq_false_iff, decide_eq_false_iff_not]
  omega

theorem alloc_top (W : World) (o : Obj) : (W.alloc o).heap[W.heap.size]? = some o := by
  show (W.heap.push o)[W.heap.size]? = _
  simp

theorem three_cells (W : World) (t : TypeId) (u0 v0 u1 v1 u2 v2 : Value) :
    let X := ((W.alloc (.cells #[u0, v0] t)).alloc (.cells #[u1, v1] t)).alloc (.cells #[u2, v2] t)
    X.heap.size = W.heap.size + 1 + 1 + 1 ∧
    X.cell? ⟨W.heap.size, 0, none⟩ = some u0 ∧ X.cell? ⟨W.heap.size, 1, none⟩ = some v0 ∧
    X.cell? ⟨W.heap.size + 1, 0, none⟩ = some u1 ∧ X.cell? ⟨W.heap.size + 1, 1, none⟩ = some v1 ∧
    X.cell? ⟨W.heap.size + 1 + 1, 0, none⟩ = some u2 ∧ X.cell? ⟨W.heap.size + 1 + 1, 1, none⟩ = some v2 := by
  have s0 : (W.alloc (.cells #[u0, v0] t)).heap.size = W.heap.size + 1 := by simp
  have s1 : ((W.alloc (.cells #[u0, v0] t)).alloc (.cells #[u1, v1] t)).heap.size = W.heap.size + 1 + 1 := by simp
  have b2 : (((W.alloc (.cells #[u0, v0] t)).alloc (.cells #[u1, v1] t)).alloc (.cells #[u2, v2] t)).heap[W.heap.size + 1 + 1]? = some (.cells #[u2, v2] t) := by
    rw [← s1]; exact alloc_top _ _
  have b1 : (((W.alloc (.cells #[u0, v0] t)).alloc (.cells #[u1, v1] t)).alloc (.cells #[u2, v2] t)).heap[W.heap.size + 1]? = some (.cells #[u1, v1] t) := by
    rw [Below.heap_alloc _ _ _ (by omega), ← s0]; exact alloc_top _ _
  have b0 : (((W.alloc (.cells #[u0, v0] t)).alloc (.cells #[u1, v1] t)).alloc (.cells #[u2, v2] t)).heap[W.heap.size]? = some (.cells #[u0, v0] t) := by
    rw [Below.heap_alloc _ _ _ (by omega), Below.heap_alloc _ _ _ (by omega)]; exact alloc_top _ _
  refine ⟨by simp, ?_, ?_, ?_, ?_, ?_, ?_⟩ <;> unfold World.cell? <;> first | (rw [b0]; rfl) | (rw [b1]; rfl) | (rw [b2]; rfl)

set_option maxHeartbeats 2000000 in
theorem placeOrder_walk (a0 b0 a1 b1 a2 b2 : Int) (W : World) :
    Calls Tryd.prog 5 #[.agg #[.int .i64 a0, .int .i64 b0], .agg #[.int .i64 a1, .int .i64 b1], .agg #[.int .i64 a2, .int .i64 b2]] W fun e w' => e = .returned (.bool true) ∧ Below W.heap.size W w' := by
  obtain ⟨l0, c0, e0, hl0, hc0⟩ := ofP_cases a0 b0
  obtain ⟨l1, c1, e1, hl1, hc1⟩ := ofP_cases a1 b1
  obtain ⟨l2, c2, e2, hl2, hc2⟩ := ofP_cases a2 b2
  have k0 := fun w => pl_of a0 b0 w
  have k1 := fun w => pl_of a1 b1 w
  have k2 := fun w => pl_of a2 b2 w
  have r0 := fun w => pl_right l0 c0 w (by omega) (by omega)
  have r1 := fun w => pl_right l1 c1 w (by omega) (by omega)
  have r2 := fun w => pl_right l2 c2 w (by omega) (by omega)
  have t01 := fun w => pl_before l0 c0 l1 c1 w (by omega) (by omega) (by omega) (by omega)
  have t10 := fun w => pl_before l1 c1 l0 c0 w (by omega) (by omega) (by omega) (by omega)
  have t12 := fun w => pl_before l1 c1 l2 c2 w (by omega) (by omega) (by omega) (by omega)
  have t02 := fun w => pl_before l0 c0 l2 c2 w (by omega) (by omega) (by omega) (by omega)
  have heq := eq_bits l0 c0 l1 c1 (by omega) (by omega) (by omega) (by omega)
  have n01 : ∀ w, (binOp .neq 24 (.complex .f64 (fN l0) (fN c0)) (.complex .f64 (fN l1) (fN c1))).run Tryd.prog w = .ok (.bool (!decide (l0 = l1 ∧ c0 = c1))) w := fun w => by
    rw [run_neq_complex, heq]
  have hpl := order_plain l0 c0 l1 c1 l2 c2
  rw [e0] at k0
  rw [e1] at k1
  rw [e2] at k2
  unfold PV at k0 k1 k2
  clear heq e0 e1 e2 hl0 hl1 hl2 hc0 hc1 hc2
  generalize beforeP l0 c0 l1 c1 = q01 at *
  generalize beforeP l1 c1 l0 c0 = q10 at *
  generalize beforeP l1 c1 l2 c2 = q12 at *
  generalize beforeP l0 c0 l2 c2 = q02 at *
  generalize decide (l0 = l1 ∧ c0 = c1) = d at *
  generalize okP l0 c0 = p0 at *
  generalize okP l1 c1 = p1 at *
  generalize okP l2 c2 = p2 at *
  generalize fN l0 = x0 at *
  generalize fN c0 = y0 at *
  generalize fN l1 = x1 at *
  generalize fN c1 = y1 at *
  generalize fN l2 = x2 at *
  generalize fN c2 = y2 at *
  have K0 := Lib.hid k0
  have K1 := Lib.hid k1
  have K2 := Lib.hid k2
  have R0 := Lib.hid r0
  have R1 := Lib.hid r1
  have R2 := Lib.hid r2
  have T01 := Lib.hid t01
  have T10 := Lib.hid t10
  have T12 := Lib.hid t12
  have T02 := Lib.hid t02
  have N01 := Lib.hid n01
  have Hpl := Lib.hid hpl
  clear k0 k1 k2 r0 r1 r2 t01 t10 t12 t02 n01 hpl
  go_enter Tryd.func5, Tryd.ntmps5
  go_wp2_with fail
  obtain ⟨hs, f0, g0, f1, g1, f2, g2⟩ := three_cells W 33 (.int .i64 a0) (.int .i64 b0) (.int .i64 a1) (.int .i64 b1) (.int .i64 a2) (.int .i64 b2)
  have hX : Below W.heap.size W (((W.alloc (.cells #[.int .i64 a0, .int .i64 b0] 33)).alloc (.cells #[.int .i64 a1, .int .i64 b1] 33)).alloc (.cells #[.int .i64 a2, .int .i64 b2] 33)) :=
    (((Below.refl _ _).alloc (Nat.le_refl _) _).alloc (by simp) _).alloc (by simp; omega) _
  generalize (((W.alloc (.cells #[.int .i64 a0, .int .i64 b0] 33)).alloc (.cells #[.int .i64 a1, .int .i64 b1] 33)).alloc (.cells #[.int .i64 a2, .int .i64 b2] 33)) = X at *
  (with_reducible refine (alive06 _).mono ?_)
  rintro e w1 ⟨rfl, hB⟩
  rw [← hB.cell (by simp only []; omega)] at f0 g0 f1 g1 f2 g2
  replace hX := below_tail hX hB
  clear hB hs
  go_wp2_with fail
  go_quiet ((first
    | (go_at_call 7; with_reducible exact quiet_eq (K0.out _))
    | (go_at_call 7; with_reducible exact quiet_eq (K1.out _))
    | (go_at_call 7; with_reducible exact quiet_eq (K2.out _))))
  replace hX := hX.trans (Same.below (show Same w1 (w1.drewN nq) from ⟨nq, rfl⟩) _)
  clear f0 g0 f1 g1 f2 g2
  generalize w1.drewN nq = w2 at *
  cases p0
  · go_wp2_with (first
      | (with_reducible refine (R0.out _).mono ?_; rintro e w' ⟨rfl, rfl⟩))
    go_ret
    exact ⟨rfl, hX⟩
  cases p1
  · go_wp2_with (first
      | (with_reducible refine (R0.out _).mono ?_; rintro e w' ⟨rfl, rfl⟩)
      | (with_reducible refine (R1.out _).mono ?_; rintro e w' ⟨rfl, rfl⟩))
    go_ret
    exact ⟨rfl, hX⟩
  cases p2
  · go_wp2_with (first
      | (with_reducible refine (R0.out _).mono ?_; rintro e w' ⟨rfl, rfl⟩)
      | (with_reducible refine (R1.out _).mono ?_; rintro e w' ⟨rfl, rfl⟩)
      | (with_reducible refine (R2.out _).mono ?_; rintro e w' ⟨rfl, rfl⟩))
    go_ret
    exact ⟨rfl, hX⟩
  rcases Hpl.out rfl rfl rfl with ⟨rfl, rfl, rfl, rfl | ⟨rfl, rfl⟩⟩ | ⟨rfl, rfl, rfl⟩ | ⟨rfl, rfl, rfl⟩
  all_goals
    have n01 := N01.out
    clear Hpl N01
    go_wp2_with (first
      | (with_reducible refine (R0.out _).mono ?_; rintro e w' ⟨rfl, rfl⟩)
      | (with_reducible refine (R1.out _).mono ?_; rintro e w' ⟨rfl, rfl⟩)
      | (with_reducible refine (R2.out _).mono ?_; rintro e w' ⟨rfl, rfl⟩)
      | (with_reducible refine (T01.out _).mono ?_; rintro e w' ⟨rfl, rfl⟩)
      | (with_reducible refine (T10.out _).mono ?_; rintro e w' ⟨rfl, rfl⟩)
      | (with_reducible refine (T12.out _).mono ?_; rintro e w' ⟨rfl, rfl⟩)
      | (with_reducible refine (T02.out _).mono ?_; rintro e w' ⟨rfl, rfl⟩))
    go_ret
    exact ⟨rfl, hX⟩
end Go.Proofs.YtcmfflfgegadjaaDoor
