/- set: two laws more, walked. -/
import Derived.Test.YtapnnnciaagbdaaDoorSetL1
import Derived.Test.YtapnnnciaagbdaaDoorSetPlain2
namespace Go.Proofs.YtapnnnciaagbdaaDoor
open Go.RowKit
set_option linter.unusedVariables false
set_option linter.unusedSimpArgs false

theorem quiet_eq {P : Program} {f : FuncId} {args : Array Value} {w : World} {n : Nat} {v : Value}
    (h : Calls P f args (w.drewN n) fun e w' => e = .returned v ∧ w.drewN n = w') : Calls P f args (w.drewN n) fun e w'' => e = .returned v ∧ ∃ m, w'' = w.drewN m :=
  h.mono fun _ _ ⟨he, hm⟩ => ⟨he, n, hm.symm⟩
theorem quiet_same {P : Program} {f : FuncId} {args : Array Value} {w : World} {n : Nat} {v : Value}
    (h : Calls P f args (w.drewN n) fun e w' => e = .returned v ∧ Same (w.drewN n) w') : Calls P f args (w.drewN n) fun e w'' => e = .returned v ∧ ∃ m, w'' = w.drewN m :=
  h.mono fun _ _ ⟨he, m, hm⟩ => ⟨he, n + m, by rw [hm, World.drewN_drewN]⟩

set_option maxHeartbeats 1000000 in
theorem setBelow_walk (a0 a1 : Int) (W : World) (w0 : (Lit.int .i64 a0).wf = true) (w1 : (Lit.int .i64 a1).wf = true) (hT : TabAt W) :
    Calls Tryd.prog 5 #[.int .i64 a0, .int .i64 a1] W fun e w' => e = .returned (.bool true) ∧ Below W.heap.size W w' := by
  go_enter Tryd.func5, Tryd.ntmps5
  go_wp2_with (go_at_call 6; (with_reducible refine (alive03 _ hT).mono ?_); rintro e w1 ⟨rfl, hB⟩)
  have hlt := belowS_lt a0
  have hh := has_below a0 a1
  have hcn := count_below a0
  have hc := set_below a0 w1
  have hc2 := set_has (belowS a0) a1 w1 hlt
  have hc3 := fun w => set_count (belowS a0) w hlt
  rw [hh] at hc2
  generalize countN (belowS a0) = cn at *
  generalize belowS a0 = b at *
  have Hc2 := Lib.hid hc2
  have Hc3 := Lib.hid hc3
  have Hcn := Lib.hid hcn
  clear hc2 hc3 hh hcn
  (with_reducible refine hc.mono ?_)
  rintro e w2 ⟨rfl, rfl⟩
  clear hc
  go_wp2_with fail
  (with_reducible refine Hc2.out.mono ?_)
  rintro e w2 ⟨rfl, rfl⟩
  clear Hc2
  have hways : (a1 < 0) ∨ (0 ≤ a1 ∧ 32 ≤ a1) ∨ (0 ≤ a1 ∧ a1 < 32 ∧ a1 < a0) ∨ (0 ≤ a1 ∧ a1 < 32 ∧ a0 ≤ a1) := by omega
  have hways2 : (a0 < 0 ∧ (cn : Int) = 0) ∨ (0 ≤ a0 ∧ a0 ≤ 32 ∧ (cn : Int) = a0) ∨ (32 < a0 ∧ (cn : Int) = 32) := by have := Hcn.out; omega
  clear Hcn
  rcases hways with h1 | ⟨h1, h2⟩ | ⟨h1, h2, h3⟩ | ⟨h1, h2, h3⟩
  all_goals
    rcases hways2 with ⟨g1, g2⟩ | ⟨g1, g2, g3⟩ | ⟨g1, g2⟩
    all_goals
      try (have h4 : ¬ (a1 < a0) := by omega)
      rename _ = _ => hcn
      have Hcn := Lib.hid hcn
      clear hcn
      go_wp2_with fail
      (with_reducible refine (Hc3.out _).mono ?_)
      rintro e w3 ⟨rfl, hS⟩
      go_wp2_with fail
      go_ret
      refine ⟨?_, hB.trans (hS.below _)⟩
      rw [Hcn.out]
      simp
end Go.Proofs.YtapnnnciaagbdaaDoor
