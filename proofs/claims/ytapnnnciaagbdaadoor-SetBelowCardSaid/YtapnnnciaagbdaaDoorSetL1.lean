/- set: the laws, walked. -/
import Derived.Test.YtapnnnciaagbdaaDoorSetW3
import Derived.Test.YtapnnnciaagbdaaDoorEntryI
namespace Go.Proofs.YtapnnnciaagbdaaDoor
open Go.RowKit
set_option linter.unusedVariables false
set_option linter.unusedSimpArgs false

set_option maxHeartbeats 1000000 in
theorem alive03 (W : World) (hT : TabAt W) : Calls Tryd.prog 6 #[] W fun e w' => e = .returned (.bool true) ∧ Below W.heap.size W w' := by
  have e18 : ((ofN [4, 1, 4, 32, -1] : Nat) : Int) = 18 := by decide
  go_enter Tryd.func6, Tryd.ntmps6
  go_wp2_with fail
  have hc := set_of (some ⟨W.heap.size, 0, none⟩) 5 5 [4, 1, 4, 32, -1] _ (lit_sl W 3 (ints .i64 [4, 1, 4, 32, -1]) 5 #[.int .i64 4, .int .i64 1, .int .i64 4, .int .i64 32, .int .i64 (-1)] rfl rfl (by decide))
  rw [e18] at hc
  (with_reducible refine hc.mono ?_)
  rintro e w1 ⟨rfl, rfl⟩
  clear hc
  have hB := (Below.refl W.heap.size W).alloc (Nat.le_refl _) (.cells #[.int .i64 4, .int .i64 1, .int .i64 4, .int .i64 32, .int .i64 (-1)] 3)
  generalize W.alloc (.cells #[.int .i64 4, .int .i64 1, .int .i64 4, .int .i64 32, .int .i64 (-1)] 3) = w1 at *
  go_wp2_with fail
  have hc : Calls Tryd.prog 9 #[.int .u32 18, .int .i64 4] w1 fun e w' => e = .returned (.bool true) ∧ w1 = w' := set_has 18 4 w1 (by decide)
  (with_reducible refine hc.mono ?_)
  rintro e w2 ⟨rfl, rfl⟩
  clear hc
  go_wp2_with fail
  have hc : Calls Tryd.prog 9 #[.int .u32 18, .int .i64 2] w1 fun e w' => e = .returned (.bool false) ∧ w1 = w' := set_has 18 2 w1 (by decide)
  (with_reducible refine hc.mono ?_)
  rintro e w2 ⟨rfl, rfl⟩
  clear hc
  go_wp2_with fail
  have hc : Calls Tryd.prog 12 #[.int .u32 18] w1 (RetInts .i64 w1 [1, 4]) := set_members 18 w1 (by decide) (hT.below hB)
  (with_reducible refine hc.mono ?_)
  rintro e w2 ⟨A, c, rfl, hz, hb⟩
  clear hc
  replace hB := below_tail hB hb
  clear hb
  go_wp2_with fail
  have hc := ref_ints A 2 c [1, 4] (some ⟨w2.heap.size, 0, none⟩) 2 2 [1, 4] _ (hz.below ((Below.refl _ _).alloc (Nat.le_refl _) _)) (lit_sl w2 3 (ints .i64 [1, 4]) 2 #[.int .i64 1, .int .i64 4] rfl rfl (by decide))
  rw [show (([1, 4] : List Int) == [1, 4]) = true from by decide] at hc
  (with_reducible refine hc.mono ?_)
  rintro e w3 ⟨rfl, hS⟩
  clear hc
  have hb : Below w2.heap.size w2 w3 := ((Below.refl w2.heap.size w2).alloc (Nat.le_refl _) _).trans (hS.below _)
  replace hB := below_tail hB hb
  clear hb hS
  go_wp2_with fail
  have hc : Calls Tryd.prog 14 #[.int .u32 18] w3 fun e w' => e = .returned (.int .i64 2) ∧ Same w3 w' := set_count 18 w3 (by decide)
  (with_reducible refine hc.mono ?_)
  rintro e w4 ⟨rfl, hS⟩
  clear hc
  replace hB := hB.trans (hS.below _)
  clear hS
  go_wp2_with fail
  have hc : Calls Tryd.prog 16 #[.int .u32 18] w4 fun e w' => e = .returned (.int .i64 1) ∧ w4 = w' := set_least 18 w4 (by decide) (hT.below hB)
  (with_reducible refine hc.mono ?_)
  rintro e w5 ⟨rfl, rfl⟩
  clear hc
  go_wp2_with fail
  have hc : Calls Tryd.prog 16 #[.int .u32 0] w4 fun e w' => e = .returned (.int .i64 (-1)) ∧ w4 = w' := set_least 0 w4 (by decide) (hT.below hB)
  (with_reducible refine hc.mono ?_)
  rintro e w5 ⟨rfl, rfl⟩
  clear hc
  go_wp2_with fail
  have hc : Calls Tryd.prog 18 #[.int .i64 3] w4 fun e w' => e = .returned (.int .u32 7) ∧ w4 = w' := set_below 3 w4
  (with_reducible refine hc.mono ?_)
  rintro e w5 ⟨rfl, rfl⟩
  clear hc
  go_wp2_with fail
  go_ret
  exact ⟨rfl, hB⟩

set_option maxHeartbeats 1000000 in
theorem setAnswers_walk (a0 a1 : Int) (a2 : Option Addr) (len2 cap2 : Nat) (z2 : List Int) (W : World) (w0 : (Lit.int .u32 a0).wf = true) (w1 : (Lit.int .i64 a1).wf = true) (w2 : IsRow .i64 W a2 len2 cap2 z2) (hT : TabAt W) :
    Calls Tryd.prog 3 #[.int .u32 a0, .int .i64 a1, .slice a2 len2 cap2] W fun e w' => e = .returned (.bool true) ∧ Below W.heap.size W w' := by
  obtain ⟨s, rfl, hs⟩ := u32_nat w0
  obtain ⟨zs, hz, _⟩ := w2.ints
  obtain ⟨_, hn⟩ := bounds_i64 w1
  clear w0 w1 w2
  obtain rfl := hz.len
  by_cases hl : zs.length ≤ 200
  case neg =>
    have h1 : (200 : Int) < (zs.length : Int) := by omega
    clear hl
    go_enter Tryd.func3, Tryd.ntmps3
    go_wp2_with (go_at_call 6; (with_reducible refine (alive03 _ hT).mono ?_); rintro e w1 ⟨rfl, hb1⟩)
    go_ret
    exact ⟨rfl, hb1⟩
  go_enter Tryd.func3, Tryd.ntmps3
  go_wp2_with (go_at_call 6; (with_reducible refine (alive03 _ hT).mono ?_); rintro e w1 ⟨rfl, hB⟩)
  have hc := set_of a2 _ cap2 zs w1 (hz.below hB)
  obtain ⟨o, Ho⟩ : ∃ o, Hid (ofN zs = o) := ⟨_, Lib.hid rfl⟩
  rw [Ho.out] at hc
  (with_reducible refine hc.mono ?_)
  rintro e w2 ⟨rfl, rfl⟩
  clear hc
  go_wp2_with fail
  have hc := ref_of3 a2 _ cap2 zs w1 (hz.below hB)
  rw [Ho.out] at hc
  (with_reducible refine hc.mono ?_)
  rintro e w2 ⟨rfl, rfl⟩
  clear hc
  go_wp2_with fail
  obtain ⟨h, Hh⟩ : ∃ h, Hid (hasN s a1 = h) := ⟨_, Lib.hid rfl⟩
  have hc := set_has s a1 w1 hs
  rw [Hh.out] at hc
  (with_reducible refine hc.mono ?_)
  rintro e w2 ⟨rfl, rfl⟩
  clear hc
  go_wp2_with fail
  have hc := ref_has s a1 w1 hs
  rw [Hh.out] at hc
  (with_reducible refine hc.mono ?_)
  rintro e w2 ⟨rfl, rfl⟩
  clear hc
  go_wp2_with fail
  obtain ⟨ms, Hm⟩ : ∃ m, Hid (intsOf (memsN s) = m) := ⟨_, Lib.hid rfl⟩
  have hc := set_members s w1 hs (hT.below hB)
  rw [Hm.out] at hc
  (with_reducible refine hc.mono ?_)
  rintro e w2 ⟨A2, c2, rfl, hz2, hb⟩
  clear hc
  replace hB := below_tail hB hb
  clear hb
  go_wp2_with fail
  have hc := ref_members s w2 hs
  rw [Hm.out] at hc
  (with_reducible refine hc.mono ?_)
  rintro e w3 ⟨A3, c3, rfl, hz3, hb⟩
  clear hc
  replace hB := below_tail hB hb
  replace hz2 := hz2.below hb
  clear hb
  go_wp2_with fail
  have hc := ref_ints A2 _ c2 ms A3 _ c3 ms w3 hz2 hz3
  rw [show (ms == ms) = true from by simp] at hc
  (with_reducible refine hc.mono ?_)
  rintro e w4 ⟨rfl, hS⟩
  clear hc
  replace hB := hB.trans (hS.below _)
  clear hS
  go_wp2_with fail
  obtain ⟨cn, Hcn⟩ : ∃ m, Hid (countN s = m) := ⟨_, Lib.hid rfl⟩
  have hc := set_count s w4 hs
  rw [Hcn.out] at hc
  (with_reducible refine hc.mono ?_)
  rintro e w5 ⟨rfl, hS⟩
  clear hc
  replace hB := hB.trans (hS.below _)
  clear hS
  go_wp2_with fail
  have hc := ref_count s w5 hs
  rw [Hcn.out] at hc
  (with_reducible refine hc.mono ?_)
  rintro e w6 ⟨rfl, hb⟩
  clear hc
  replace hB := below_tail hB hb
  clear hb
  go_wp2_with fail
  obtain ⟨ls, Hls⟩ : ∃ m, Hid (leastN s = m) := ⟨_, Lib.hid rfl⟩
  have hc := set_least s w6 hs (hT.below hB)
  rw [Hls.out] at hc
  (with_reducible refine hc.mono ?_)
  rintro e w7 ⟨rfl, rfl⟩
  clear hc
  go_wp2_with fail
  have hc := ref_least s w6 hs
  rw [Hls.out] at hc
  (with_reducible refine hc.mono ?_)
  rintro e w7 ⟨rfl, hb⟩
  clear hc
  replace hB := below_tail hB hb
  clear hb
  go_wp2_with fail
  obtain ⟨bs, Hbs⟩ : ∃ m, Hid (belowS a1 = m) := ⟨_, Lib.hid rfl⟩
  have hc := set_below a1 w7
  rw [Hbs.out] at hc
  (with_reducible refine hc.mono ?_)
  rintro e w8 ⟨rfl, rfl⟩
  clear hc
  go_wp2_with fail
  have hc := ref_below3 a1 w7 (by omega)
  rw [Hbs.out] at hc
  (with_reducible refine hc.mono ?_)
  rintro e w8 ⟨rfl, rfl⟩
  clear hc
  go_wp2_with fail
  go_ret
  exact ⟨by simp, hB⟩
end Go.Proofs.YtapnnnciaagbdaaDoor
