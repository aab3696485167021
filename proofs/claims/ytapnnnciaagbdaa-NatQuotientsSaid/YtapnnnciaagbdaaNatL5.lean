/- Walks: the law NatQuotients. -/
import Derived.Test.YtapnnnciaagbdaaNatW13
import Derived.Test.YtapnnnciaagbdaaNatL3
namespace Go.Proofs.Ytapnnnciaagbdaa
open Go.RowKit
set_option linter.unusedVariables false
set_option linter.unusedSimpArgs false

theorem quo_out {f} {vs} {w : World} {p : List Nat × List Nat × Nat} (h : Calls Try.prog f vs w (RetQuo w p)) :
    Calls Try.prog f vs w (fun e w' => ∃ A c A' c', e = .returned (.tuple #[.slice A p.1.length c, .slice A' p.2.1.length c', .int .i64 (p.2.2 : Int)]) ∧ Nums .u32 w' A p.1.length c p.1 ∧ Nums .u32 w' A' p.2.1.length c' p.2.1 ∧ Below w.heap.size w w') :=
  h.mono fun e w' h => by unfold RetQuo at h; exact h
theorem quo_bad (xs ys : List Nat) (h : ¬ (rightB xs = true ∧ rightB ys = true ∧ ys.length ≠ 0)) : quoN xs ys = ([], [], 1) := by
  unfold quoN
  rw [if_neg]
  intro h2
  simp at h2
  exact h ⟨h2.1.1, h2.1.2, by simpa using h2.2⟩
theorem quo_good (xs ys : List Nat) (lx : Lim xs) (ly : Lim ys) (h : rightB xs = true ∧ rightB ys = true ∧ ys.length ≠ 0) :
    ∃ q r, quoN xs ys = (limbs q, limbs r, 0) ∧ mulN (limbs q) ys = (limbs (q * val ys), 0) ∧ addN (limbs (q * val ys)) (limbs r) = (xs, 0) ∧ cmpN (limbs r) ys = -1 := by
  obtain ⟨r1, r2, h0⟩ := h
  obtain ⟨ex, hbx⟩ := limbs_of_right xs lx r1
  obtain ⟨ey, hby⟩ := limbs_of_right ys ly r2
  have hpos : 0 < val ys := by
    rcases Nat.eq_zero_or_pos (val ys) with h | h
    · rw [h, limbs_zero] at ey
      rw [ey] at h0
      simp at h0
    · exact h
  have hdm : val xs / val ys * val ys + val xs % val ys = val xs := by rw [Nat.mul_comm]; exact Nat.div_add_mod _ _
  have hr : val xs % val ys < val ys := Nat.mod_lt _ hpos
  have hq : val xs / val ys ≤ val xs := Nat.div_le_self _ _
  refine ⟨val xs / val ys, val xs % val ys, by simp [quoN, r1, r2, h0], ?_, ?_, ?_⟩
  · simp only [mulN, right_of_limbs _ (show val xs / val ys < big by omega), r2, Bool.and_self, if_true, val_limbs]
    exact fitN_ok (by omega)
  · rw [addN_limbs _ _ (by omega) (by omega), hdm, fitN_ok hbx, ← ex]
  · simp only [cmpN, right_of_limbs _ (show val xs % val ys < big by omega), r2, Bool.and_self, if_true, val_limbs, cmpI]
    rw [if_pos hr]

set_option maxHeartbeats 1000000 in
theorem natQuotients_walk (a0 : Option Addr) (len0 cap0 : Nat) (z0 : List Int) (a1 : Option Addr) (len1 cap1 : Nat) (z1 : List Int) (W : World)
    (w0 : IsRow .u32 W a0 len0 cap0 z0) (w1 : IsRow .u32 W a1 len1 cap1 z1) :
    Calls Try.prog 14 #[.slice a0 len0 cap0, .slice a1 len1 cap1] W fun e w' => e = .returned (.bool true) ∧ Below W.heap.size W w' := by
  obtain ⟨xs, hx, lx⟩ := w0.limbs
  obtain ⟨ys, hy, ly⟩ := w1.limbs
  clear w0 w1
  obtain rfl := hx.len
  obtain rfl := hy.len
  by_cases hl : xs.length ≤ 40 ∧ ys.length ≤ 40
  case neg =>
    have hways : (40 : Int) < (xs.length : Int) ∨ (¬ (40 : Int) < (xs.length : Int) ∧ (40 : Int) < (ys.length : Int)) := by omega
    clear hl
    rcases hways with h1 | ⟨h1, h2⟩
    all_goals
      go_enter Try.func14, Try.ntmps14
      go_wp2_with (go_at_call 23; (with_reducible refine (alive01 _).mono ?_); rintro e w1 ⟨rfl, hb1⟩)
      go_ret
      exact ⟨rfl, hb1⟩
  obtain ⟨hl1, hl2⟩ := hl
  have h1 : ¬ (40 : Int) < (xs.length : Int) := by omega
  have h2 : ¬ (40 : Int) < (ys.length : Int) := by omega
  by_cases hcond : rightB xs = true ∧ rightB ys = true ∧ ys.length ≠ 0
  case neg =>
    have Hbad := Lib.hid (quo_bad xs ys hcond)
    clear hcond
    go_enter Try.func14, Try.ntmps14
    go_wp2_with fail
    have hcall := alive01 W
    refine hcall.mono ?_
    rintro e u1 ⟨rfl, hb1⟩
    clear hcall
    replace hx := hx.below hb1
    replace hy := hy.below hb1
    have hB := hb1
    go_wp2_with fail
    have hcall := quo_out (nat_quo a0 _ cap0 xs a1 _ cap1 ys u1 hx hy lx ly)
    rw [Hbad.out] at hcall
    refine hcall.mono ?_
    rintro e u2 ⟨Ap, cp, Ar, cr, rfl, hp, hr, hb2⟩
    clear hcall
    replace hx := hx.below hb2
    replace hy := hy.below hb2
    replace hB := below_tail hB hb2
    clear hb2
    go_wp2_with fail
    have hcall := quo_out (ref_quo a0 _ cap0 xs a1 _ cap1 ys u2 hx hy lx ly)
    rw [Hbad.out] at hcall
    refine hcall.mono ?_
    rintro e u3 ⟨Aq, cq, As, cs, rfl, hq, hs, hb3⟩
    clear hcall
    replace hx := hx.below hb3
    replace hy := hy.below hb3
    replace hp := hp.below hb3
    replace hr := hr.below hb3
    replace hB := below_tail hB hb3
    clear hb3
    go_wp2_with fail
    have hcall := ref_same Ap _ cp _ Aq _ cq _ u3 hp hq
    rw [beq_list] at hcall
    refine hcall.mono ?_
    rintro e u4 ⟨rfl, hb4⟩
    clear hcall
    replace hx := hx.same hb4
    replace hy := hy.same hb4
    replace hr := hr.same hb4
    replace hs := hs.same hb4
    replace hB := hB.trans (hb4.below _)
    go_wp2_with fail
    have hcall := ref_same Ar _ cr _ As _ cs _ u4 hr hs
    rw [beq_list] at hcall
    refine hcall.mono ?_
    rintro e u5 ⟨rfl, hb5⟩
    clear hcall
    replace hx := hx.same hb5
    replace hy := hy.same hb5
    replace hr := hr.same hb5
    replace hs := hs.same hb5
    replace hB := hB.trans (hb5.below _)
    go_wp2_with fail
    go_ret
    exact ⟨rfl, hB⟩
  case pos =>
    obtain ⟨q, r, eq, em, ea, ec⟩ := quo_good xs ys lx ly hcond
    have Hq := Lib.hid eq
    have Hm := Lib.hid em
    have Ha := Lib.hid ea
    have Hc := Lib.hid ec
    have Hlq := Lib.hid (limbs_lim q)
    clear eq em ea ec hcond
    go_enter Try.func14, Try.ntmps14
    go_wp2_with fail
    have hcall := alive01 W
    refine hcall.mono ?_
    rintro e u1 ⟨rfl, hb1⟩
    clear hcall
    replace hx := hx.below hb1
    replace hy := hy.below hb1
    have hB := hb1
    go_wp2_with fail
    have hcall := quo_out (nat_quo a0 _ cap0 xs a1 _ cap1 ys u1 hx hy lx ly)
    rw [Hq.out] at hcall
    refine hcall.mono ?_
    rintro e u2 ⟨Ap, cp, Ar, cr, rfl, hp, hr, hb2⟩
    clear hcall
    replace hx := hx.below hb2
    replace hy := hy.below hb2
    replace hB := below_tail hB hb2
    clear hb2
    go_wp2_with fail
    have hcall := quo_out (ref_quo a0 _ cap0 xs a1 _ cap1 ys u2 hx hy lx ly)
    rw [Hq.out] at hcall
    refine hcall.mono ?_
    rintro e u3 ⟨Aq, cq, As, cs, rfl, hq, hs, hb3⟩
    clear hcall
    replace hx := hx.below hb3
    replace hy := hy.below hb3
    replace hp := hp.below hb3
    replace hr := hr.below hb3
    replace hB := below_tail hB hb3
    clear hb3
    go_wp2_with fail
    have hcall := ref_same Ap _ cp _ Aq _ cq _ u3 hp hq
    rw [beq_list] at hcall
    refine hcall.mono ?_
    rintro e u4 ⟨rfl, hb4⟩
    clear hcall
    replace hx := hx.same hb4
    replace hy := hy.same hb4
    replace hp := hp.same hb4
    replace hr := hr.same hb4
    replace hs := hs.same hb4
    replace hB := hB.trans (hb4.below _)
    go_wp2_with fail
    have hcall := ref_same Ar _ cr _ As _ cs _ u4 hr hs
    rw [beq_list] at hcall
    refine hcall.mono ?_
    rintro e u5 ⟨rfl, hb5⟩
    clear hcall
    replace hx := hx.same hb5
    replace hy := hy.same hb5
    replace hp := hp.same hb5
    replace hr := hr.same hb5
    replace hB := hB.trans (hb5.below _)
    go_wp2_with fail
    have hcall := nat_mul Ap _ cp _ a1 _ cap1 ys u5 hp hy (limbs_lim q) ly
    rw [Hm.out] at hcall
    refine hcall.mono ?_
    rintro e u6 ⟨Ax, cx, rfl, hxx, hb6⟩
    clear hcall
    replace hx := hx.below hb6
    replace hy := hy.below hb6
    replace hp := hp.below hb6
    replace hr := hr.below hb6
    replace hB := below_tail hB hb6
    clear hb6
    go_wp2_with fail
    have hcall := nat_add Ax _ cx _ Ar _ cr _ u6 hxx hr (limbs_lim _) (limbs_lim _)
    rw [Ha.out] at hcall
    refine hcall.mono ?_
    rintro e u7 ⟨Ay, cy, rfl, hyy, hb7⟩
    clear hcall
    replace hx := hx.below hb7
    replace hy := hy.below hb7
    replace hp := hp.below hb7
    replace hr := hr.below hb7
    replace hxx := hxx.below hb7
    replace hB := below_tail hB hb7
    clear hb7
    go_wp2_with fail
    have hcall := ref_same Ay _ cy _ a0 _ cap0 xs u7 hyy hx
    rw [beq_list] at hcall
    refine hcall.mono ?_
    rintro e u8 ⟨rfl, hb8⟩
    clear hcall
    replace hx := hx.same hb8
    replace hy := hy.same hb8
    replace hp := hp.same hb8
    replace hr := hr.same hb8
    replace hxx := hxx.same hb8
    replace hyy := hyy.same hb8
    replace hB := hB.trans (hb8.below _)
    go_wp2_with fail
    have hcall := nat_cmp Ar _ cr _ a1 _ cap1 ys u8 hr hy (limbs_lim _) ly
    rw [Hc.out] at hcall
    refine hcall.mono ?_
    rintro e u9 ⟨rfl, hb9⟩
    clear hcall
    replace hx := hx.same hb9
    replace hy := hy.same hb9
    replace hp := hp.same hb9
    replace hr := hr.same hb9
    replace hxx := hxx.same hb9
    replace hyy := hyy.same hb9
    replace hB := hB.trans (hb9.below _)
    go_wp2_with fail
    go_ret
    exact ⟨rfl, hB⟩
end Go.Proofs.Ytapnnnciaagbdaa
