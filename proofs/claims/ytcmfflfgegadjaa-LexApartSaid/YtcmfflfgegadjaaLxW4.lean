/- lex: is it a literal? -/
import Derived.Test.YtcmfflfgegadjaaLxW3
namespace Go.Proofs.Ytcmfflfgegadjaa
open Go.RowKit
set_option linter.unusedVariables false
set_option linter.unusedSimpArgs false

def litB (l : List Nat) : Bool :=
  (decide (l.length = 3) && decide (l.getD 0 0 = 39) && decide (l.getD 2 0 = 39) && plainB (l.getD 1 0)) ||
  (decide (l.length = 4) && decide (l.getD 0 0 = 39) && decide (l.getD 3 0 = 39) && decide (l.getD 1 0 = 92) && escapedB (l.getD 2 0))

theorem plain92 : plainB 92 = false := by decide
theorem litB_lit (l : List Nat) : litB l = (decide (l.getD 0 0 = 39) && (decide ((litN l).2 = 0) && decide ((litN l).1 = l.length))) := by
  unfold litB litN
  generalize l.getD 0 0 = x0
  generalize hx1 : l.getD 1 0 = x1
  generalize l.getD 2 0 = x2
  generalize l.getD 3 0 = x3
  generalize l.length = n
  by_cases h92 : x1 = 92
  · subst h92
    rw [plain92]
    cases escapedB x2 <;> grind
  · cases plainB x1 <;> grind

set_option maxHeartbeats 1000000 in
theorem lx_Literal (s : ByteArray) (w : World) (hs : s.size ≤ maxLen) :
    Calls Try.prog 10 #[.string s] w fun e w' => e = .returned (.bool (litB (bytesOf s))) ∧ Below w.heap.size w w' := by
  have hl := bytesOf_len s
  have hf := litB_lit (bytesOf s)
  by_cases h0 : s.size = 0
  · have hfin : litB (bytesOf s) = false := by unfold litB; rw [hl, h0]; simp
    rw [hfin]
    have he := isEmpty_str0 s h0
    clear hfin hl hf
    go_enter Try.func10, Try.ntmps10
    go_wp2
    go_ret
    exact ⟨rfl, Below.refl _ _⟩
  have h1 : 0 < s.size := by omega
  obtain ⟨he1, he2⟩ := isEmpty_str s h1
  have hg0 := getD_of_get (d := 0) (bytesOf_get s 0 h1)
  rw [hg0, hl] at hf
  have H0 := Lib.hid h0
  clear h0
  by_cases hq : (s[0]'h1).toNat = 39
  case neg =>
    have hfin : litB (bytesOf s) = false := by rw [hf]; simp [hq]
    rw [hfin]
    have hqq : (((s[0]'h1).toNat : Int) == 39) = false := by rw [beq_eq_false_iff_ne]; omega
    clear hfin hl hf hg0 hq
    go_enter Try.func10, Try.ntmps10
    go_wp2
    go_ret
    exact ⟨rfl, Below.refl _ _⟩
  have hqq : (((s[0]'h1).toNat : Int) == 39) = true := by rw [beq_iff_eq]; omega
  rw [hq] at hf
  simp only [decide_true, Bool.true_and] at hf
  have kc := fun w => Lib.run_convert_string_bytes (P := Try.prog) w 9 24 5 s Try.underlying9 Try.underlying24 Try.underlying5
  have hB := bytesWorld_below w 5 s
  have hc := lx_literal _ _ _ (bytesOf s) _ (bytesWorld_nums w 5 s hs) (bytesOf_lt s)
  generalize litB (bytesOf s) = r at *
  generalize litN (bytesOf s) = p at *
  obtain ⟨p1, p2⟩ := p
  simp only [] at hc hf
  have Hc := Lib.hid hc
  clear hc hl hg0 hq
  by_cases z1 : p2 = 0
  · have y1 : ((p2 : Int) == 0) = true := by rw [beq_iff_eq]; omega
    have d1 : decide (p2 = 0) = true := by simp [z1]
    rw [d1] at hf
    clear d1 z1
    by_cases z2 : p1 = s.size
    · have y2 : ((p1 : Int) == (s.size : Int)) = true := by rw [beq_iff_eq]; omega
      have d2 : decide (p1 = s.size) = true := by simp [z2]
      rw [d2] at hf
      subst hf
      clear d2 z2
      go_enter Try.func10, Try.ntmps10
      go_wp2_with (go_at_call 23; (with_reducible refine Hc.out.mono ?_); rintro e w' ⟨rfl, rfl⟩)
      go_ret
      exact ⟨rfl, hB⟩
    · have y2 : ((p1 : Int) == (s.size : Int)) = false := by rw [beq_eq_false_iff_ne]; omega
      have d2 : decide (p1 = s.size) = false := by simp [z2]
      rw [d2] at hf
      subst hf
      clear d2 z2
      go_enter Try.func10, Try.ntmps10
      go_wp2_with (go_at_call 23; (with_reducible refine Hc.out.mono ?_); rintro e w' ⟨rfl, rfl⟩)
      go_ret
      exact ⟨rfl, hB⟩
  · have y1 : ((p2 : Int) == 0) = false := by rw [beq_eq_false_iff_ne]; omega
    have d1 : decide (p2 = 0) = false := by simp [z1]
    rw [d1] at hf
    subst hf
    clear d1 z1
    go_enter Try.func10, Try.ntmps10
    go_wp2_with (go_at_call 23; (with_reducible refine Hc.out.mono ?_); rintro e w' ⟨rfl, rfl⟩)
    go_ret
    exact ⟨rfl, hB⟩

set_option maxHeartbeats 1000000 in
theorem ref_Literal (s : ByteArray) (w : World) :
    Calls Try.prog 11 #[.string s] w fun e w' => e = .returned (.bool (litB (bytesOf s))) ∧ w = w' := by
  have hl := bytesOf_len s
  have Hg : Hid (∀ k (h : k < s.size), (bytesOf s).getD k 0 = (s[k]'h).toNat) := Lib.hid fun k h => getD_of_get (bytesOf_get s k h)
  have Hf : Hid (litB (bytesOf s) = ((decide (s.size = 3) && decide ((bytesOf s).getD 0 0 = 39) && decide ((bytesOf s).getD 2 0 = 39) && plainB ((bytesOf s).getD 1 0)) ||
    (decide (s.size = 4) && decide ((bytesOf s).getD 0 0 = 39) && decide ((bytesOf s).getD 3 0 = 39) && decide ((bytesOf s).getD 1 0 = 92) && escapedB ((bytesOf s).getD 2 0)))) := Lib.hid (by unfold litB; rw [hl])
  clear hl
  by_cases h3 : s.size = 3
  · have e3 : ((s.size : Int) == 3) = true := by rw [beq_iff_eq]; omega
    have k0 : 0 < s.size := by omega
    have k1 : 1 < s.size := by omega
    have k2 : 2 < s.size := by omega
    have Hf2 : Hid (litB (bytesOf s) = (decide ((s[0]'k0).toNat = 39) && decide ((s[2]'k2).toNat = 39) && decide (32 ≤ (s[1]'k1).toNat ∧ (s[1]'k1).toNat ≤ 126 ∧ (s[1]'k1).toNat ≠ 39 ∧ (s[1]'k1).toNat ≠ 92))) := Lib.hid (by
      rw [Hf.out, Hg.out 0 k0, Hg.out 1 k1, Hg.out 2 k2, h3]
      simp [plainB])
    clear h3 Hf
    go_enter Try.func11, Try.ntmps11
    go_wp2
    all_goals
      go_ret
      refine ⟨ret_bool ?_, rfl⟩
      rw [Hf2.out]
      rw [Bool.eq_iff_iff]; simp only [Bool.or_eq_true, Bool.and_eq_true, beq_iff_eq, bne_iff_ne, ne_eq, Bool.not_eq_true', decide_eq_true_eq, decide_eq_false_iff_not, Bool.false_eq_true, true_iff, false_iff, iff_true, iff_false]; omega
  have e3 : ((s.size : Int) == 3) = false := by rw [beq_eq_false_iff_ne]; omega
  by_cases h4 : s.size = 4
  · have e4 : ((s.size : Int) == 4) = true := by rw [beq_iff_eq]; omega
    have k0 : 0 < s.size := by omega
    have k1 : 1 < s.size := by omega
    have k2 : 2 < s.size := by omega
    have k3 : 3 < s.size := by omega
    have Hf2 : Hid (litB (bytesOf s) = (decide ((s[0]'k0).toNat = 39) && decide ((s[3]'k3).toNat = 39) && decide ((s[1]'k1).toNat = 92) && decide ((s[2]'k2).toNat = 110 ∨ (s[2]'k2).toNat = 116 ∨ (s[2]'k2).toNat = 92 ∨ (s[2]'k2).toNat = 39))) := Lib.hid (by
      rw [Hf.out, Hg.out 0 k0, Hg.out 1 k1, Hg.out 2 k2, Hg.out 3 k3, h4]
      simp [escapedB])
    clear h3 h4 Hf
    go_enter Try.func11, Try.ntmps11
    go_wp2
    all_goals
      go_ret
      refine ⟨ret_bool ?_, rfl⟩
      rw [Hf2.out]
      rw [Bool.eq_iff_iff]; simp only [Bool.or_eq_true, Bool.and_eq_true, beq_iff_eq, bne_iff_ne, ne_eq, Bool.not_eq_true', decide_eq_true_eq, decide_eq_false_iff_not, Bool.false_eq_true, true_iff, false_iff, iff_true, iff_false]; omega
  · have e4 : ((s.size : Int) == 4) = false := by rw [beq_eq_false_iff_ne]; omega
    have hfin : litB (bytesOf s) = false := by rw [Hf.out]; simp [h3, h4]
    rw [hfin]
    clear hfin h3 h4 Hf
    go_enter Try.func11, Try.ntmps11
    go_wp2
    go_ret
    exact ⟨rfl, rfl⟩
end Go.Proofs.Ytcmfflfgegadjaa
