/- lex: the small functions. -/
import Derived.Test.YtcmfflfgegadjaaLxP
namespace Go.Proofs.Ytcmfflfgegadjaa
open Go.RowKit
set_option linter.unusedVariables false
set_option linter.unusedSimpArgs false

def letterB (c : Nat) : Bool := decide (97 ≤ c ∧ c ≤ 122) || decide (65 ≤ c ∧ c ≤ 90) || decide (c = 95)
def innerB (c : Nat) : Bool := letterB c || decide (48 ≤ c ∧ c ≤ 57) || decide (c = 46)

theorem letter_fact : ∀ c : Nat, c < 256 → letterB c = (decide (c = 95) || (decide (97 ≤ c ||| 32) && decide (c ||| 32 ≤ 122))) := by decide +kernel
theorem bits_or (c : Nat) : bits BinOp.or .u8 (c : Int) 32 = ((c ||| 32 : Nat) : Int) ∨ 256 ≤ c := by
  rcases Nat.lt_or_ge c 256 with h | h
  · left
    have : ∀ c : Nat, c < 256 → bits BinOp.or .u8 (c : Int) 32 = ((c ||| 32 : Nat) : Int) := by decide +kernel
    exact this c h
  · exact .inr h
theorem ret_bool {a b : Bool} (h : a = b) : Ending.returned (.bool a) = Ending.returned (.bool b) := by rw [h]

theorem lx_letter (c : Nat) (w : World) (hc : c < 256) :
    Calls Try.prog 19 #[.int .u8 (c : Int)] w fun e w' => e = .returned (.bool (letterB c)) ∧ w = w' := by
  have hf := letter_fact c hc
  have hb := (bits_or c).resolve_right (by omega)
  have hp : ∃ v : Nat, bits BinOp.or .u8 (c : Int) 32 = (v : Int) ∧ letterB c = (decide (c = 95) || (decide (97 ≤ v) && decide (v ≤ 122))) := ⟨_, hb, hf⟩
  clear hf hb
  obtain ⟨v, hv, hf⟩ := hp
  have Hf := Lib.hid hf
  clear hf
  have hways : c = 95 ∨ (c ≠ 95 ∧ v < 97) ∨ (c ≠ 95 ∧ 97 ≤ v ∧ v ≤ 122) ∨ (c ≠ 95 ∧ 97 ≤ v ∧ 122 < v) := by omega
  rcases hways with h | ⟨h, g⟩ | ⟨h, g, g2⟩ | ⟨h, g, g2⟩
  all_goals
    go_enter Try.func19, Try.ntmps19
    go_wp2
    go_ret
    refine ⟨ret_bool ?_, rfl⟩
    rw [Hf.out]
    rw [Bool.eq_iff_iff]; simp only [Bool.or_eq_true, Bool.and_eq_true, beq_iff_eq, bne_iff_ne, ne_eq, Bool.not_eq_true', decide_eq_true_eq, decide_eq_false_iff_not, Bool.false_eq_true, true_iff, false_iff, iff_true, iff_false]; omega
def plainB (c : Nat) : Bool := decide (32 ≤ c ∧ c ≤ 126 ∧ c ≠ 39 ∧ c ≠ 92)
def escapedB (c : Nat) : Bool := decide (c = 110 ∨ c = 116 ∨ c = 92 ∨ c = 39)
def smallB (c : Nat) : Bool := decide (97 ≤ c ∧ c ≤ 122)

theorem lx_first (c : Nat) (w : World) (hc : c < 256) :
    Calls Try.prog 21 #[.int .u8 (c : Int)] w fun e w' => e = .returned (.bool (letterB c)) ∧ w = w' := by
  have hways : c < 65 ∨ (65 ≤ c ∧ c ≤ 90) ∨ (90 < c ∧ c < 95) ∨ c = 95 ∨ (95 < c ∧ c < 97) ∨ (97 ≤ c ∧ c ≤ 122) ∨ 122 < c := by omega
  rcases hways with g0 | ⟨g0, g1⟩ | ⟨g0, g1⟩ | g0 | ⟨g0, g1⟩ | ⟨g0, g1⟩ | g0
  all_goals
    go_enter Try.func21, Try.ntmps21
    go_wp2
    all_goals
      go_ret
      refine ⟨ret_bool ?_, rfl⟩
      unfold letterB
      rw [Bool.eq_iff_iff]; simp only [Bool.or_eq_true, Bool.and_eq_true, beq_iff_eq, bne_iff_ne, ne_eq, Bool.not_eq_true', decide_eq_true_eq, decide_eq_false_iff_not, Bool.false_eq_true, true_iff, false_iff, iff_true, iff_false]; omega

theorem lx_plain (c : Nat) (w : World) (hc : c < 256) :
    Calls Try.prog 36 #[.int .u8 (c : Int)] w fun e w' => e = .returned (.bool (plainB c)) ∧ w = w' := by
  have hways : c < 32 ∨ (32 ≤ c ∧ c ≤ 126 ∧ c = 39) ∨ (32 ≤ c ∧ c ≤ 126 ∧ c = 92) ∨ (32 ≤ c ∧ c ≤ 126 ∧ c ≠ 39 ∧ c ≠ 92) ∨ 126 < c := by omega
  rcases hways with g0 | ⟨g0, g1, g2⟩ | ⟨g0, g1, g2⟩ | ⟨g0, g1, g2, g3⟩ | g0
  all_goals
    go_enter Try.func36, Try.ntmps36
    go_wp2
    all_goals
      go_ret
      refine ⟨ret_bool ?_, rfl⟩
      unfold plainB
      rw [Bool.eq_iff_iff]; simp only [Bool.or_eq_true, Bool.and_eq_true, beq_iff_eq, bne_iff_ne, ne_eq, Bool.not_eq_true', decide_eq_true_eq, decide_eq_false_iff_not, Bool.false_eq_true, true_iff, false_iff, iff_true, iff_false]; omega

theorem lx_escaped (c : Nat) (w : World) (hc : c < 256) :
    Calls Try.prog 37 #[.int .u8 (c : Int)] w fun e w' => e = .returned (.bool (escapedB c)) ∧ w = w' := by
  have hways : c = 110 ∨ c = 116 ∨ c = 92 ∨ c = 39 ∨ (c ≠ 110 ∧ c ≠ 116 ∧ c ≠ 92 ∧ c ≠ 39) := by omega
  rcases hways with g0 | g0 | g0 | g0 | ⟨g0, g1, g2, g3⟩
  all_goals
    go_enter Try.func37, Try.ntmps37
    go_wp2
    all_goals
      go_ret
      refine ⟨ret_bool ?_, rfl⟩
      unfold escapedB
      rw [Bool.eq_iff_iff]; simp only [Bool.or_eq_true, Bool.and_eq_true, beq_iff_eq, bne_iff_ne, ne_eq, Bool.not_eq_true', decide_eq_true_eq, decide_eq_false_iff_not, Bool.false_eq_true, true_iff, false_iff, iff_true, iff_false]; omega

theorem lx_small (c : Nat) (w : World) (hc : c < 256) :
    Calls Try.prog 45 #[.int .u8 (c : Int)] w fun e w' => e = .returned (.bool (smallB c)) ∧ w = w' := by
  have hways : c < 97 ∨ (97 ≤ c ∧ c ≤ 122) ∨ 122 < c := by omega
  rcases hways with g0 | ⟨g0, g1⟩ | g0
  all_goals
    go_enter Try.func45, Try.ntmps45
    go_wp2
    all_goals
      go_ret
      refine ⟨ret_bool ?_, rfl⟩
      unfold smallB
      rw [Bool.eq_iff_iff]; simp only [Bool.or_eq_true, Bool.and_eq_true, beq_iff_eq, bne_iff_ne, ne_eq, Bool.not_eq_true', decide_eq_true_eq, decide_eq_false_iff_not, Bool.false_eq_true, true_iff, false_iff, iff_true, iff_false]; omega

theorem lx_inner (c : Nat) (w : World) (hc : c < 256) :
    Calls Try.prog 20 #[.int .u8 (c : Int)] w fun e w' => e = .returned (.bool (innerB c)) ∧ w = w' := by
  have h1 := lx_letter c w hc
  cases hl : letterB c
  all_goals
    rw [hl] at h1
    have H1 := Lib.hid h1
    have Hl := Lib.hid hl
    clear h1 hl
    have hways : (c < 46 ∧ ((c : Int) == 46) = false) ∨ ((c : Int) == 46) = true ∨ (46 < c ∧ c < 48 ∧ ((c : Int) == 46) = false) ∨ (48 ≤ c ∧ c ≤ 57 ∧ ((c : Int) == 46) = false) ∨ (57 < c ∧ ((c : Int) == 46) = false) := by
      simp only [beq_iff_eq, beq_eq_false_iff_ne, ne_eq]
      omega
    rcases hways with ⟨g, g0⟩ | g0 | ⟨g, g1, g0⟩ | ⟨g, g1, g0⟩ | ⟨g, g0⟩
    all_goals
      go_enter Try.func20, Try.ntmps20
      go_wp2_with (go_at_call 19; (with_reducible refine H1.out.mono ?_); rintro e w' ⟨rfl, rfl⟩)
      all_goals
        go_ret
        refine ⟨ret_bool ?_, rfl⟩
        unfold innerB
        rw [Hl.out]
        try simp only [beq_iff_eq, beq_eq_false_iff_ne, ne_eq] at g0
        try simp only [Bool.true_or, Bool.false_or]
        all_goals first
        | rfl
        | (rw [Bool.eq_iff_iff]; simp only [Bool.or_eq_true, Bool.and_eq_true, beq_iff_eq, bne_iff_ne, ne_eq, Bool.not_eq_true', decide_eq_true_eq, decide_eq_false_iff_not, Bool.false_eq_true, true_iff, false_iff, iff_true, iff_false]; omega)

theorem lx_later (c : Nat) (w : World) (hc : c < 256) :
    Calls Try.prog 22 #[.int .u8 (c : Int)] w fun e w' => e = .returned (.bool (innerB c)) ∧ w = w' := by
  have h1 := lx_first c w hc
  cases hl : letterB c
  all_goals
    rw [hl] at h1
    have H1 := Lib.hid h1
    have Hl := Lib.hid hl
    clear h1 hl
    have hways : (c < 46 ∧ ((c : Int) == 46) = false) ∨ ((c : Int) == 46) = true ∨ (46 < c ∧ c < 48 ∧ ((c : Int) == 46) = false) ∨ (48 ≤ c ∧ c ≤ 57 ∧ ((c : Int) == 46) = false) ∨ (57 < c ∧ ((c : Int) == 46) = false) := by
      simp only [beq_iff_eq, beq_eq_false_iff_ne, ne_eq]
      omega
    rcases hways with ⟨g, g0⟩ | g0 | ⟨g, g1, g0⟩ | ⟨g, g1, g0⟩ | ⟨g, g0⟩
    all_goals
      go_enter Try.func22, Try.ntmps22
      go_wp2_with (go_at_call 21; (with_reducible refine H1.out.mono ?_); rintro e w' ⟨rfl, rfl⟩)
      all_goals
        go_ret
        refine ⟨ret_bool ?_, rfl⟩
        unfold innerB
        rw [Hl.out]
        try simp only [beq_iff_eq, beq_eq_false_iff_ne, ne_eq] at g0
        try simp only [Bool.true_or, Bool.false_or]
        all_goals first
        | rfl
        | (rw [Bool.eq_iff_iff]; simp only [Bool.or_eq_true, Bool.and_eq_true, beq_iff_eq, bne_iff_ne, ne_eq, Bool.not_eq_true', decide_eq_true_eq, decide_eq_false_iff_not, Bool.false_eq_true, true_iff, false_iff, iff_true, iff_false]; omega)

end Go.Proofs.Ytcmfflfgegadjaa
