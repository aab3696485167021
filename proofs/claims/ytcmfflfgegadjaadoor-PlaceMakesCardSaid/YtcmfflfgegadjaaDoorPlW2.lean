/- place: the small functions. -/
import Derived.Test.YtcmfflfgegadjaaDoorPlW1
namespace Go.Proofs.YtcmfflfgegadjaaDoor
open Go.RowKit
set_option linter.unusedVariables false
set_option linter.unusedSimpArgs false

def okN (n : Nat) : Bool := decide (1 ≤ n ∧ n ≤ 1073741824)
def okP (l c : Nat) : Bool := okN l && okN c
/-- a place -/
def PV (l c : Nat) : Value := .complex .f64 (fN l) (fN c)
theorem PV_zero : PV 0 0 = .complex .f64 0 0 := by unfold PV; rw [fN_zero]

theorem floatOfInt_nat (n : Nat) : floatOfInt .f64 (n : Int) = fN n := by
  unfold floatOfInt FloatKind.nearest
  have e1 : decide ((n : Int) < 0) = false := by simp
  rw [e1, Int.natAbs_natCast]
  rfl
theorem add_bits (n m : Nat) (h : n + m < 9007199254740992) : floatBits .add .f64 (fN n) (fN m) = some (fN (n + m)) := by
  obtain ⟨f, hf, k, hk⟩ := (read_fN n (by omega)).sum (read_fN m (by omega))
  show ((FloatKind.f64.format.read (fN n)).sum (FloatKind.f64.format.read (fN m))).map FloatKind.f64.format.write = _
  have hf' : (FloatKind.f64.format.read (fN n)).sum (FloatKind.f64.format.read (fN m)) = some f := hf
  rw [hf']
  exact congrArg some (write_isN hk h)
theorem toInt_fN (n : Nat) (h : n ≤ 1073741824) : floatToIntVal .f64 (fN n) .i64 = some (n : Int) := by
  unfold floatToIntVal
  have := (read_fN n (by omega)).toInt
  have h' : (FloatKind.f64.decode (fN n)).toInt .zero = some (n : Int) := this
  rw [h']
  simp only []
  rw [if_pos]
  have e1 : IntKind.i64.min = -9223372036854775808 := by decide
  have e2 : IntKind.i64.max = 9223372036854775807 := by decide
  rw [e1, e2]
  omega

theorem pl_right (l c : Nat) (w : World) (hl : l < 9007199254740992) (hc : c < 9007199254740992) :
    Calls Tryd.prog 11 #[.complex .f64 (fN l) (fN c)] w fun e w' => e = .returned (.bool (okP l c)) ∧ w = w' := by
  have h1 := whole_fN l w hl
  have h2 := whole_fN c w hc
  unfold okP
  rw [show decide (1 ≤ l ∧ l ≤ 1073741824) = okN l from rfl] at h1
  rw [show decide (1 ≤ c ∧ c ≤ 1073741824) = okN c from rfl] at h2
  generalize fN l = x at *
  generalize fN c = y at *
  cases h : okN l
  all_goals
    rw [h] at h1
    have H1 := Lib.hid h1
    have H2 := Lib.hid h2
    clear h1 h2 h
    generalize okN c = q at *
    go_enter Tryd.func11, Tryd.ntmps11
    go_wp2_with (first
      | (go_at_call 17; (with_reducible refine H1.out.mono ?_); rintro e w' ⟨rfl, rfl⟩; clear H1)
      | (go_at_call 17; (with_reducible refine H2.out.mono ?_); rintro e w' ⟨rfl, rfl⟩))
    go_ret
    exact ⟨by simp, rfl⟩

/-- a place that may be; none of others -/
def keptP (l c : Nat) : Value := if okP l c then PV l c else PV 0 0

theorem pl_kept (l c : Nat) (w : World) (hl : l < 9007199254740992) (hc : c < 9007199254740992) :
    Calls Tryd.prog 18 #[.complex .f64 (fN l) (fN c)] w fun e w' => e = .returned (keptP l c) ∧ w = w' := by
  have h1 := pl_right l c w hl hc
  unfold keptP
  rw [PV_zero]
  unfold PV
  generalize fN l = x at *
  generalize fN c = y at *
  cases h : okP l c
  all_goals
    rw [h] at h1
    have H1 := Lib.hid h1
    clear h1 h
    go_enter Tryd.func18, Tryd.ntmps18
    go_wp2_with (go_at_call 11; (with_reducible refine H1.out.mono ?_); rintro e w' ⟨rfl, rfl⟩)
    go_ret
    exact ⟨rfl, rfl⟩

/-- the place of a line and a column -/
def ofP (a b : Int) : Value := if 1 ≤ a ∧ a ≤ 1073741824 ∧ 1 ≤ b ∧ b ≤ 1073741824 then PV a.toNat b.toNat else PV 0 0

theorem pl_of (a b : Int) (w : World) : Calls Tryd.prog 7 #[.int .i64 a, .int .i64 b] w fun e w' => e = .returned (ofP a b) ∧ w = w' := by
  by_cases h : 1 ≤ a ∧ a ≤ 1073741824 ∧ 1 ≤ b ∧ b ≤ 1073741824
  · unfold ofP
    rw [if_pos h]
    obtain ⟨n, rfl⟩ : ∃ n : Nat, a = (n : Int) := ⟨a.toNat, by omega⟩
    obtain ⟨m, rfl⟩ : ∃ m : Nat, b = (m : Int) := ⟨b.toNat, by omega⟩
    have e1 := floatOfInt_nat n
    have e2 := floatOfInt_nat m
    obtain ⟨g1, g2, g3, g4⟩ := h
    unfold PV
    rw [Int.toNat_natCast, Int.toNat_natCast]
    generalize fN n = x at *
    generalize fN m = y at *
    go_enter Tryd.func7, Tryd.ntmps7
    go_wp2
    go_ret
    exact ⟨by simp [e1, e2], rfl⟩
  · unfold ofP
    rw [if_neg h, PV_zero]
    have hways : a < 1 ∨ (1 ≤ a ∧ 1073741824 < a) ∨ (1 ≤ a ∧ a ≤ 1073741824 ∧ b < 1) ∨ (1 ≤ a ∧ a ≤ 1073741824 ∧ 1 ≤ b ∧ 1073741824 < b) := by omega
    clear h
    rcases hways with g1 | ⟨g1, g2⟩ | ⟨g1, g2, g3⟩ | ⟨g1, g2, g3, g4⟩
    all_goals
      go_enter Tryd.func7, Tryd.ntmps7
      go_wp2
      go_ret
      exact ⟨rfl, rfl⟩

theorem ref_of (a b : Int) (w : World) : Calls Tryd.prog 8 #[.int .i64 a, .int .i64 b] w fun e w' => e = .returned (ofP a b) ∧ w = w' := by
  by_cases h : 1 ≤ a ∧ a ≤ 1073741824 ∧ 1 ≤ b ∧ b ≤ 1073741824
  · unfold ofP
    rw [if_pos h]
    obtain ⟨n, rfl⟩ : ∃ n : Nat, a = (n : Int) := ⟨a.toNat, by omega⟩
    obtain ⟨m, rfl⟩ : ∃ m : Nat, b = (m : Int) := ⟨b.toNat, by omega⟩
    have e1 := floatOfInt_nat n
    have e2 := floatOfInt_nat m
    obtain ⟨g1, g2, g3, g4⟩ := h
    unfold PV
    rw [Int.toNat_natCast, Int.toNat_natCast]
    generalize fN n = x at *
    generalize fN m = y at *
    go_enter Tryd.func8, Tryd.ntmps8
    go_wp2
    go_ret
    exact ⟨by simp [e1, e2], rfl⟩
  · unfold ofP
    rw [if_neg h, PV_zero]
    have hways : a < 1 ∨ (1 ≤ a ∧ 1073741824 < a) ∨ (1 ≤ a ∧ a ≤ 1073741824 ∧ b < 1) ∨ (1 ≤ a ∧ a ≤ 1073741824 ∧ 1 ≤ b ∧ 1073741824 < b) := by omega
    clear h
    rcases hways with g1 | ⟨g1, g2⟩ | ⟨g1, g2, g3⟩ | ⟨g1, g2, g3, g4⟩
    all_goals
      go_enter Tryd.func8, Tryd.ntmps8
      go_wp2
      go_ret
      exact ⟨rfl, rfl⟩

/-- behind a byte -/
def stepP (p : Nat × Nat) (b : Nat) : Nat × Nat := if b = 10 then (p.1 + 1, 1) else (p.1, p.2 + 1)

theorem pl_step (l c b : Nat) (w : World) (hl : l < 1000000000000) (hc : c < 1000000000000) (hok : okP l c = true) :
    Calls Tryd.prog 12 #[.complex .f64 (fN l) (fN c), .int .u8 (b : Int)] w fun e w' =>
      e = .returned (keptP (stepP (l, c) b).1 (stepP (l, c) b).2) ∧ w = w' := by
  have h1 := pl_right l c w (by omega) (by omega)
  rw [hok] at h1
  by_cases hb : b = 10
  · subst hb
    simp only [stepP, if_true]
    have h2 := pl_kept (l + 1) 1 w (by omega) (by decide)
    have ha := add_bits l 1 (by omega)
    rw [fN_1] at ha h2
    have hr : ∀ w, (binOp .add 37 (.float .f64 (fN l)) (.float .f64 4607182418800017408)).run Tryd.prog w = .ok (.float .f64 (fN (l + 1))) w := fun w => run_float_arith w .add 37 .f64 _ _ _ ha
    generalize fN l = x at *
    generalize fN c = y at *
    generalize fN (l + 1) = x1 at *
    have H1 := Lib.hid h1
    have H2 := Lib.hid h2
    clear h1 h2 ha
    go_enter Tryd.func12, Tryd.ntmps12
    go_wp2_with (first
      | (go_at_call 11; (with_reducible refine H1.out.mono ?_); rintro e w' ⟨rfl, rfl⟩)
      | (go_at_call 18; (with_reducible refine H2.out.mono ?_); rintro e w' ⟨rfl, rfl⟩))
    go_ret
    exact ⟨rfl, rfl⟩
  · simp only [stepP, if_neg hb]
    have h2 := pl_kept l (c + 1) w (by omega) (by omega)
    have ha := add_bits c 1 (by omega)
    have hz := add_bits l 0 (by omega)
    rw [fN_1] at ha
    rw [fN_zero, Nat.add_zero] at hz
    have hbb : ((b : Int) == 10) = false := by rw [beq_eq_false_iff_ne]; omega
    have hr : ∀ w, (binOp .add 24 (.complex .f64 (fN l) (fN c)) (.complex .f64 0 4607182418800017408)).run Tryd.prog w = .ok (.complex .f64 (fN l) (fN (c + 1))) w := fun w =>
      run_complex_sum w .add (.inl rfl) 24 .f64 _ _ _ _ _ _ (by simp [cSumBits, hz, ha])
    generalize fN l = x at *
    generalize fN c = y at *
    generalize fN (c + 1) = y1 at *
    have H1 := Lib.hid h1
    have H2 := Lib.hid h2
    clear h1 h2 ha hz hb
    go_enter Tryd.func12, Tryd.ntmps12
    go_wp2_with (first
      | (go_at_call 11; (with_reducible refine H1.out.mono ?_); rintro e w' ⟨rfl, rfl⟩)
      | (go_at_call 18; (with_reducible refine H2.out.mono ?_); rintro e w' ⟨rfl, rfl⟩))
    go_ret
    exact ⟨rfl, rfl⟩

/-- is a place ahead of another one? -/
def beforeP (l c l2 c2 : Nat) : Bool := okP l c && okP l2 c2 && (decide (l < l2) || (decide (l = l2) && decide (c < c2)))

theorem cmp_lt (a b : Nat) : (some (compare a b) == some Ordering.lt) = decide (a < b) := by
  rcases Nat.lt_trichotomy a b with h | h | h
  · rw [Nat.compare_eq_lt.2 h]; simp [h]
  · rw [Nat.compare_eq_eq.2 h]; simp [h]
  · rw [Nat.compare_eq_gt.2 h]; simp; omega
theorem cmp_eq (a b : Nat) : (some (compare a b) == some Ordering.eq) = decide (a = b) := by
  rcases Nat.lt_trichotomy a b with h | h | h
  · rw [Nat.compare_eq_lt.2 h]; simp; omega
  · rw [Nat.compare_eq_eq.2 h]; simp [h]
  · rw [Nat.compare_eq_gt.2 h]; simp; omega

set_option maxHeartbeats 400000 in
theorem pl_before (l c l2 c2 : Nat) (w : World) (hl : l < 9007199254740992) (hc : c < 9007199254740992) (hl2 : l2 < 9007199254740992) (hc2 : c2 < 9007199254740992) :
    Calls Tryd.prog 13 #[.complex .f64 (fN l) (fN c), .complex .f64 (fN l2) (fN c2)] w fun e w' => e = .returned (.bool (beforeP l c l2 c2)) ∧ w = w' := by
  have h1 := pl_right l c w hl hc
  have h2 := pl_right l2 c2 w hl2 hc2
  have o1 := ordN l l2 hl hl2
  have o2 := ordN c c2 hc hc2
  have e1 := cmp_lt l l2
  have e2 := cmp_eq l l2
  have e3 := cmp_lt c c2
  rw [← o1] at e1 e2
  rw [← o2] at e3
  unfold beforeP
  generalize fN l = x at *
  generalize fN c = y at *
  generalize fN l2 = x2 at *
  generalize fN c2 = y2 at *
  clear o1 o2
  cases hp : okP l c
  · rw [hp] at h1
    have H1 := Lib.hid h1
    clear h1 hp
    go_enter Tryd.func13, Tryd.ntmps13
    go_wp2_with (go_at_call 11; (with_reducible refine H1.out.mono ?_); rintro e w' ⟨rfl, rfl⟩; clear H1)
    go_ret
    exact ⟨by simp, rfl⟩
  rw [hp] at h1
  cases hq : okP l2 c2
  · rw [hq] at h2
    have H1 := Lib.hid h1
    have H2 := Lib.hid h2
    clear h1 h2 hp hq
    go_enter Tryd.func13, Tryd.ntmps13
    go_wp2_with (first
      | (go_at_call 11; (with_reducible refine H1.out.mono ?_); rintro e w' ⟨rfl, rfl⟩; clear H1)
      | (go_at_call 11; (with_reducible refine H2.out.mono ?_); rintro e w' ⟨rfl, rfl⟩; clear H2))
    go_ret
    exact ⟨by simp, rfl⟩
  rw [hq] at h2
  have H1 := Lib.hid h1
  have H2 := Lib.hid h2
  clear h1 h2 hp hq
  have hne : (FloatKind.f64.format.order x x2 != some .eq) = !decide (l = l2) := by rw [← e2]; rfl
  by_cases hll : l = l2
  · simp only [hll, decide_true, Bool.not_true] at hne e2
    have hlt : decide (l < l2) = false := by simp; omega
    simp only [hlt, hll, decide_true, Bool.true_and, Bool.false_or]
    go_enter Tryd.func13, Tryd.ntmps13
    go_wp2_with (first
      | (go_at_call 11; (with_reducible refine H1.out.mono ?_); rintro e w' ⟨rfl, rfl⟩; clear H1)
      | (go_at_call 11; (with_reducible refine H2.out.mono ?_); rintro e w' ⟨rfl, rfl⟩; clear H2))
    go_ret
    exact ⟨by simp [e3], rfl⟩
  · simp only [hll, decide_false, Bool.not_false] at hne e2
    simp only [hll, decide_false, Bool.false_and, Bool.or_false, Bool.true_and]
    go_enter Tryd.func13, Tryd.ntmps13
    go_wp2_with (first
      | (go_at_call 11; (with_reducible refine H1.out.mono ?_); rintro e w' ⟨rfl, rfl⟩; clear H1)
      | (go_at_call 11; (with_reducible refine H2.out.mono ?_); rintro e w' ⟨rfl, rfl⟩; clear H2))
    go_ret
    exact ⟨by simp [e1], rfl⟩
end Go.Proofs.YtcmfflfgegadjaaDoor
