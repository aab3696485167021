/- Natural numbers as 64-bit floats: plain. -/
import Ieee.Arith
import Derived.Laws.FloatArith
namespace Go.Proofs.Ytcmfflfgegadjaa
open Ieee
set_option linter.unusedVariables false
set_option linter.unusedSimpArgs false

/-- the word of a natural number -/
def fN (n : Nat) : Nat := Ieee.double.nearest false n 0
/-- the rung of a number -/
def rungN (n : Nat) : Nat := (n.log2 + 1022) * 4503599627370496 + n * 2 ^ (52 - n.log2)
/-- a datum that stands for a natural number -/
def IsN (d : Datum) (n : Nat) : Prop := ∃ k : Nat, d = .number false (n * 2 ^ k) (-(k : Int))
theorem IsN.zero (k : Nat) : IsN (.number false 0 (-(k : Int))) 0 := ⟨k, by rw [Nat.zero_mul]⟩

theorem dbl_least : Ieee.double.leastPlace = -1074 := by decide
theorem dbl_binade : Ieee.double.binade = 4503599627370496 := by decide
theorem dbl_inf : Ieee.double.infRung = 9218868437227405312 := by decide
theorem dbl_sign : Ieee.double.signWeight = 9223372036854775808 := by decide

theorem mag_in (n : Nat) (h0 : 0 < n) (h : n < 9007199254740992) : n.log2 ≤ 52 ∧ 4503599627370496 ≤ n * 2 ^ (52 - n.log2) ∧ n * 2 ^ (52 - n.log2) < 9007199254740992 := by
  have hl : n.log2 ≤ 52 := by
    have := (Nat.log2_lt (by omega)).2 (show n < 2 ^ 53 by simpa using h)
    omega
  have h1 : 2 ^ n.log2 ≤ n := Nat.log2_self_le (by omega)
  have h2 : n < 2 ^ (n.log2 + 1) := Nat.lt_log2_self
  have e1 : 2 ^ n.log2 * 2 ^ (52 - n.log2) = 4503599627370496 := by rw [← Nat.pow_add, show n.log2 + (52 - n.log2) = 52 by omega]
  have e2 : 2 ^ (n.log2 + 1) * 2 ^ (52 - n.log2) = 9007199254740992 := by rw [← Nat.pow_add, show n.log2 + 1 + (52 - n.log2) = 53 by omega]
  have hp := Nat.two_pow_pos (52 - n.log2)
  exact ⟨hl, by rw [← e1]; exact Nat.mul_le_mul_right _ h1, by rw [← e2]; exact Nat.mul_lt_mul_of_pos_right h2 hp⟩

theorem log2_mul_pow (n k : Nat) (h : 0 < n) : (n * 2 ^ k).log2 = n.log2 + k := by
  have hp := Nat.two_pow_pos k
  have hne : n * 2 ^ k ≠ 0 := Nat.ne_of_gt (Nat.mul_pos h hp)
  refine (Nat.log2_eq_iff hne).2 ⟨?_, ?_⟩
  · rw [Nat.pow_add]; exact Nat.mul_le_mul_right _ (Nat.log2_self_le (by omega))
  · rw [show n.log2 + k + 1 = (n.log2 + 1) + k by omega, Nat.pow_add]; exact Nat.mul_lt_mul_of_pos_right Nat.lt_log2_self hp

/-- however a number is written, its word is the same -/
theorem nearest_scale (n k : Nat) (h0 : 0 < n) (h : n < 9007199254740992) : Ieee.double.nearest false (n * 2 ^ k) (-(k : Int)) = rungN n := by
  obtain ⟨hl, hm1, hm2⟩ := mag_in n h0 h
  have hp := Nat.two_pow_pos k
  have hne : n * 2 ^ k ≠ 0 := Nat.ne_of_gt (Nat.mul_pos h0 hp)
  unfold Format.nearest
  rw [if_neg hne]
  simp only [log2_mul_pow n k h0, dbl_least, dbl_binade, dbl_inf]
  have hlast : max (-(k : Int) + ((n.log2 + k : Nat) : Int) - (Ieee.double.fractionBits : Int)) (-1074) = (n.log2 : Int) - 52 := by
    have : (Ieee.double.fractionBits : Int) = 52 := rfl
    rw [this]; omega
  rw [hlast]
  have hcut : Toward.even.cut false ((n * 2 ^ k) <<< (-(k : Int) - ((n.log2 : Int) - 52)).toNat) ((n.log2 : Int) - 52 - -(k : Int)).toNat = n * 2 ^ (52 - n.log2) := by
    by_cases hd : k + n.log2 ≤ 52
    · have e1 : (-(k : Int) - ((n.log2 : Int) - 52)).toNat = 52 - n.log2 - k := by omega
      have e2 : ((n.log2 : Int) - 52 - -(k : Int)).toNat = 0 := by omega
      rw [e1, e2, Nat.shiftLeft_eq, Nat.mul_assoc, ← Nat.pow_add, show k + (52 - n.log2 - k) = 52 - n.log2 by omega]
      unfold Toward.cut
      simp [Nat.mod_one]
    · obtain ⟨d, hd2⟩ : ∃ d, d = k + n.log2 - 52 := ⟨_, rfl⟩
      have e1 : (-(k : Int) - ((n.log2 : Int) - 52)).toNat = 0 := by omega
      have e2 : ((n.log2 : Int) - 52 - -(k : Int)).toNat = d := by omega
      have e3 : n * 2 ^ k = n * 2 ^ (52 - n.log2) * 2 ^ d := by rw [Nat.mul_assoc, ← Nat.pow_add, show 52 - n.log2 + d = k by omega]
      rw [e1, e2, Nat.shiftLeft_zero, e3]
      unfold Toward.cut
      have hlg : (n * 2 ^ (52 - n.log2) * 2 ^ d).log2 = n.log2 + k := by rw [← e3]; exact log2_mul_pow n k h0
      rw [hlg, Nat.min_eq_left (by omega)]
      have hpd := Nat.two_pow_pos d
      simp only [Nat.shiftLeft_eq, Nat.one_mul, Nat.mul_mod_left, Nat.mul_div_cancel _ hpd, Nat.mul_zero]
      simp
  rw [hcut]
  have e4 : ((n.log2 : Int) - 52 - -1074).toNat = n.log2 + 1022 := by omega
  rw [e4, Nat.min_eq_left (by omega)]
  rfl

theorem fN_rung (n : Nat) (h0 : 0 < n) (h : n < 9007199254740992) : fN n = rungN n := by
  have := nearest_scale n 0 h0 h
  simpa [fN] using this
theorem fN_zero : fN 0 = 0 := by decide

theorem read_rung (n : Nat) (h0 : 0 < n) (h : n < 9007199254740992) : Ieee.double.read (rungN n) = .number false (n * 2 ^ (52 - n.log2)) (-((52 - n.log2 : Nat) : Int)) := by
  obtain ⟨hl, hm1, hm2⟩ := mag_in n h0 h
  unfold Format.read rungN
  generalize n * 2 ^ (52 - n.log2) = M at *
  simp only [dbl_sign, dbl_binade, dbl_inf, dbl_least]
  have a1 : ((n.log2 + 1022) * 4503599627370496 + M) / 9223372036854775808 % 2 = 0 := by omega
  have a2 : ((n.log2 + 1022) * 4503599627370496 + M) % 9223372036854775808 = (n.log2 + 1022) * 4503599627370496 + M := by omega
  rw [a1, a2, if_neg (by omega), if_pos (by omega)]
  have a3 : ((n.log2 + 1022) * 4503599627370496 + M) % 4503599627370496 = M - 4503599627370496 := by omega
  have a4 : ((n.log2 + 1022) * 4503599627370496 + M) / 4503599627370496 = n.log2 + 1023 := by omega
  rw [a3, a4]
  have a5 : 4503599627370496 + (M - 4503599627370496) = M := by omega
  have a6 : (-1074 : Int) + ((n.log2 + 1023 - 1 : Nat) : Int) = -((52 - n.log2 : Nat) : Int) := by omega
  rw [a5, a6]
  rfl

theorem read_fN (n : Nat) (h : n < 9007199254740992) : IsN (Ieee.double.read (fN n)) n := by
  rcases Nat.eq_zero_or_pos n with h0 | h0
  · subst h0
    rw [fN_zero, show Ieee.double.read 0 = .number false 0 (-((1074 : Nat) : Int)) from by decide]
    exact IsN.zero _
  · rw [fN_rung n h0 h, read_rung n h0 h]
    exact ⟨_, rfl⟩

theorem IsN.order {d e : Datum} {n m : Nat} (h : IsN d n) (k : IsN e m) : d.order e = some (compare n m) := by
  obtain ⟨a, rfl⟩ := h
  obtain ⟨b, rfl⟩ := k
  simp only [Datum.order, Ieee.signed, Bool.false_eq_true, if_false, Nat.shiftLeft_eq, Option.some.injEq]
  have e1 : ∀ (x a : Nat) (t : Int), t ≤ -(a : Int) → x * 2 ^ a * 2 ^ (-(a : Int) - t).toNat = x * 2 ^ (-t).toNat := fun x a t ht => by
    rw [Nat.mul_assoc, ← Nat.pow_add]
    congr 2
    omega
  rw [e1 n a _ (Int.min_le_left _ _), e1 m b _ (Int.min_le_right _ _)]
  have hp := Nat.two_pow_pos (-(min (-(a : Int)) (-(b : Int)))).toNat
  generalize 2 ^ (-(min (-(a : Int)) (-(b : Int)))).toNat = P at *
  have hc : ∀ x y : Nat, (x * P < y * P ↔ x < y) := fun x y => Nat.mul_lt_mul_right hp
  have he : ∀ x y : Nat, (x * P = y * P ↔ x = y) := fun x y => Nat.mul_right_cancel_iff hp
  simp only [compare, compareOfLessAndEq, Int.ofNat_lt, Int.ofNat_inj, hc, he]

theorem IsN.toInt {d : Datum} {n : Nat} (h : IsN d n) : d.toInt .zero = some (n : Int) := by
  obtain ⟨a, rfl⟩ := h
  have hp := Nat.two_pow_pos a
  simp only [Datum.toInt, Datum.integral, Ieee.signed, Bool.false_eq_true, if_false]
  have e1 : (-(a : Int)).toNat = 0 := by omega
  have e2 : (- -(a : Int)).toNat = a := by omega
  rw [e1, e2, Nat.shiftLeft_zero, Nat.shiftLeft_zero]
  unfold Toward.cut
  simp only [Bool.toNat_false, Nat.add_zero]
  rcases Nat.eq_zero_or_pos n with h0 | h0
  · subst h0; simp
  · rw [log2_mul_pow n a h0, Nat.min_eq_left (by omega), Nat.shiftLeft_eq, Nat.one_mul, Nat.mul_div_cancel _ hp]

theorem IsN.sum {d e : Datum} {n m : Nat} (h : IsN d n) (k : IsN e m) : ∃ f, d.sum e = some f ∧ IsN f (n + m) := by
  obtain ⟨a, rfl⟩ := h
  obtain ⟨b, rfl⟩ := k
  simp only [Datum.sum, Ieee.signed, Bool.false_eq_true, if_false, Nat.shiftLeft_eq, Bool.and_self, Option.some.injEq]
  have e1 : ∀ (x a : Nat) (t : Int), t ≤ -(a : Int) → x * 2 ^ a * 2 ^ (-(a : Int) - t).toNat = x * 2 ^ (-t).toNat := fun x a t ht => by
    rw [Nat.mul_assoc, ← Nat.pow_add]
    congr 2
    omega
  rw [e1 n a _ (Int.min_le_left _ _), e1 m b _ (Int.min_le_right _ _)]
  refine ⟨_, rfl, (-(min (-(a : Int)) (-(b : Int)))).toNat, ?_⟩
  generalize hP : 2 ^ (-(min (-(a : Int)) (-(b : Int)))).toNat = P
  have e2 : ((n * P : Nat) : Int) + ((m * P : Nat) : Int) = (((n + m) * P : Nat) : Int) := by rw [Nat.add_mul]; omega
  rw [e2, Int.natAbs_natCast]
  have e3 : (if (((n + m) * P : Nat) : Int) = 0 then false else decide ((((n + m) * P : Nat) : Int) < 0)) = false := by
    split
    · rfl
    · exact decide_eq_false (by have := Int.natCast_nonneg ((n + m) * P); omega)
  rw [e3]
  congr 1
  omega

/-- what is added is the sum's word -/
theorem write_isN {d : Datum} {n k : Nat} (hd : d = .number false (n * 2 ^ k) (-(k : Int))) (h : n < 9007199254740992) : Ieee.double.write d = fN n := by
  subst hd
  show Ieee.double.nearest false (n * 2 ^ k) (-(k : Int)) = fN n
  rcases Nat.eq_zero_or_pos n with h0 | h0
  · subst h0
    rw [Nat.zero_mul, fN_zero]
    unfold Format.nearest
    simp
    decide
  · rw [nearest_scale n k h0 h, fN_rung n h0 h]
end Go.Proofs.Ytcmfflfgegadjaa
