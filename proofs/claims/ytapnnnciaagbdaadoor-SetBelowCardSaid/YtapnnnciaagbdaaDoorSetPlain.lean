/- set: sets of numbers below 32, as numbers: plain. -/
import Derived.Lib.TrailingZeros
import Derived.Lib.BitFns
namespace Go.Proofs.YtapnnnciaagbdaaDoor
set_option linter.unusedVariables false
set_option linter.unusedSimpArgs false

/-- the set of one number; of many; its members -/
def bitN (n : Int) : Nat := if 0 ≤ n ∧ n < 32 then 2 ^ n.toNat else 0
def ofN (l : List Int) : Nat := l.foldl (fun s n => s ||| bitN n) 0
def hasN (s : Nat) (n : Int) : Bool := decide (0 ≤ n ∧ n < 32) && s.testBit n.toNat
def memsN (s : Nat) : List Nat := (List.range 32).filter (fun n => s.testBit n)
def countN (s : Nat) : Nat := (memsN s).length
def leastN (s : Nat) : Int := match memsN s with | [] => -1 | n :: _ => (n : Int)
def belowS (n : Int) : Nat := 2 ^ (min n 32).toNat - 1

theorem bitN_lt (n : Int) : bitN n < 4294967296 := by
  unfold bitN
  split
  · rename_i h
    have := Nat.pow_lt_pow_right (a := 2) (by decide) (show n.toNat < 32 by omega)
    simpa using this
  · omega
theorem or_lt32 {a b : Nat} (ha : a < 4294967296) (hb : b < 4294967296) : a ||| b < 4294967296 := Nat.or_lt_two_pow (n := 32) ha hb
theorem ofN_snoc (l : List Int) (n : Int) : ofN (l ++ [n]) = ofN l ||| bitN n := by simp [ofN]
theorem foldl_lt (l : List Int) (s : Nat) (hs : s < 4294967296) : l.foldl (fun s n => s ||| bitN n) s < 4294967296 := by
  induction l generalizing s with
  | nil => exact hs
  | cons n l ih => exact ih _ (or_lt32 hs (bitN_lt n))
theorem ofN_lt (l : List Int) : ofN l < 4294967296 := foldl_lt l 0 (by decide)

theorem and_pow (s k : Nat) : s &&& 2 ^ k = if s.testBit k then 2 ^ k else 0 := by
  apply Nat.eq_of_testBit_eq
  intro i
  rw [Nat.testBit_and, Nat.testBit_two_pow]
  by_cases h : k = i
  · subst h
    cases hb : s.testBit k <;> simp
  · cases hb : s.testBit k <;> simp [h, Nat.testBit_two_pow]

/-- 's & bit(n) != 0' -/
theorem and_bit (s : Nat) (n : Int) : (s &&& bitN n != 0) = hasN s n := by
  unfold bitN hasN
  split
  · rename_i h
    rw [decide_eq_true h, Bool.true_and, and_pow]
    have hp := Nat.two_pow_pos n.toNat
    cases hb : s.testBit n.toNat
    · simp
    · simp only [if_true, bne_iff_ne]
      omega
  · rename_i h
    rw [decide_eq_false h]
    simp

theorem test_big (s : Nat) (hs : s < 4294967296) (i : Nat) (hi : 32 ≤ i) : s.testBit i = false :=
  Nat.testBit_lt_two_pow (Nat.lt_of_lt_of_le hs (by simpa using Nat.pow_le_pow_right (n := 2) (by decide) hi))

theorem mems_mem (s : Nat) (n : Nat) : n ∈ memsN s ↔ n < 32 ∧ s.testBit n = true := by simp [memsN]

/-- the lowest bit taken off -/
theorem sub_low (k m : Nat) : (2 ^ k * (2 * m + 1)) &&& (2 ^ k * (2 * m + 1) - 1) = 2 ^ k * (2 * m) := by
  apply Nat.eq_of_testBit_eq
  intro i
  have e : 2 ^ k * (2 * m + 1) - 1 = 2 ^ k * (2 * m) + (2 ^ k - 1) := by
    have := Nat.two_pow_pos k
    rw [Nat.mul_add, Nat.mul_one]; omega
  rw [Nat.testBit_and, e, Nat.testBit_two_pow_mul, Nat.testBit_two_pow_mul, Nat.testBit_two_pow_mul_add _ (by have := Nat.two_pow_pos k; omega)]
  by_cases h : i < k
  · simp [h, Nat.not_le.2 h]
  · have h' : k ≤ i := by omega
    simp only [h', decide_true, Bool.true_and, h, if_false]
    obtain ⟨j, rfl⟩ : ∃ j, i = k + j := ⟨i - k, by omega⟩
    rw [Nat.add_sub_cancel_left]
    cases j with
    | zero => simp [Nat.testBit_zero]
    | succ j =>
      rw [Nat.testBit_succ, Nat.testBit_succ]
      have d1 : (2 * m + 1) / 2 = m := by omega
      have d2 : 2 * m / 2 = m := by omega
      rw [d1, d2, Bool.and_self]

theorem filter_range_split (p : Nat → Bool) (k n : Nat) (hk : k < n) (h0 : ∀ i, i < k → p i = false) (h1 : p k = true) :
    (List.range n).filter p = k :: ((List.range n).filter (fun i => p i && decide (i ≠ k))) := by
  obtain ⟨d, rfl⟩ : ∃ d, n = k + (d + 1) := ⟨n - k - 1, by omega⟩
  have e : List.range (k + (d + 1)) = List.range k ++ k :: (List.range d).map (fun i => k + 1 + i) := by
    rw [List.range_add, List.range_succ_eq_map]
    simp [Function.comp_def]
    intro a _; omega
  have a1 : (List.range k).filter p = [] := List.filter_eq_nil_iff.2 fun i hi => by simp [h0 i (List.mem_range.1 hi)]
  have a2 : (List.range k).filter (fun i => p i && decide (i ≠ k)) = [] := List.filter_eq_nil_iff.2 fun i hi => by simp [h0 i (List.mem_range.1 hi)]
  rw [e, List.filter_append, List.filter_append, a1, a2, List.filter_cons, List.filter_cons, if_pos h1]
  simp only [List.nil_append, ne_eq, not_true_eq_false, decide_false, Bool.and_false]
  congr 1
  apply List.filter_congr
  intro i hi
  obtain ⟨j, _, rfl⟩ := List.mem_map.1 hi
  have : k + 1 + j ≠ k := by omega
  simp [this]

theorem low_bits (s : Nat) (h0 : s ≠ 0) (hs : s < 4294967296) :
    Lib.ctz 32 s < 32 ∧ (∀ i, i < Lib.ctz 32 s → s.testBit i = false) ∧ s.testBit (Lib.ctz 32 s) = true ∧ (∀ i, (s &&& (s - 1)).testBit i = (s.testBit i && decide (i ≠ Lib.ctz 32 s))) ∧ s &&& (s - 1) < s := by
  obtain ⟨m, hm, hk⟩ := Lib.ctzFrom_spec 32 s (by omega) hs
  have e : Lib.ctz 32 s = Lib.ctzFrom 32 s := by simp [Lib.ctz, h0]
  rw [e]
  generalize Lib.ctzFrom 32 s = k at *
  have hsub := sub_low k m
  rw [← hm] at hsub
  have hp := Nat.two_pow_pos k
  refine ⟨hk, fun i hi => ?_, ?_, fun i => ?_, ?_⟩
  · rw [hm, Nat.testBit_two_pow_mul]
    simp [Nat.not_le.2 hi]
  · rw [hm, Nat.testBit_two_pow_mul]
    simp [Nat.testBit_zero]
  · rw [hsub, Nat.testBit_two_pow_mul, hm, Nat.testBit_two_pow_mul]
    by_cases h : k ≤ i
    · simp only [h, decide_true, Bool.true_and]
      obtain ⟨j, rfl⟩ : ∃ j, i = k + j := ⟨i - k, by omega⟩
      rw [Nat.add_sub_cancel_left]
      cases j with
      | zero => simp [Nat.testBit_zero]
      | succ j =>
        rw [Nat.testBit_succ, Nat.testBit_succ]
        have d1 : (2 * m + 1) / 2 = m := by omega
        have d2 : 2 * m / 2 = m := by omega
        have d3 : k + (j + 1) ≠ k := by omega
        simp [d1, d2, d3]
    · simp [h]
  · rw [hsub]
    have : 2 ^ k * (2 * m) < 2 ^ k * (2 * m + 1) := Nat.mul_lt_mul_of_pos_left (by omega) hp
    omega

/-- the members: the least one, and those of what is left -/
theorem mems_step (s : Nat) (h0 : s ≠ 0) (hs : s < 4294967296) : memsN s = Lib.ctz 32 s :: memsN (s &&& (s - 1)) := by
  obtain ⟨hk, h1, h2, h3, _⟩ := low_bits s h0 hs
  unfold memsN
  rw [filter_range_split (fun i => s.testBit i) (Lib.ctz 32 s) 32 hk h1 h2]
  congr 1
  apply List.filter_congr
  intro i _
  rw [h3]
theorem mems_zero : memsN 0 = [] := by
  unfold memsN
  exact List.filter_eq_nil_iff.2 fun i _ => by simp

theorem least_step (s : Nat) (h0 : s ≠ 0) (hs : s < 4294967296) : leastN s = (Lib.ctz 32 s : Int) := by
  unfold leastN
  rw [mems_step s h0 hs]

/-- bytes' bits -/
theorem pop8_mems : ∀ n : Fin 256, Lib.pop8 (n.val : Int) = (((List.range 8).filter (fun i => n.val.testBit i)).length : Int) := by decide +kernel

theorem range_bytes (p : Nat → Bool) : ((List.range 32).filter p).length = ((List.range 8).filter p).length + ((List.range 8).filter (fun i => p (8 + i))).length + ((List.range 8).filter (fun i => p (16 + i))).length + ((List.range 8).filter (fun i => p (24 + i))).length := by
  have e : List.range 32 = List.range 8 ++ (List.range 8).map (fun i => 8 + i) ++ (List.range 8).map (fun i => 16 + i) ++ (List.range 8).map (fun i => 24 + i) := by decide
  rw [e, List.filter_append, List.filter_append, List.filter_append, List.length_append, List.length_append, List.length_append, List.filter_map, List.filter_map, List.filter_map, List.length_map, List.length_map, List.length_map]
  rfl

theorem byte_count (s a : Nat) (b : Nat) (hb : b = s / 2 ^ a % 256) : ((List.range 8).filter (fun i => s.testBit (a + i))).length = (Lib.pop8 (b : Int)).toNat := by
  have hlt : b < 256 := by omega
  have h := pop8_mems ⟨b, hlt⟩
  simp only at h
  rw [h, Int.toNat_natCast]
  congr 1
  apply List.filter_congr
  intro i hi
  have hi' := List.mem_range.1 hi
  rw [hb, show (256 : Nat) = 2 ^ 8 from rfl, Nat.testBit_mod_two_pow, Nat.testBit_div_two_pow, Nat.add_comm]
  simp [hi']

theorem count_bytes (s : Nat) (hs : s < 4294967296) :
    (countN s : Int) = Lib.pop8 ((s / 16777216 : Nat) : Int) + Lib.pop8 ((s / 65536 % 256 : Nat) : Int) + Lib.pop8 ((s / 256 % 256 : Nat) : Int) + Lib.pop8 ((s % 256 : Nat) : Int) := by
  have p0 : ∀ n : Nat, n < 256 → (0 : Int) ≤ Lib.pop8 (n : Int) := fun n hn => by rw [pop8_mems ⟨n, hn⟩]; omega
  have q0 := p0 (s / 16777216) (by omega)
  have q1 := p0 (s / 65536 % 256) (by omega)
  have q2 := p0 (s / 256 % 256) (by omega)
  have q3 := p0 (s % 256) (by omega)
  have a0 := byte_count s 0 (s % 256) (by simp)
  have a1 := byte_count s 8 (s / 256 % 256) rfl
  have a2 := byte_count s 16 (s / 65536 % 256) rfl
  have a3 := byte_count s 24 (s / 16777216) (by rw [show (2 : Nat) ^ 24 = 16777216 from rfl]; omega)
  unfold countN memsN
  rw [range_bytes, a1, a2, a3]
  simp only [Nat.zero_add] at a0
  rw [a0]
  omega
end Go.Proofs.YtapnnnciaagbdaaDoor
