/- A quotient of numbers, bit by bit: plain arithmetic. -/
import Derived.Test.YtapnnnciaagbdaaNatPlain2
import Derived.Laws.BitsAllLaws
namespace Go.Proofs.Ytapnnnciaagbdaa

/-- twice a list of limbs, and a bit more: the first k limbs, and the bit that is carried -/
def twP (xs : List Nat) (bit : Nat) : Nat → List Nat × Nat
  | 0 => ([], bit)
  | k + 1 =>
    let p := twP xs bit k
    let s := 2 * xs.getD k 0 + p.2
    (p.1 ++ [s % 4294967296], s / 4294967296)

theorem twP_len (xs : List Nat) (b k : Nat) : (twP xs b k).1.length = k := by
  induction k with
  | zero => rfl
  | succ k ih => simp [twP, ih]
theorem twP_lim (xs : List Nat) (b k : Nat) : Lim (twP xs b k).1 := by
  induction k with
  | zero => exact Lim.nil
  | succ k ih => exact ih.append (Lim.mk (Nat.mod_lt _ (by decide)) Lim.nil)
theorem twP_carry (xs : List Nat) (b : Nat) (hb : b ≤ 1) (hx : Lim xs) (k : Nat) : (twP xs b k).2 ≤ 1 := by
  induction k with
  | zero => simpa [twP] using hb
  | succ k ih =>
    have := hx.getD k
    simp only [twP]
    omega
theorem twP_val (xs : List Nat) (b k : Nat) : val (twP xs b k).1 + 4294967296 ^ k * (twP xs b k).2 = 2 * val (xs.take k) + b := by
  induction k with
  | zero => simp [twP, val]
  | succ k ih =>
    rw [val_take_succ]
    simp only [twP]
    rw [val_snoc, twP_len, Nat.pow_succ]
    generalize (twP xs b k).1 = qs at *
    generalize (twP xs b k).2 = c at *
    generalize xs.getD k 0 = x at *
    generalize (4294967296 : Nat) ^ k = B at *
    have e : 4294967296 * ((2 * x + c) / 4294967296) + (2 * x + c) % 4294967296 = 2 * x + c := Nat.div_add_mod _ _
    have : B * ((2 * x + c) % 4294967296) + B * 4294967296 * ((2 * x + c) / 4294967296) = B * (2 * x) + B * c := by
      rw [Nat.mul_assoc, ← Nat.mul_add, Nat.add_comm, e, Nat.mul_add]
    have e2 : B * (2 * x) = 2 * (B * x) := by rw [← Nat.mul_assoc, Nat.mul_comm B 2, Nat.mul_assoc]
    rw [Nat.mul_add]
    omega
theorem twP_all (xs : List Nat) (b : Nat) : val ((twP xs b xs.length).1 ++ [(twP xs b xs.length).2]) = 2 * val xs + b := by
  rw [val_snoc, twP_len, twP_val, List.take_length]

/-- a bit of a number, out of its limb -/
theorem limb_of (xs : List Nat) (lx : Lim xs) (j : Nat) : xs.getD j 0 = val xs / 4294967296 ^ j % 4294967296 := by
  by_cases h : j < xs.length
  · have h1 := val_split xs j (by omega)
    have h2 : val (xs.take j) < 4294967296 ^ j := by
      have := val_lt _ (lx.take j)
      rwa [List.length_take, Nat.min_eq_left (by omega)] at this
    rw [h1, Nat.add_mul_div_left _ _ (Nat.pow_pos (by decide)), Nat.div_eq_of_lt h2, Nat.zero_add, List.drop_eq_getElem_cons h]
    simp only [val]
    have := lx _ (List.getElem_mem h)
    rw [Nat.add_mul_mod_self_left, Nat.mod_eq_of_lt this]
    simp [List.getElem?_eq_getElem h]
  · have h1 : xs.getD j 0 = 0 := by simp [List.getElem?_eq_none (show xs.length ≤ j by omega)]
    have h2 := val_lt _ lx
    have h3 : (4294967296 : Nat) ^ xs.length ≤ 4294967296 ^ j := Nat.pow_le_pow_right (by decide) (by omega)
    rw [h1, Nat.div_eq_of_lt (by omega)]

theorem bit_of (xs : List Nat) (lx : Lim xs) (i : Nat) : xs.getD (i / 32) 0 / 2 ^ (i % 32) % 2 = val xs / 2 ^ i % 2 := by
  rw [limb_of xs lx, show (4294967296 : Nat) ^ (i / 32) = 2 ^ (32 * (i / 32)) from by rw [Nat.pow_mul]]
  have hi : i = 32 * (i / 32) + i % 32 := by omega
  have hr : i % 32 < 32 := Nat.mod_lt _ (by decide)
  generalize i / 32 = j at *
  generalize i % 32 = r at *
  subst hi
  rw [Nat.pow_add, ← Nat.div_div_eq_div_mul]
  generalize val xs / 2 ^ (32 * j) = v
  have h1 := Nat.testBit_mod_two_pow v 32 r
  rw [Nat.testBit_eq_decide_div_mod_eq, Nat.testBit_eq_decide_div_mod_eq] at h1
  simp only [hr, decide_true, Bool.true_and, decide_eq_decide] at h1
  have h2 : (2 : Nat) ^ 32 = 4294967296 := by decide
  rw [h2] at h1
  have h3 := Nat.mod_lt (v % 4294967296 / 2 ^ r) (show 0 < 2 by decide)
  have h4 := Nat.mod_lt (v / 2 ^ r) (show 0 < 2 by decide)
  omega

/-- one bit of the quotient -/
theorem quo_step (a b i : Nat) (hb : 0 < b) :
    let r := a / 2 ^ (i + 1) % b
    let r2 := 2 * r + a / 2 ^ i % 2
    (b ≤ r2 → a / 2 ^ i % b = r2 - b ∧ a / 2 ^ i / b = 2 * (a / 2 ^ (i + 1) / b) + 1) ∧
    (r2 < b → a / 2 ^ i % b = r2 ∧ a / 2 ^ i / b = 2 * (a / 2 ^ (i + 1) / b)) := by
  intro r r2
  have e1 : a / 2 ^ (i + 1) = a / 2 ^ i / 2 := by rw [Nat.pow_succ, Nat.div_div_eq_div_mul]
  have hr : r < b := Nat.mod_lt _ hb
  have h2 : a / 2 ^ i = 2 * (a / 2 ^ (i + 1)) + a / 2 ^ i % 2 := by rw [e1]; omega
  have h3 : a / 2 ^ (i + 1) = b * (a / 2 ^ (i + 1) / b) + r := (Nat.div_add_mod _ _).symm
  have hbit : a / 2 ^ i % 2 < 2 := Nat.mod_lt _ (by decide)
  have hr2 : r2 = 2 * r + a / 2 ^ i % 2 := rfl
  generalize a / 2 ^ (i + 1) / b = q at *
  clear_value r r2
  have h4 : a / 2 ^ i = b * (2 * q) + r2 := by
    rw [h2, h3, Nat.mul_add, hr2, ← Nat.mul_assoc, Nat.mul_comm 2 b, Nat.mul_assoc]
    omega
  constructor
  · intro hle
    have h5 : a / 2 ^ i = b * (2 * q + 1) + (r2 - b) := by rw [h4, Nat.mul_add, Nat.mul_one]; omega
    rw [h5]
    constructor
    · rw [Nat.mul_add_mod, Nat.mod_eq_of_lt (by omega)]
    · rw [Nat.mul_add_div hb, Nat.div_eq_of_lt (by omega), Nat.add_zero]
  · intro hlt
    rw [h4]
    constructor
    · rw [Nat.mul_add_mod, Nat.mod_eq_of_lt hlt]
    · rw [Nat.mul_add_div hb, Nat.div_eq_of_lt hlt, Nat.add_zero]

theorem val_set (qs : List Nat) (j t : Nat) (hj : j < qs.length) : val (qs.set j (qs.getD j 0 + t)) = val qs + 4294967296 ^ j * t := by
  induction qs generalizing j with
  | nil => simp at hj
  | cons q qs ih =>
    cases j with
    | zero => simp [val]; omega
    | succ j =>
      have := ih j (by simpa using hj)
      simp only [List.set_cons_succ, List.getD_cons_succ, val, this, Nat.pow_succ, Nat.mul_add]
      rw [← Nat.mul_assoc, Nat.mul_comm 4294967296 (4294967296 ^ j)]
      omega

/-- a bit is set in a limb where it was not -/
theorem set_bit (qs : List Nat) (lq : Lim qs) (i : Nat) (hi : i / 32 < qs.length) (q : Nat) (hq : val qs = q * 2 ^ (i + 1)) :
    qs.getD (i / 32) 0 ||| 2 ^ (i % 32) = qs.getD (i / 32) 0 + 2 ^ (i % 32) ∧ qs.getD (i / 32) 0 + 2 ^ (i % 32) < 4294967296 ∧
    val (qs.set (i / 32) (qs.getD (i / 32) 0 + 2 ^ (i % 32))) = val qs + 2 ^ i := by
  have hl := lq.getD (i / 32)
  have hbit := bit_of qs lq i
  have hz : val qs / 2 ^ i % 2 = 0 := by
    rw [hq, Nat.pow_succ, ← Nat.mul_assoc, Nat.mul_comm q, Nat.mul_assoc, Nat.mul_div_cancel_left _ (Nat.two_pow_pos i)]
    omega
  rw [hz] at hbit
  have hr : i % 32 < 32 := Nat.mod_lt _ (by decide)
  have hi2 : 2 ^ i = 4294967296 ^ (i / 32) * 2 ^ (i % 32) := by
    rw [show (4294967296 : Nat) ^ (i / 32) = 2 ^ (32 * (i / 32)) from by rw [Nat.pow_mul], ← Nat.pow_add, show 32 * (i / 32) + i % 32 = i from by omega]
  refine ⟨?_, ?_, by rw [val_set qs _ _ hi, hi2]⟩
  all_goals
    generalize qs.getD (i / 32) 0 = x at *
    generalize i % 32 = r at *
    have hM : (2 : Nat) ^ (r + 1) = 2 * 2 ^ r := by rw [Nat.pow_succ, Nat.mul_comm]
    have hlow : x % 2 ^ (r + 1) < 2 ^ r := by
      rw [Nat.mod_pow_succ, hbit, Nat.mul_zero, Nat.add_zero]
      exact Nat.mod_lt _ (Nat.two_pow_pos r)
    have hsum : 2 ^ (r + 1) * (x / 2 ^ (r + 1)) + x % 2 ^ (r + 1) = x := Nat.div_add_mod _ _
    have hp := Nat.two_pow_pos r
  · have e1 : (2 ^ (r + 1) * (x / 2 ^ (r + 1))) % 2 ^ (r + 1) = 0 := Nat.mul_mod_right _ _
    have j1 := nat_join (r + 1) (2 ^ (r + 1) * (x / 2 ^ (r + 1))) (x % 2 ^ (r + 1)) e1 (by omega)
    have j2 := nat_join r (2 ^ r) (x % 2 ^ (r + 1)) (Nat.mod_self _) hlow
    have j3 := nat_join (r + 1) (2 ^ (r + 1) * (x / 2 ^ (r + 1))) (2 ^ r + x % 2 ^ (r + 1)) e1 (by omega)
    rw [hsum] at j1
    rw [← j1, Nat.or_assoc, Nat.or_comm (x % 2 ^ (r + 1)), j2, j3, j1]
    omega
  · have e : (4294967296 : Nat) = 2 ^ (r + 1) * 2 ^ (31 - r) := by
      rw [← Nat.pow_add, show r + 1 + (31 - r) = 32 from by omega]
    have hlt : 2 ^ (r + 1) * (x / 2 ^ (r + 1)) < 2 ^ (r + 1) * 2 ^ (31 - r) := by rw [← e]; omega
    have h1 : x / 2 ^ (r + 1) < 2 ^ (31 - r) := Nat.lt_of_mul_lt_mul_left hlt
    have h2 : 2 ^ (r + 1) * (x / 2 ^ (r + 1) + 1) ≤ 2 ^ (r + 1) * 2 ^ (31 - r) := Nat.mul_le_mul_left _ h1
    rw [← e, Nat.mul_add, Nat.mul_one] at h2
    omega

end Go.Proofs.Ytapnnnciaagbdaa
