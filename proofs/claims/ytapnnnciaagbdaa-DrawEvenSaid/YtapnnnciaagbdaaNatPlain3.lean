/- Digits of numbers, and numbers of digits; a list turned round in place: plain. -/
import Derived.Test.YtapnnnciaagbdaaNatPlain
namespace Go.Proofs.Ytapnnnciaagbdaa

/-- decimal digits as bytes, the lowest first -/
def digF : Nat → Nat → List Nat
  | 0, _ => []
  | f + 1, n => (48 + n % 10) :: (if n / 10 = 0 then [] else digF f (n / 10))
def digR (n : Nat) : List Nat := digF (n.log2 + 1) n

theorem digF_enough (f : Nat) : ∀ (g n : Nat), n < 2 ^ f → n < 2 ^ g → f ≠ 0 → g ≠ 0 → digF f n = digF g n := by
  induction f with
  | zero => intro g n _ _ h; exact absurd rfl h
  | succ f ih =>
    intro g n hf hg _ hg0
    cases g with
    | zero => exact absurd rfl hg0
    | succ g =>
      unfold digF
      by_cases h0 : n / 10 = 0
      · rw [if_pos h0, if_pos h0]
      · rw [if_neg h0, if_neg h0]
        have h1 : n / 10 < 2 ^ f := by rw [Nat.pow_succ] at hf; omega
        have h2 : n / 10 < 2 ^ g := by rw [Nat.pow_succ] at hg; omega
        have hf0 : f ≠ 0 := by rintro rfl; simp at h1; omega
        have hg0 : g ≠ 0 := by rintro rfl; simp at h2; omega
        rw [ih g _ h1 h2 hf0 hg0]

theorem digR_step (n : Nat) : digR n = (48 + n % 10) :: (if n / 10 = 0 then [] else digR (n / 10)) := by
  unfold digR
  rw [digF]
  by_cases h0 : n / 10 = 0
  · rw [if_pos h0, if_pos h0]
  · rw [if_neg h0, if_neg h0]
    have h1 : n < 2 ^ (n.log2 + 1) := Nat.lt_log2_self
    have h2 : n / 10 < 2 ^ ((n / 10).log2 + 1) := Nat.lt_log2_self
    have hl : n.log2 ≠ 0 := by intro h; rw [h] at h1; omega
    rw [digF_enough n.log2 ((n / 10).log2 + 1) _ (by rw [Nat.pow_succ] at h1; omega) h2 hl (by omega)]

/-- a number's digits -/
def textN (xs : List Nat) : List Nat := if rightB xs then (digR (val xs)).reverse else []

theorem digR_len (n k : Nat) (h : n < 2 ^ (k + 1)) : (digR n).length ≤ k + 1 := by
  induction k generalizing n with
  | zero =>
    rw [digR_step, if_pos (by omega)]
    simp
  | succ k ih =>
    rw [digR_step]
    by_cases h0 : n / 10 = 0
    · rw [if_pos h0]; simp
    · rw [if_neg h0]
      have := ih (n / 10) (by rw [Nat.pow_succ] at h; omega)
      simp only [List.length_cons]
      omega

theorem digR_len_big (n : Nat) (h : n < big) : (digR n).length ≤ 1024 := by
  exact digR_len n 1023 (big_eq2 ▸ h)

theorem digR_byte (n : Nat) : ∀ k, n < 2 ^ k → ∀ c ∈ digR n, 48 ≤ c ∧ c ≤ 57 := by
  intro k
  induction k generalizing n with
  | zero =>
    intro h c hc
    simp at h
    subst h
    rw [digR_step] at hc
    simp at hc
    omega
  | succ k ih =>
    intro h c hc
    rw [digR_step] at hc
    rcases List.mem_cons.1 hc with rfl | hc
    · omega
    · by_cases h0 : n / 10 = 0
      · rw [if_pos h0] at hc; cases hc
      · rw [if_neg h0] at hc
        exact ih (n / 10) (by rw [Nat.pow_succ] at h; omega) c hc

/-- the number of digits -/
def numOf (l : List Nat) : Nat := l.foldl (fun a c => a * 10 + (c - 48)) 0

def digB (c : Nat) : Bool := decide (48 ≤ c) && decide (c ≤ 57)
/-- may it be a number's text? -/
def formB (l : List Nat) : Bool := l.length != 0 && !(l.getD 0 0 == 48 && decide (1 < l.length)) && l.all digB
def parseN (l : List Nat) : List Nat × Nat := if formB l then fitN (numOf l) else ([], 3)

theorem numOf_snoc (l : List Nat) (c : Nat) : numOf (l ++ [c]) = numOf l * 10 + (c - 48) := by simp [numOf]
theorem numOf_from (l : List Nat) (a : Nat) : a ≤ l.foldl (fun a c => a * 10 + (c - 48)) a := by
  induction l generalizing a with
  | nil => exact Nat.le_refl _
  | cons c t ih =>
    have := ih (a * 10 + (c - 48))
    simp only [List.foldl_cons]
    omega
theorem numOf_mono (l : List Nat) (k : Nat) : numOf (l.take k) ≤ numOf l := by
  have h : numOf l = (l.drop k).foldl (fun a c => a * 10 + (c - 48)) (numOf (l.take k)) := by
    unfold numOf
    rw [← List.foldl_append, List.take_append_drop]
  rw [h]
  exact numOf_from _ _

theorem numOf_take_succ (l : List Nat) (k : Nat) (h : k < l.length) : numOf (l.take (k + 1)) = numOf (l.take k) * 10 + (l.getD k 0 - 48) := by
  rw [List.take_succ_eq_append_getElem h, numOf_snoc]
  simp [List.getElem?_eq_getElem h]

/-! ### turning round in place -/

/-- k exchanges done -/
def revP (zs : List Nat) : Nat → List Nat
  | 0 => zs
  | k + 1 => ((revP zs k).set k (zs.getD (zs.length - 1 - k) 0)).set (zs.length - 1 - k) (zs.getD k 0)

theorem revP_len (zs : List Nat) (k : Nat) : (revP zs k).length = zs.length := by
  induction k with
  | zero => rfl
  | succ k ih => simp [revP, ih]

theorem revP_get (zs : List Nat) (k : Nat) (hk : 2 * k ≤ zs.length) (p : Nat) (hp : p < zs.length) :
    (revP zs k)[p]? = some (if p < k ∨ zs.length - 1 - p < k then zs.getD (zs.length - 1 - p) 0 else zs.getD p 0) := by
  induction k with
  | zero =>
    rw [if_neg (by omega)]
    simp [revP, List.getElem?_eq_getElem hp]
  | succ k ih =>
    have ih := ih (by omega)
    simp only [revP]
    rw [List.getElem?_set, List.length_set, revP_len]
    by_cases h1 : zs.length - 1 - k = p
    · rw [if_pos h1, if_pos (by omega), if_pos (by omega)]
      congr 2
      omega
    · rw [if_neg h1, List.getElem?_set, revP_len]
      by_cases h2 : k = p
      · rw [if_pos h2, if_pos (by omega), if_pos (by omega)]
        subst h2; rfl
      · rw [if_neg h2, ih]
        by_cases h3 : p < k ∨ zs.length - 1 - p < k
        · rw [if_pos h3, if_pos (by omega)]
        · rw [if_neg h3, if_neg (by omega)]

theorem revP_done (zs : List Nat) (k : Nat) (hk : 2 * k ≤ zs.length) (h : zs.length ≤ 2 * k + 1) : revP zs k = zs.reverse := by
  apply List.ext_getElem?
  intro p
  by_cases hp : p < zs.length
  · rw [revP_get zs k hk p hp, List.getElem?_reverse hp]
    by_cases h3 : p < k ∨ zs.length - 1 - p < k
    · rw [if_pos h3]
      simp [List.getElem?_eq_getElem (show zs.length - 1 - p < zs.length by omega)]
    · rw [if_neg h3]
      have : p = zs.length - 1 - p := by omega
      rw [← this]
      simp [List.getElem?_eq_getElem hp]
  · rw [List.getElem?_eq_none (by rw [revP_len]; omega), List.getElem?_eq_none (by simp; omega)]

end Go.Proofs.Ytapnnnciaagbdaa
