/- draw: a number of words: plain arithmetic. -/
import Derived.Test.YtapnnnciaagbdaaDrW1
namespace Go.Proofs.Ytapnnnciaagbdaa

/-- the words of a try, so many bits of them: the first i -/
def maskP (k : Nat) (ws : List Nat) : Nat → List Nat
  | 0 => []
  | i + 1 => maskP k ws i ++ [if k < 32 * i + 32 then ws.getD i 0 % 2 ^ (k - 32 * i) else ws.getD i 0]

theorem maskP_len (k : Nat) (ws : List Nat) (i : Nat) : (maskP k ws i).length = i := by
  induction i with
  | zero => rfl
  | succ i ih => simp [maskP, ih]
theorem maskP_lim (k : Nat) (ws : List Nat) (lw : Lim ws) (i : Nat) : Lim (maskP k ws i) := by
  induction i with
  | zero => exact Lim.nil
  | succ i ih =>
    refine ih.append (Lim.mk ?_ Lim.nil)
    have := lw.getD i
    split
    · exact Nat.lt_of_le_of_lt (Nat.mod_le _ _) this
    · exact this
theorem maskP_take (k : Nat) (ws : List Nat) (i : Nat) (hi : i ≤ ws.length) (hk : 32 * i ≤ k) : maskP k ws i = ws.take i := by
  induction i with
  | zero => rfl
  | succ i ih =>
    rw [maskP, ih (by omega) (by omega), if_neg (by omega), List.take_add_one, List.getElem?_eq_getElem (by omega)]
    simp [List.getElem?_eq_getElem (show i < ws.length by omega)]

/-- a try's words give the number's lowest bits -/
theorem maskP_val (k : Nat) (ws : List Nat) (lw : Lim ws) (h0 : 0 < ws.length) (h1 : 32 * (ws.length - 1) < k) (h2 : k ≤ 32 * ws.length) :
    val (maskP k ws ws.length) = val ws % 2 ^ k := by
  obtain ⟨l, hl⟩ : ∃ l, ws.length = l + 1 := ⟨ws.length - 1, by omega⟩
  have e1 := maskP_take k ws l (by omega) (by omega)
  have e2 : val ws = val (ws.take (l + 1)) := by rw [← hl, List.take_length]
  have hlt := val_lt _ (lw.take l)
  rw [List.length_take, Nat.min_eq_left (by omega)] at hlt
  have hy := lw.getD l
  have hp : (4294967296 : Nat) ^ l = 2 ^ (32 * l) := by rw [Nat.pow_mul]
  have hk : (2 : Nat) ^ k = 4294967296 ^ l * 2 ^ (k - 32 * l) := by rw [hp, ← Nat.pow_add]; congr 1; omega
  rw [e2, val_take_succ, hl, maskP, e1, val_snoc, List.length_take, Nat.min_eq_left (by omega), hk]
  generalize ws.getD l 0 = y at *
  generalize val (ws.take l) = a at *
  have e3 : (if k < 32 * l + 32 then y % 2 ^ (k - 32 * l) else y) = y % 2 ^ (k - 32 * l) := by
    split
    · rfl
    · rw [show k - 32 * l = 32 from by omega]
      exact (Nat.mod_eq_of_lt hy).symm
  rw [e3]
  generalize (4294967296 : Nat) ^ l = B at *
  generalize (2 : Nat) ^ (k - 32 * l) = M at *
  rw [Nat.mod_mul, Nat.add_mul_mod_self_left, Nat.mod_eq_of_lt hlt, Nat.add_mul_div_left _ _ (by omega), Nat.div_eq_of_lt hlt, Nat.zero_add]

/-- a number of a try's words -/
def oneOf (k : Nat) (ws : List Nat) : List Nat := limbs (val ws % 2 ^ k)
theorem oneOf_mask (k : Nat) (ws : List Nat) (lw : Lim ws) (h0 : 0 < ws.length) (h1 : 32 * (ws.length - 1) < k) (h2 : k ≤ 32 * ws.length) :
    neatL (maskP k ws ws.length) = oneOf k ws := by
  rw [neatL_limbs _ (maskP_lim k ws lw _), maskP_val k ws lw h0 h1 h2]
  rfl

/-- one try after the other -/
def drawF (v k n : Nat) : Nat → Nat → List Nat → List Nat × Nat × Nat
  | 0, _, _ => ([], 0, 12)
  | f + 1, at_, ws =>
    if n ≤ ws.length then
      if val (ws.take n) % 2 ^ k < v then (limbs (val (ws.take n) % 2 ^ k), at_ + n, 0) else drawF v k n f (at_ + n) (ws.drop n)
    else ([], 0, 12)
/-- what any words draw below any bound -/
def belowN (xs ws : List Nat) : List Nat × Nat × Nat :=
  if ¬ (rightB xs = true ∧ xs.length ≠ 0) then ([], 0, 1)
  else if 1000 < ws.length then ([], 0, 5)
  else if needN xs = 0 then ([], 0, 0)
  else drawF (val xs) (sizeN xs) (needN xs) (ws.length + 1) 0 ws

theorem need_bits (xs : List Nat) (h : needN xs ≠ 0) : 32 * (needN xs - 1) < sizeN xs ∧ sizeN xs ≤ 32 * needN xs := by
  unfold needN at *
  omega
end Go.Proofs.Ytapnnnciaagbdaa
