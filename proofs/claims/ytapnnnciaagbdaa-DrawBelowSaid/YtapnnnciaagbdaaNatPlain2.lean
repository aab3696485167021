/- Products and quotients of limbs: plain arithmetic. -/
import Derived.Test.YtapnnnciaagbdaaNatPlain
namespace Go.Proofs.Ytapnnnciaagbdaa

/-- the first k limbs of x times ys, more zs, and what is carried -/
def mulP (x : Nat) (ys zs : List Nat) : Nat → List Nat × Nat
  | 0 => ([], 0)
  | k + 1 =>
    let p := mulP x ys zs k
    let s := x * ys.getD k 0 + zs.getD k 0 + p.2
    (p.1 ++ [s % 4294967296], s / 4294967296)

theorem mulP_len (x : Nat) (ys zs : List Nat) (k : Nat) : (mulP x ys zs k).1.length = k := by
  induction k with
  | zero => rfl
  | succ k ih => simp [mulP, ih]
theorem mulP_lim (x : Nat) (ys zs : List Nat) (k : Nat) : Lim (mulP x ys zs k).1 := by
  induction k with
  | zero => exact Lim.nil
  | succ k ih => exact ih.append (Lim.mk (Nat.mod_lt _ (by decide)) Lim.nil)

theorem mul_bound {x y z c : Nat} (hx : x < 4294967296) (hy : y < 4294967296) (hz : z < 4294967296) (hc : c < 4294967296) : x * y + z + c < 18446744073709551616 := by
  have h1 : x * y ≤ 4294967295 * 4294967295 := Nat.mul_le_mul (by omega) (by omega)
  omega

theorem mulP_carry (x : Nat) (ys zs : List Nat) (hx : x < 4294967296) (hy : Lim ys) (hz : Lim zs) (k : Nat) : (mulP x ys zs k).2 < 4294967296 := by
  induction k with
  | zero => simp [mulP]
  | succ k ih =>
    have := mul_bound hx (hy.getD k) (hz.getD k) ih
    simp only [mulP]
    omega

theorem mulP_val (x : Nat) (ys zs : List Nat) (k : Nat) :
    val (mulP x ys zs k).1 + 4294967296 ^ k * (mulP x ys zs k).2 = x * val (ys.take k) + val (zs.take k) := by
  induction k with
  | zero => simp [mulP, val]
  | succ k ih =>
    rw [val_take_succ, val_take_succ]
    simp only [mulP]
    rw [val_snoc, mulP_len, Nat.pow_succ]
    generalize (mulP x ys zs k).1 = qs at *
    generalize (mulP x ys zs k).2 = c at *
    generalize ys.getD k 0 = y at *
    generalize zs.getD k 0 = z at *
    generalize (4294967296 : Nat) ^ k = B at *
    have e : 4294967296 * ((x * y + z + c) / 4294967296) + (x * y + z + c) % 4294967296 = x * y + z + c := Nat.div_add_mod _ _
    have : B * ((x * y + z + c) % 4294967296) + B * 4294967296 * ((x * y + z + c) / 4294967296) = B * (x * y) + B * z + B * c := by
      rw [Nat.mul_assoc, ← Nat.mul_add, Nat.add_comm, e, Nat.mul_add, Nat.mul_add]
    rw [Nat.mul_add]
    have e2 : x * (B * y) = B * (x * y) := by rw [← Nat.mul_assoc, Nat.mul_comm x B, Nat.mul_assoc]
    omega

/-- the buffer while a row is made -/
def mulBuf (x : Nat) (ys bs : List Nat) (i k : Nat) : List Nat := bs.take i ++ (mulP x ys (bs.drop i) k).1 ++ bs.drop (i + k)

theorem mulBuf_zero (x : Nat) (ys bs : List Nat) (i : Nat) : mulBuf x ys bs i 0 = bs := by simp [mulBuf, mulP]

theorem mulBuf_get (x : Nat) (ys bs : List Nat) (i k : Nat) (h : i + k < bs.length) : (mulBuf x ys bs i k)[i + k]? = bs[i + k]? := by
  unfold mulBuf
  have hl : (bs.take i ++ (mulP x ys (bs.drop i) k).1).length = i + k := by
    rw [List.length_append, List.length_take, mulP_len]; omega
  rw [List.getElem?_append_right (by omega), hl, Nat.sub_self, List.getElem?_drop, Nat.add_zero]

theorem mulBuf_set (x : Nat) (ys bs : List Nat) (i k s : Nat) (h : i + k < bs.length) :
    (mulBuf x ys bs i k).set (i + k) s = bs.take i ++ ((mulP x ys (bs.drop i) k).1 ++ [s]) ++ bs.drop (i + k + 1) := by
  unfold mulBuf
  have hl : (bs.take i ++ (mulP x ys (bs.drop i) k).1).length = i + k := by
    rw [List.length_append, List.length_take, mulP_len]; omega
  rw [List.set_append_right _ _ (by omega), hl, Nat.sub_self, List.drop_eq_getElem_cons h, List.set_cons_zero]
  simp

theorem mulBuf_succ (x : Nat) (ys bs : List Nat) (i k : Nat) (h : i + k < bs.length) :
    (mulBuf x ys bs i k).set (i + k) ((x * ys.getD k 0 + bs.getD (i + k) 0 + (mulP x ys (bs.drop i) k).2) % 4294967296) = mulBuf x ys bs i (k + 1) := by
  rw [mulBuf_set _ _ _ _ _ _ h]
  have : (bs.drop i).getD k 0 = bs.getD (i + k) 0 := by simp [List.getElem?_drop]
  simp only [mulBuf, mulP, this, Nat.add_assoc]

theorem mulBuf_len (x : Nat) (ys bs : List Nat) (i k : Nat) (h : i + k ≤ bs.length) : (mulBuf x ys bs i k).length = bs.length := by
  unfold mulBuf
  rw [List.length_append, List.length_append, List.length_take, List.length_drop, mulP_len]
  omega

theorem mulBuf_lim (x : Nat) (ys bs : List Nat) (i k : Nat) (h : Lim bs) : Lim (mulBuf x ys bs i k) :=
  ((h.take _).append (mulP_lim _ _ _ _)).append (h.drop _)

theorem drop_zeros_val (bs : List Nat) (j : Nat) (h : ∀ i, j ≤ i → bs.getD i 0 = 0) : val (bs.drop j) = 0 := by
  induction bs generalizing j with
  | nil => simp [val]
  | cons b t ih =>
    cases j with
    | zero =>
      have h0 := h 0 (Nat.le_refl _)
      simp at h0
      have := ih 0 (fun i _ => by have := h (i + 1) (by omega); simpa using this)
      simp [val, h0] at this ⊢
      omega
    | succ j =>
      simpa using ih j (fun i hi => by have := h (i + 1) (by omega); simpa using this)

theorem val_split (bs : List Nat) (i : Nat) (h : i ≤ bs.length) : val bs = val (bs.take i) + 4294967296 ^ i * val (bs.drop i) := by
  have : val (bs.take i ++ bs.drop i) = val (bs.take i) + 4294967296 ^ (bs.take i).length * val (bs.drop i) := val_append _ _
  rw [List.take_append_drop, List.length_take, Nat.min_eq_left h] at this
  exact this

/-- a row is done: its number has come to the buffer's; nothing stands behind it -/
theorem mul_row (x : Nat) (ys bs : List Nat) (i : Nat) (hlen : i + ys.length < bs.length) (hz : ∀ j, i + ys.length ≤ j → bs.getD j 0 = 0) :
    let out := (mulBuf x ys bs i ys.length).set (i + ys.length) (mulP x ys (bs.drop i) ys.length).2
    val out = val bs + 4294967296 ^ i * (x * val ys) ∧ out.length = bs.length ∧ ∀ j, i + 1 + ys.length ≤ j → out.getD j 0 = 0 := by
  have hv := mulP_val x ys (bs.drop i) ys.length
  have hs := val_split bs i (by omega)
  have hs2 := val_split (bs.drop i) ys.length (by rw [List.length_drop]; omega)
  have hd0 : val ((bs.drop i).drop ys.length) = 0 := by
    rw [List.drop_drop]
    exact drop_zeros_val bs _ (fun j hj => hz j (by omega))
  have hd1 : val (bs.drop (i + ys.length + 1)) = 0 := drop_zeros_val bs _ (fun j hj => hz j (by omega))
  rw [List.take_length] at hv
  refine ⟨?_, ?_, ?_⟩
  · rw [mulBuf_set _ _ _ _ _ _ hlen, val_append, val_append, val_snoc, hd1, List.length_take, Nat.min_eq_left (by omega), mulP_len, Nat.mul_zero, Nat.add_zero]
    rw [hs, hs2, hd0, Nat.mul_zero, Nat.add_zero, hv, Nat.mul_add]
    omega
  · rw [List.length_set, mulBuf_len _ _ _ _ _ (by omega)]
  · intro j hj
    rw [mulBuf_set _ _ _ _ _ _ hlen]
    have hl : (bs.take i ++ ((mulP x ys (bs.drop i) ys.length).1 ++ [(mulP x ys (bs.drop i) ys.length).2])).length = i + ys.length + 1 := by
      rw [List.length_append, List.length_append, List.length_take, mulP_len]; simp; omega
    rw [List.getD_eq_getElem?_getD, List.getElem?_append_right (by omega), hl, List.getElem?_drop]
    have := hz j (by omega)
    rw [List.getD_eq_getElem?_getD] at this
    rw [show i + ys.length + 1 + (j - (i + ys.length + 1)) = j from by omega]
    exact this

/-- (a reference's row goes to the buffer's end) -/
theorem mul_row_full (x : Nat) (ys bs : List Nat) (i : Nat) (hi : i ≤ bs.length) (hfit : val bs + 4294967296 ^ i * (x * val ys) < 4294967296 ^ bs.length) (hy : ys.length ≤ bs.length - i) :
    val (mulBuf x ys bs i (bs.length - i)) = val bs + 4294967296 ^ i * (x * val ys) ∧ (mulBuf x ys bs i (bs.length - i)).length = bs.length := by
  have hv := mulP_val x ys (bs.drop i) (bs.length - i)
  have hs := val_split bs i hi
  rw [List.take_of_length_le hy, List.take_of_length_le (by rw [List.length_drop]; exact Nat.le_refl _)] at hv
  refine ⟨?_, mulBuf_len _ _ _ _ _ (by omega)⟩
  unfold mulBuf
  rw [show i + (bs.length - i) = bs.length from by omega, List.drop_length, List.append_nil, val_append, List.length_take, Nat.min_eq_left hi]
  have e : 4294967296 ^ i * val (mulP x ys (bs.drop i) (bs.length - i)).1 + 4294967296 ^ bs.length * (mulP x ys (bs.drop i) (bs.length - i)).2 = 4294967296 ^ i * (x * val ys) + 4294967296 ^ i * val (bs.drop i) := by
    rw [← Nat.mul_add, ← hv, Nat.mul_add]
    congr 1
    rw [← Nat.mul_assoc, ← Nat.pow_add, show i + (bs.length - i) = bs.length from by omega]
  have hc : (mulP x ys (bs.drop i) (bs.length - i)).2 = 0 := by
    rcases Nat.eq_zero_or_pos (mulP x ys (bs.drop i) (bs.length - i)).2 with h0 | h0
    · exact h0
    · have : 4294967296 ^ bs.length * 1 ≤ 4294967296 ^ bs.length * (mulP x ys (bs.drop i) (bs.length - i)).2 := Nat.mul_le_mul_left _ h0
      omega
  rw [hc, Nat.mul_zero, Nat.add_zero] at e
  omega

/-! ### quotients by one limb -/

/-- the limbs from k on, of a quotient by one limb, from the highest on; and what is left -/
def divP (xs : List Nat) (d : Nat) : Nat → List Nat × Nat
  | 0 => ([], 0)
  | j + 1 =>
    let p := divP xs d j
    let s := p.2 * 4294967296 + xs.getD (xs.length - 1 - j) 0
    (s / d :: p.1, s % d)

theorem divP_len (xs : List Nat) (d j : Nat) : (divP xs d j).1.length = j := by
  induction j with
  | zero => rfl
  | succ j ih => simp [divP, ih]

theorem divP_rest (xs : List Nat) (d : Nat) (hd : 0 < d) (j : Nat) : (divP xs d j).2 < d := by
  cases j with
  | zero => simpa [divP] using hd
  | succ j => simp only [divP]; exact Nat.mod_lt _ hd

theorem div_lt {r x d : Nat} (hr : r < d) (hx : x < 4294967296) : (r * 4294967296 + x) / d < 4294967296 := by
  apply Nat.div_lt_of_lt_mul
  have : (r + 1) * 4294967296 ≤ d * 4294967296 := Nat.mul_le_mul_right _ (by omega)
  omega

theorem divP_lim (xs : List Nat) (d : Nat) (hd : 0 < d) (hx : Lim xs) (j : Nat) : Lim (divP xs d j).1 := by
  induction j with
  | zero => exact Lim.nil
  | succ j ih => exact Lim.mk (div_lt (divP_rest xs d hd j) (hx.getD _)) ih

theorem divP_val (xs : List Nat) (d : Nat) (j : Nat) (hj : j ≤ xs.length) :
    val (xs.drop (xs.length - j)) = val (divP xs d j).1 * d + (divP xs d j).2 := by
  induction j with
  | zero => simp [divP, val]
  | succ j ih =>
    have hlt : xs.length - (j + 1) < xs.length := by omega
    rw [List.drop_eq_getElem_cons hlt, show xs.length - (j + 1) + 1 = xs.length - j from by omega]
    simp only [val, divP, ih (by omega)]
    have e : xs.getD (xs.length - 1 - j) 0 = xs[xs.length - (j + 1)] := by
      rw [show xs.length - 1 - j = xs.length - (j + 1) from by omega]
      simp [List.getElem?_eq_getElem hlt]
    rw [e]
    generalize xs[xs.length - (j + 1)] = x
    generalize val (divP xs d j).1 = q
    generalize (divP xs d j).2 = r
    have h := Nat.div_add_mod (r * 4294967296 + x) d
    rw [Nat.mul_comm d] at h
    rw [Nat.add_mul, Nat.mul_assoc 4294967296 q d]
    omega

theorem divP_all (xs : List Nat) (d : Nat) (hd : 0 < d) :
    val (divP xs d xs.length).1 = val xs / d ∧ (divP xs d xs.length).2 = val xs % d := by
  have h := divP_val xs d xs.length (Nat.le_refl _)
  have hr := divP_rest xs d hd xs.length
  rw [Nat.sub_self, List.drop_zero] at h
  generalize val (divP xs d xs.length).1 = q at *
  generalize (divP xs d xs.length).2 = r at *
  rw [h]
  constructor
  · rw [Nat.add_comm, Nat.add_mul_div_right _ _ hd, Nat.div_eq_of_lt hr, Nat.zero_add]
  · rw [Nat.add_comm, Nat.add_mul_mod_self_right, Nat.mod_eq_of_lt hr]

end Go.Proofs.Ytapnnnciaagbdaa
