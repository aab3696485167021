/- Numbers as lists of limbs, lowest first: plain arithmetic, no program in sight. -/
namespace Go.Proofs.Ytapnnnciaagbdaa

/-- the number of a list of limbs -/
def val : List Nat → Nat
  | [] => 0
  | x :: t => x + 4294967296 * val t

/-- each limb fits -/
def Lim (xs : List Nat) : Prop := ∀ x ∈ xs, x < 4294967296

def limbsF : Nat → Nat → List Nat
  | 0, _ => []
  | f + 1, n => if n = 0 then [] else n % 4294967296 :: limbsF f (n / 4294967296)

/-- the limbs of a number, none 0 at the end -/
def limbs (n : Nat) : List Nat := limbsF (n.log2 + 1) n

/-- without noughts at the end -/
def neatL (xs : List Nat) : List Nat := (xs.reverse.dropWhile (· == 0)).reverse

def rightB (xs : List Nat) : Bool := decide (xs.length ≤ 32) && (decide (xs.length = 0) || xs.getD (xs.length - 1) 0 != 0)

/-- 2 to the 1024: the first number that has too many limbs -/
def big : Nat := 2 ^ 1024

theorem big_eq : big = 4294967296 ^ 32 := by unfold big; decide +kernel
theorem big_eq2 : big = 2 ^ (1023 + 1) := by unfold big; decide +kernel
attribute [irreducible] big

theorem Lim.nil : Lim [] := fun _ h => by cases h
theorem Lim.cons {x : Nat} {t : List Nat} (h : Lim (x :: t)) : x < 4294967296 ∧ Lim t :=
  ⟨h x (by simp), fun y hy => h y (by simp [hy])⟩
theorem Lim.mk {x : Nat} {t : List Nat} (h : x < 4294967296) (ht : Lim t) : Lim (x :: t) := fun y hy => by
  rcases List.mem_cons.1 hy with rfl | hy
  · exact h
  · exact ht y hy
theorem Lim.append {xs ys : List Nat} (h : Lim xs) (h' : Lim ys) : Lim (xs ++ ys) := fun y hy => by
  rcases List.mem_append.1 hy with hy | hy
  · exact h y hy
  · exact h' y hy
theorem Lim.take {xs : List Nat} (h : Lim xs) (k : Nat) : Lim (xs.take k) := fun y hy => h y (List.mem_of_mem_take hy)
theorem Lim.drop {xs : List Nat} (h : Lim xs) (k : Nat) : Lim (xs.drop k) := fun y hy => h y (List.mem_of_mem_drop hy)
theorem Lim.of_get {xs : List Nat} (h : Lim xs) {j x : Nat} (hj : xs[j]? = some x) : x < 4294967296 := h x (List.mem_of_getElem? hj)
theorem Lim.getD {xs : List Nat} (h : Lim xs) (j : Nat) : xs.getD j 0 < 4294967296 := by
  rw [List.getD_eq_getElem?_getD]
  cases hx : xs[j]? with
  | none => simp
  | some x => simpa using h.of_get hx

theorem val_append (xs ys : List Nat) : val (xs ++ ys) = val xs + 4294967296 ^ xs.length * val ys := by
  induction xs with
  | nil => simp [val]
  | cons x t ih =>
    simp only [List.cons_append, val, ih, List.length_cons, Nat.pow_succ, Nat.mul_add]
    rw [← Nat.mul_assoc, Nat.mul_comm 4294967296 (4294967296 ^ t.length)]
    omega

theorem val_snoc (xs : List Nat) (x : Nat) : val (xs ++ [x]) = val xs + 4294967296 ^ xs.length * x := by
  rw [val_append]; simp [val]

theorem val_lt (xs : List Nat) (h : Lim xs) : val xs < 4294967296 ^ xs.length := by
  induction xs with
  | nil => simp [val]
  | cons x t ih =>
    have := ih h.cons.2
    have := h.cons.1
    simp only [val, List.length_cons, Nat.pow_succ]
    omega

theorem limbsF_spec (f : Nat) : ∀ n, n < 4294967296 ^ f → val (limbsF f n) = n ∧ Lim (limbsF f n) := by
  induction f with
  | zero => intro n h; simp at h; subst h; exact ⟨rfl, Lim.nil⟩
  | succ f ih =>
    intro n h
    unfold limbsF
    by_cases h0 : n = 0
    · subst h0; simp [val, Lim.nil]
    · rw [if_neg h0]
      have hd : n / 4294967296 < 4294967296 ^ f := by
        rw [Nat.pow_succ] at h
        exact Nat.div_lt_of_lt_mul (by rw [Nat.mul_comm]; exact h)
      obtain ⟨h1, h2⟩ := ih _ hd
      refine ⟨?_, Lim.mk (Nat.mod_lt _ (by decide)) h2⟩
      simp only [val, h1]
      omega

theorem lt_fuel (n : Nat) : n < 4294967296 ^ (n.log2 + 1) := by
  have h1 : n < 2 ^ (n.log2 + 1) := Nat.lt_log2_self
  have h2 : (2 : Nat) ^ (n.log2 + 1) ≤ 4294967296 ^ (n.log2 + 1) := Nat.pow_le_pow_left (by decide) _
  omega

theorem val_limbs (n : Nat) : val (limbs n) = n := (limbsF_spec _ n (lt_fuel n)).1
theorem limbs_lim (n : Nat) : Lim (limbs n) := (limbsF_spec _ n (lt_fuel n)).2

/-- the last limb is none that is 0 -/
def Tight (xs : List Nat) : Prop := ∀ ys x, xs = ys ++ [x] → x ≠ 0

theorem limbsF_tight (f : Nat) : ∀ n, n < 4294967296 ^ f → Tight (limbsF f n) := by
  induction f with
  | zero => intro n _ ys x h; simp [limbsF] at h
  | succ f ih =>
    intro n h ys x hx
    unfold limbsF at hx
    by_cases h0 : n = 0
    · simp [h0] at hx
    · rw [if_neg h0] at hx
      have hd : n / 4294967296 < 4294967296 ^ f := by
        rw [Nat.pow_succ] at h
        exact Nat.div_lt_of_lt_mul (by rw [Nat.mul_comm]; exact h)
      cases ys with
      | nil =>
        simp only [List.nil_append, List.cons.injEq] at hx
        obtain ⟨h1, h2⟩ := hx
        have h3 := (limbsF_spec f _ hd).1
        rw [h2] at h3
        simp [val] at h3
        omega
      | cons y ys =>
        simp only [List.cons_append, List.cons.injEq] at hx
        exact ih _ hd ys x hx.2

theorem limbs_tight (n : Nat) : Tight (limbs n) := limbsF_tight _ n (lt_fuel n)

theorem Tight.tail {x : Nat} {t : List Nat} (h : Tight (x :: t)) : Tight t := fun ys y hy => h (x :: ys) y (by rw [hy]; rfl)

theorem val_zero_tight (xs : List Nat) (ht : Tight xs) (h : val xs = 0) : xs = [] := by
  rcases List.eq_nil_or_concat xs with rfl | ⟨ys, x, rfl⟩
  · rfl
  · rw [List.concat_eq_append] at *
    have := ht ys x rfl
    rw [val_snoc] at h
    have hp : 0 < 4294967296 ^ ys.length := Nat.pow_pos (by decide)
    have : 0 < 4294967296 ^ ys.length * x := Nat.mul_pos hp (by omega)
    omega

theorem val_inj (xs : List Nat) : ∀ ys, Lim xs → Lim ys → Tight xs → Tight ys → val xs = val ys → xs = ys := by
  induction xs with
  | nil => intro ys _ _ _ ty h; exact (val_zero_tight ys ty (by simpa [val] using h.symm)).symm
  | cons x t ih =>
    intro ys lx ly tx ty h
    cases ys with
    | nil => exact val_zero_tight _ tx (by simpa [val] using h)
    | cons y s =>
      have h1 := lx.cons.1
      have h2 := ly.cons.1
      simp only [val] at h
      have e : x = y := by omega
      subst e
      rw [ih s lx.cons.2 ly.cons.2 tx.tail ty.tail (by omega)]

theorem limbs_val (xs : List Nat) (h : Lim xs) (ht : Tight xs) : limbs (val xs) = xs :=
  val_inj _ _ (limbs_lim _) h (limbs_tight _) ht (val_limbs _)

theorem neatL_snoc_zero (xs : List Nat) : neatL (xs ++ [0]) = neatL xs := by simp [neatL]
theorem neatL_snoc (xs : List Nat) (x : Nat) (h : x ≠ 0) : neatL (xs ++ [x]) = xs ++ [x] := by simp [neatL, h]
theorem neatL_step (xs : List Nat) (k : Nat) (hk : k < xs.length) (h0 : xs.getD k 0 = 0) : neatL (xs.take (k + 1)) = neatL (xs.take k) := by
  have : xs.take (k + 1) = xs.take k ++ [0] := by
    rw [List.take_succ_eq_append_getElem hk]
    simp [List.getElem?_eq_getElem hk] at h0
    rw [h0]
  rw [this, neatL_snoc_zero]
theorem neatL_stop (xs : List Nat) (k : Nat) (hk : k < xs.length) (h0 : xs.getD k 0 ≠ 0) : neatL (xs.take (k + 1)) = xs.take (k + 1) := by
  have : xs.take (k + 1) = xs.take k ++ [xs[k]] := List.take_succ_eq_append_getElem hk
  rw [this, neatL_snoc]
  simpa [List.getElem?_eq_getElem hk] using h0

theorem neatL_spec (n : Nat) : ∀ xs : List Nat, xs.length = n → val (neatL xs) = val xs ∧ Tight (neatL xs) ∧ (∃ k, neatL xs = xs.take k) := by
  induction n with
  | zero => intro xs h; have : xs = [] := List.eq_nil_of_length_eq_zero h; subst this; exact ⟨rfl, by intro ys x h; simp [neatL] at h, 0, rfl⟩
  | succ n ih =>
    intro xs h
    rcases List.eq_nil_or_concat xs with rfl | ⟨ys, x, rfl⟩
    · simp at h
    · rw [List.concat_eq_append] at *
      simp at h
      by_cases h0 : x = 0
      · subst h0
        rw [neatL_snoc_zero]
        obtain ⟨h1, h2, k, h3⟩ := ih ys h
        refine ⟨by rw [h1, val_snoc]; simp, h2, ?_⟩
        by_cases hk : k ≤ ys.length
        · exact ⟨k, by rw [h3, List.take_append_of_le_length hk]⟩
        · exact ⟨ys.length, by rw [h3, List.take_append_of_le_length (Nat.le_refl _), List.take_of_length_le (by omega), List.take_length]⟩
      · rw [neatL_snoc _ _ h0]
        refine ⟨rfl, fun zs z hz => ?_, (ys ++ [x]).length, by rw [List.take_length]⟩
        have := List.append_inj' hz rfl
        simp at this
        omega

theorem neatL_lim (xs : List Nat) (h : Lim xs) : Lim (neatL xs) := by
  obtain ⟨_, _, k, hk⟩ := neatL_spec _ xs rfl
  rw [hk]; exact h.take k

theorem neatL_limbs (xs : List Nat) (h : Lim xs) : neatL xs = limbs (val xs) := by
  obtain ⟨h1, h2, _⟩ := neatL_spec _ xs rfl
  rw [← h1, limbs_val _ (neatL_lim xs h) h2]

theorem tight_of_right (xs : List Nat) (h : rightB xs = true) : Tight xs := by
  intro ys x hx
  subst hx
  simp [rightB] at h
  exact h.2

theorem limbs_len_le (n k : Nat) : (limbs n).length ≤ k ↔ n < 4294967296 ^ k := by
  constructor
  · intro h
    have h1 := val_lt _ (limbs_lim n)
    rw [val_limbs] at h1
    exact Nat.lt_of_lt_of_le h1 (Nat.pow_le_pow_right (by decide) h)
  · intro h
    rcases Nat.lt_or_ge k (limbs n).length with hk | hk
    · exfalso
      rcases List.eq_nil_or_concat (limbs n) with h0 | ⟨ys, x, hx⟩
      · simp [h0] at hk
      · rw [List.concat_eq_append] at hx
        have h0 := limbs_tight n ys x hx
        have hv := val_limbs n
        rw [hx, val_snoc] at hv
        rw [hx] at hk
        simp at hk
        have h2 : (4294967296 : Nat) ^ k ≤ 4294967296 ^ ys.length := Nat.pow_le_pow_right (by decide) (by omega)
        have h3 : 4294967296 ^ ys.length * 1 ≤ 4294967296 ^ ys.length * x := Nat.mul_le_mul_left _ (by omega)
        omega
    · exact hk

theorem limbs_zero : limbs 0 = [] := by
  have := (limbs_len_le 0 0).2 (by decide)
  exact List.eq_nil_of_length_eq_zero (by omega)

theorem limbs_inj {a b : Nat} (h : limbs a = limbs b) : a = b := by rw [← val_limbs a, ← val_limbs b, h]

theorem right_of_limbs (n : Nat) (h : n < big) : rightB (limbs n) = true := by
  have h1 : (limbs n).length ≤ 32 := (limbs_len_le n 32).2 (by rw [← big_eq]; exact h)
  simp only [rightB, h1, decide_true, Bool.true_and, Bool.or_eq_true, decide_eq_true_eq, bne_iff_ne, ne_eq]
  rcases List.eq_nil_or_concat (limbs n) with h0 | ⟨ys, x, hx⟩
  · simp [h0]
  · rw [List.concat_eq_append] at hx
    right
    rw [hx]
    simpa using limbs_tight n ys x hx

theorem limbs_of_right (xs : List Nat) (h : Lim xs) (hr : rightB xs = true) : xs = limbs (val xs) ∧ val xs < big := by
  refine ⟨(limbs_val xs h (tight_of_right xs hr)).symm, ?_⟩
  have h1 := val_lt xs h
  simp [rightB] at hr
  rw [big_eq]
  exact Nat.lt_of_lt_of_le h1 (Nat.pow_le_pow_right (by decide) hr.1)

theorem limbs_right_iff (n : Nat) : rightB (limbs n) = decide (n < big) := by
  by_cases h : n < big
  · rw [right_of_limbs n h, decide_eq_true h]
  · rw [decide_eq_false h]
    have : ¬ (limbs n).length ≤ 32 := fun hl => h (by rw [big_eq]; exact (limbs_len_le n 32).1 hl)
    simp [rightB, this]

theorem limbs_ne_nil (n : Nat) (h : n ≠ 0) : limbs n ≠ [] := fun h0 => h (by have := val_limbs n; rw [h0] at this; simpa [val] using this.symm)

/-! ### what the calls give: lists of limbs, and the error's number -/

def fitN (n : Nat) : List Nat × Nat := if n < big then (limbs n, 0) else ([], 2)
def addN (xs ys : List Nat) : List Nat × Nat := if rightB xs && rightB ys then fitN (val xs + val ys) else ([], 1)
def subN (xs ys : List Nat) : List Nat × Nat :=
  if rightB xs && rightB ys then (if val xs < val ys then ([], 11) else (limbs (val xs - val ys), 0)) else ([], 1)
def mulN (xs ys : List Nat) : List Nat × Nat := if rightB xs && rightB ys then fitN (val xs * val ys) else ([], 1)
def cmpI (a b : Nat) : Int := if a < b then -1 else if b < a then 1 else 0
def cmpN (xs ys : List Nat) : Int := if rightB xs && rightB ys then cmpI (val xs) (val ys) else 0
def divN (xs : List Nat) (d : Nat) : List Nat × Nat × Nat := if rightB xs && d != 0 then (limbs (val xs / d), val xs % d, 0) else ([], 0, 1)
def bitLen (n : Nat) : Nat := if n = 0 then 0 else n.log2 + 1
def bitsN (xs : List Nat) : Nat := if rightB xs then bitLen (val xs) else 0
def quoN (xs ys : List Nat) : List Nat × List Nat × Nat :=
  if rightB xs && rightB ys && ys.length != 0 then (limbs (val xs / val ys), limbs (val xs % val ys), 0) else ([], [], 1)

theorem fitN_lim (n : Nat) : Lim (fitN n).1 := by unfold fitN; split; exact limbs_lim _; exact Lim.nil
theorem addN_lim (xs ys : List Nat) : Lim (addN xs ys).1 := by unfold addN; split; exact fitN_lim _; exact Lim.nil
theorem mulN_lim (xs ys : List Nat) : Lim (mulN xs ys).1 := by unfold mulN; split; exact fitN_lim _; exact Lim.nil
theorem subN_lim (xs ys : List Nat) : Lim (subN xs ys).1 := by
  unfold subN; split
  · split; exact Lim.nil; exact limbs_lim _
  · exact Lim.nil
theorem divN_lim (xs : List Nat) (d : Nat) : Lim (divN xs d).1 := by unfold divN; split; exact limbs_lim _; exact Lim.nil

theorem divN_limbs (v d : Nat) (hv : v < big) (hd : d ≠ 0) : divN (limbs v) d = (limbs (v / d), v % d, 0) := by
  simp [divN, right_of_limbs v hv, val_limbs, hd]
theorem mulN_limbs (a b : Nat) (ha : a < big) (hb : b < big) : mulN (limbs a) (limbs b) = fitN (a * b) := by
  simp [mulN, right_of_limbs a ha, right_of_limbs b hb, val_limbs]
theorem addN_limbs (a b : Nat) (ha : a < big) (hb : b < big) : addN (limbs a) (limbs b) = fitN (a + b) := by
  simp [addN, right_of_limbs a ha, right_of_limbs b hb, val_limbs]
theorem small_big (n : Nat) (h : n < 18446744073709551616) : n < big := by
  have : 18446744073709551616 < big := by rw [big_eq]; decide +kernel
  omega

/-- what 'fit' makes of any limbs -/
theorem fit_neat (zs : List Nat) (h : Lim zs) : (if (neatL zs).length ≤ 32 then (neatL zs, 0) else (([] : List Nat), 2)) = fitN (val zs) := by
  rw [neatL_limbs zs h]
  unfold fitN
  by_cases hb : val zs < big
  · rw [if_pos hb, if_pos ((limbs_len_le _ 32).2 (by rw [← big_eq]; exact hb))]
  · rw [if_neg hb, if_neg (fun hl => hb (by rw [big_eq]; exact (limbs_len_le _ 32).1 hl))]

/-! ### sums, limb by limb -/

/-- the first i limbs of a sum, and what is carried -/
def addP (xs ys : List Nat) : Nat → List Nat × Nat
  | 0 => ([], 0)
  | i + 1 =>
    let p := addP xs ys i
    let s := xs.getD i 0 + ys.getD i 0 + p.2
    (p.1 ++ [s % 4294967296], s / 4294967296)

theorem addP_len (xs ys : List Nat) (i : Nat) : (addP xs ys i).1.length = i := by
  induction i with
  | zero => rfl
  | succ i ih => simp [addP, ih]
theorem addP_lim (xs ys : List Nat) (i : Nat) : Lim (addP xs ys i).1 := by
  induction i with
  | zero => exact Lim.nil
  | succ i ih => exact ih.append (Lim.mk (Nat.mod_lt _ (by decide)) Lim.nil)
theorem addP_carry (xs ys : List Nat) (hx : Lim xs) (hy : Lim ys) (i : Nat) : (addP xs ys i).2 ≤ 1 := by
  induction i with
  | zero => simp [addP]
  | succ i ih =>
    have h1 := hx.getD i
    have h2 := hy.getD i
    simp only [addP]
    omega

theorem val_take_succ (xs : List Nat) (i : Nat) : val (xs.take (i + 1)) = val (xs.take i) + 4294967296 ^ i * xs.getD i 0 := by
  by_cases h : i < xs.length
  · rw [List.take_succ_eq_append_getElem h, val_snoc, List.length_take, Nat.min_eq_left (by omega)]
    simp [List.getElem?_eq_getElem h]
  · rw [List.take_of_length_le (by omega), List.take_of_length_le (by omega)]
    simp [List.getElem?_eq_none (show xs.length ≤ i by omega)]

theorem addP_val (xs ys : List Nat) (i : Nat) :
    val (addP xs ys i).1 + 4294967296 ^ i * (addP xs ys i).2 = val (xs.take i) + val (ys.take i) := by
  induction i with
  | zero => simp [addP, val]
  | succ i ih =>
    rw [val_take_succ, val_take_succ]
    simp only [addP]
    rw [val_snoc, addP_len, Nat.pow_succ]
    generalize (addP xs ys i).1 = zs at *
    generalize (addP xs ys i).2 = c at *
    generalize xs.getD i 0 = x at *
    generalize ys.getD i 0 = y at *
    generalize (4294967296 : Nat) ^ i = B at *
    have e : 4294967296 * ((x + y + c) / 4294967296) + (x + y + c) % 4294967296 = x + y + c := Nat.div_add_mod _ _
    have : B * ((x + y + c) % 4294967296) + B * 4294967296 * ((x + y + c) / 4294967296) = B * x + B * y + B * c := by
      rw [Nat.mul_assoc, ← Nat.mul_add, Nat.add_comm, e, Nat.mul_add, Nat.mul_add]
    omega

theorem addP_all (xs ys : List Nat) (i : Nat) (hx : xs.length ≤ i) (hy : ys.length ≤ i) :
    val ((addP xs ys i).1 ++ [(addP xs ys i).2]) = val xs + val ys := by
  rw [val_snoc, addP_len, addP_val, List.take_of_length_le hx, List.take_of_length_le hy]

/-- (a reference gathers one limb more, and drops what is carried: there is nothing) -/
theorem addP_full (xs ys : List Nat) (hx : Lim xs) (hy : Lim ys) (i : Nat) (h1 : xs.length ≤ i) (h2 : ys.length ≤ i) :
    val (addP xs ys (i + 1)).1 = val xs + val ys := by
  have h := addP_all xs ys i h1 h2
  have hc := addP_carry xs ys hx hy i
  rw [val_snoc, addP_len] at h
  simp only [addP]
  rw [val_snoc, addP_len]
  have e1 : xs.getD i 0 = 0 := by simp [List.getElem?_eq_none h1]
  have e2 : ys.getD i 0 = 0 := by simp [List.getElem?_eq_none h2]
  rw [e1, e2, Nat.mod_eq_of_lt (by omega)]
  simpa using h

theorem addP_comm (xs ys : List Nat) (i : Nat) : addP xs ys i = addP ys xs i := by
  induction i with
  | zero => rfl
  | succ i ih => simp only [addP, ih, Nat.add_comm (xs.getD i 0) (ys.getD i 0)]

/-! ### differences -/

/-- the first i limbs of a difference, and what is borrowed -/
def subP (xs ys : List Nat) : Nat → List Nat × Nat
  | 0 => ([], 0)
  | i + 1 =>
    let p := subP xs ys i
    let s := 4294967296 + xs.getD i 0 - ys.getD i 0 - p.2
    (p.1 ++ [s % 4294967296], 1 - s / 4294967296)

theorem subP_len (xs ys : List Nat) (i : Nat) : (subP xs ys i).1.length = i := by
  induction i with
  | zero => rfl
  | succ i ih => simp [subP, ih]
theorem subP_lim (xs ys : List Nat) (i : Nat) : Lim (subP xs ys i).1 := by
  induction i with
  | zero => exact Lim.nil
  | succ i ih => exact ih.append (Lim.mk (Nat.mod_lt _ (by decide)) Lim.nil)
theorem subP_borrow (xs ys : List Nat) (i : Nat) : (subP xs ys i).2 ≤ 1 := by
  cases i with
  | zero => simp [subP]
  | succ i => simp only [subP]; omega

theorem subP_val (xs ys : List Nat) (hx : Lim xs) (hy : Lim ys) (i : Nat) :
    val (subP xs ys i).1 + val (ys.take i) = val (xs.take i) + 4294967296 ^ i * (subP xs ys i).2 := by
  induction i with
  | zero => simp [subP, val]
  | succ i ih =>
    have hb := subP_borrow xs ys i
    have h1 := hx.getD i
    have h2 := hy.getD i
    rw [val_take_succ, val_take_succ]
    simp only [subP]
    rw [val_snoc, subP_len, Nat.pow_succ]
    generalize (subP xs ys i).1 = zs at *
    generalize (subP xs ys i).2 = c at *
    generalize xs.getD i 0 = x at *
    generalize ys.getD i 0 = y at *
    generalize (4294967296 : Nat) ^ i = B at *
    have e : (4294967296 + x - y - c) % 4294967296 + y + c = x + 4294967296 * (1 - (4294967296 + x - y - c) / 4294967296) := by omega
    generalize (4294967296 + x - y - c) % 4294967296 = d at *
    generalize 1 - (4294967296 + x - y - c) / 4294967296 = k at *
    have : B * d + B * y + B * c = B * x + B * 4294967296 * k := by
      rw [← Nat.mul_add, ← Nat.mul_add, e, Nat.mul_add, Nat.mul_assoc]
    omega

theorem subP_all (xs ys : List Nat) (hx : Lim xs) (hy : Lim ys) (i : Nat) (h1 : xs.length ≤ i) (h2 : ys.length ≤ i) :
    val (subP xs ys i).1 + val ys = val xs + 4294967296 ^ i * (subP xs ys i).2 := by
  have := subP_val xs ys hx hy i
  rwa [List.take_of_length_le h1, List.take_of_length_le h2] at this

/-- nothing is borrowed at the end just if it isn't less -/
theorem subP_less (xs ys : List Nat) (hx : Lim xs) (hy : Lim ys) (i : Nat) (h1 : xs.length ≤ i) (h2 : ys.length ≤ i) :
    (subP xs ys i).2 = if val xs < val ys then 1 else 0 := by
  have h := subP_all xs ys hx hy i h1 h2
  have hb := subP_borrow xs ys i
  have hl := val_lt _ (subP_lim xs ys i)
  rw [subP_len] at hl
  have hy' : val ys < 4294967296 ^ i := Nat.lt_of_lt_of_le (val_lt ys hy) (Nat.pow_le_pow_right (by decide) h2)
  generalize (subP xs ys i).2 = c at *
  generalize (4294967296 : Nat) ^ i = B at *
  have hc : c = 0 ∨ c = 1 := by omega
  rcases hc with rfl | rfl
  · rw [if_neg (by omega)]
  · rw [if_pos (by omega)]

theorem subP_eq (xs ys : List Nat) (hx : Lim xs) (hy : Lim ys) (i : Nat) (h1 : xs.length ≤ i) (h2 : ys.length ≤ i) (h : val ys ≤ val xs) :
    val (subP xs ys i).1 = val xs - val ys := by
  have h' := subP_all xs ys hx hy i h1 h2
  rw [subP_less xs ys hx hy i h1 h2, if_neg (by omega)] at h'
  omega

end Go.Proofs.Ytapnnnciaagbdaa
