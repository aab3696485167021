/- A number's digits are its own, and the other way round: plain. -/
import Derived.Test.YtapnnnciaagbdaaNatPlain3
namespace Go.Proofs.Ytapnnnciaagbdaa

theorem digR_ne (v : Nat) : digR v ≠ [] := by rw [digR_step]; simp

theorem numOf_digR (k : Nat) : ∀ v, v < 2 ^ k → numOf (digR v).reverse = v := by
  induction k with
  | zero =>
    intro v h
    simp at h
    subst h
    rw [digR_step]
    rfl
  | succ k ih =>
    intro v h
    rw [digR_step]
    by_cases h0 : v / 10 = 0
    · rw [if_pos h0, List.reverse_singleton]
      simp [numOf]
      omega
    · rw [if_neg h0, List.reverse_cons, numOf_snoc, ih (v / 10) (by rw [Nat.pow_succ] at h; omega)]
      omega

theorem digR_head (k : Nat) : ∀ v, v < 2 ^ k → v ≠ 0 → (digR v).reverse.getD 0 0 ≠ 48 := by
  induction k with
  | zero => intro v h; simp at h; omega
  | succ k ih =>
    intro v h hv
    rw [digR_step]
    by_cases h0 : v / 10 = 0
    · rw [if_pos h0]
      simp
      omega
    · rw [if_neg h0, List.reverse_cons]
      have := ih (v / 10) (by rw [Nat.pow_succ] at h; omega) h0
      rw [List.getD_eq_getElem?_getD] at this ⊢
      rw [List.getElem?_append_left (by rw [List.length_reverse]; exact List.length_pos_iff.2 (digR_ne _))]
      exact this

theorem formB_digR (v : Nat) : formB (digR v).reverse = true := by
  have h1 : ((digR v).reverse).all digB = true := by
    rw [List.all_eq_true]
    intro c hc
    have := digR_byte v (v.log2 + 1) Nat.lt_log2_self c (List.mem_reverse.1 hc)
    simp [digB, this]
  have h2 : (digR v).reverse.length ≠ 0 := by
    rw [List.length_reverse]
    intro h
    exact digR_ne v (List.eq_nil_of_length_eq_zero h)
  simp only [formB, h1, Bool.and_true, Bool.and_eq_true, bne_iff_ne, ne_eq, Bool.not_eq_true', Bool.and_eq_false_iff, beq_eq_false_iff_ne, decide_eq_false_iff_not]
  refine ⟨h2, ?_⟩
  by_cases h0 : v = 0
  · right
    subst h0
    rw [digR_step, if_pos (by decide)]
    simp
  · exact .inl (digR_head (v.log2 + 1) v Nat.lt_log2_self h0)

theorem parse_text (v : Nat) (hv : v < big) : parseN (digR v).reverse = (limbs v, 0) := by
  unfold parseN
  rw [if_pos (formB_digR v), numOf_digR (v.log2 + 1) v Nat.lt_log2_self]
  simp [fitN, hv]

/-- digits that do not begin with a nought, or are one alone -/
theorem digR_numOf (n : Nat) : ∀ l : List Nat, l.length = n + 1 → l.all digB = true → (l.getD 0 0 ≠ 48 ∨ n = 0) → (digR (numOf l)).reverse = l ∧ (l.getD 0 0 ≠ 48 → numOf l ≠ 0) := by
  induction n with
  | zero =>
    intro l hl ha _
    match l, hl with
    | [c], _ =>
      have hc : 48 ≤ c ∧ c ≤ 57 := by simpa [digB] using ha
      have e : numOf [c] = c - 48 := by simp [numOf]
      rw [e, digR_step, if_pos (by omega)]
      refine ⟨?_, fun h => ?_⟩
      · simp
        omega
      · simp at h
        omega
  | succ n ih =>
    intro l hl ha hh
    rcases List.eq_nil_or_concat l with rfl | ⟨t, c, rfl⟩
    · simp at hl
    · rw [List.concat_eq_append] at *
      have htl : t.length = n + 1 := by simpa using hl
      have hta : t.all digB = true := by
        rw [List.all_append, Bool.and_eq_true] at ha
        exact ha.1
      have hc : 48 ≤ c ∧ c ≤ 57 := by
        rw [List.all_append, Bool.and_eq_true] at ha
        simpa [digB] using ha.2
      have hhead : t.getD 0 0 ≠ 48 := by
        rcases hh with h | h
        · rw [List.getD_eq_getElem?_getD, List.getElem?_append_left (by omega)] at h
          rw [List.getD_eq_getElem?_getD]
          exact h
        · omega
      obtain ⟨h1, h2⟩ := ih t htl hta (.inl hhead)
      have h2 := h2 hhead
      rw [numOf_snoc, digR_step, show (numOf t * 10 + (c - 48)) / 10 = numOf t from by omega, if_neg h2, List.reverse_cons, h1,
        show 48 + (numOf t * 10 + (c - 48)) % 10 = c from by omega]
      exact ⟨rfl, fun _ => by omega⟩

theorem text_numOf (l : List Nat) (h : formB l = true) : (digR (numOf l)).reverse = l := by
  simp only [formB, Bool.and_eq_true, bne_iff_ne, ne_eq, Bool.not_eq_true', Bool.and_eq_false_iff, beq_eq_false_iff_ne, decide_eq_false_iff_not] at h
  obtain ⟨⟨h0, h1⟩, h2⟩ := h
  refine (digR_numOf (l.length - 1) l (by omega) h2 ?_).1
  rcases h1 with h1 | h1
  · exact .inl h1
  · exact .inr (by omega)

theorem parse_back (l : List Nat) (h : (parseN l).2 = 0) : textN (parseN l).1 = l ∧ rightB (parseN l).1 = true ∧ Lim (parseN l).1 := by
  unfold parseN at *
  by_cases hf : formB l = true
  · rw [if_pos hf] at h ⊢
    unfold fitN at *
    by_cases hb : numOf l < big
    · rw [if_pos hb]
      have hr := right_of_limbs _ hb
      refine ⟨?_, hr, limbs_lim _⟩
      simp only [textN, hr, if_true, val_limbs]
      exact text_numOf l hf
    · rw [if_neg hb] at h
      simp at h
  · rw [if_neg hf] at h
    simp at h

theorem parse_err (l : List Nat) (h : (parseN l).2 ≠ 0) : (parseN l).1 = [] := by
  unfold parseN at *
  by_cases hf : formB l = true
  · rw [if_pos hf] at h ⊢
    unfold fitN at *
    by_cases hb : numOf l < big
    · rw [if_pos hb] at h
      simp at h
    · rw [if_neg hb]
  · rw [if_neg hf]

end Go.Proofs.Ytapnnnciaagbdaa
