/- lex: words that are parted by blanks (no program in sight). -/
import Derived.Test.YtcmfflfgegadjaaLxO
namespace Go.Proofs.Ytcmfflfgegadjaa
set_option linter.unusedVariables false
set_option linter.unusedSimpArgs false

def flatB (ws : List (List Nat)) : List Nat := ws.flatMap fun w => w ++ [32]
theorem flatB_snoc (ws : List (List Nat)) (w : List Nat) : flatB (ws ++ [w]) = flatB ws ++ (w ++ [32]) := by simp [flatB]
def wordB (w : List Nat) : Bool := nameB w || litB w

theorem nameB_facts {w : List Nat} (h : nameB w = true) : 0 < w.length ∧ w.length ≤ 20 ∧ letterB (w.getD 0 0) = true ∧ (∀ x ∈ w, innerB x = true) := by
  simp [nameB] at h
  obtain ⟨⟨⟨h1, h2⟩, h3⟩, h4⟩ := h
  refine ⟨?_, h2, by simpa using h3, h4⟩
  rcases w with _ | ⟨a, w⟩
  · exact absurd rfl h1
  · simp
theorem litB_facts {w : List Nat} (h : litB w = true) : w.getD 0 0 = 39 ∧ (litN w).2 = 0 ∧ (litN w).1 = w.length := by
  rw [litB_lit] at h
  simpa using h
theorem wordB_len {w : List Nat} (h : wordB w = true) : 0 < w.length ∧ w.length ≤ 20 := by
  simp [wordB] at h
  rcases h with h | h
  · exact ⟨(nameB_facts h).1, (nameB_facts h).2.1⟩
  · simp [litB] at h
    omega
theorem getD_app (w r : List Nat) (j : Nat) (h : j < w.length) : (w ++ r).getD j 0 = w.getD j 0 := by
  rw [List.getD_eq_getElem?_getD, List.getD_eq_getElem?_getD, List.getElem?_append_left h]
theorem litN_app (w r : List Nat) (h : (litN w).2 = 0) (hl : (litN w).1 = w.length) : litN (w ++ r) = (w.length, 0) := by
  revert h hl
  unfold litN
  by_cases h2 : w.length < 2
  · simp [h2]
  have g2 : ¬ w.length + r.length < 2 := by omega
  rw [if_neg h2, List.length_append, if_neg g2]
  rw [getD_app w r 1 (by omega)]
  by_cases hp : plainB (w.getD 1 0) = true
  · rw [if_pos hp, if_pos hp]
    by_cases h3 : w.length ≤ 2
    · simp [h3]
    have g3 : ¬ w.length + r.length ≤ 2 := by omega
    rw [if_neg h3, if_neg g3, getD_app w r 2 (by omega)]
    by_cases h4 : w.getD 2 0 = 39
    · rw [if_pos h4]; intro _ h; simp only [] at h; rw [← h]
    · rw [if_neg h4]; simp
  · rw [if_neg hp, if_neg hp]
    by_cases h92 : w.getD 1 0 ≠ 92
    · rw [if_pos h92]; simp
    rw [if_neg h92, if_neg h92]
    by_cases h3 : w.length < 3
    · simp [h3]
    have g3 : ¬ w.length + r.length < 3 := by omega
    rw [if_neg h3, if_neg g3, getD_app w r 2 (by omega)]
    by_cases he : (!escapedB (w.getD 2 0)) = true
    · rw [if_pos he]; simp
    rw [if_neg he, if_neg he]
    by_cases h4 : w.length ≤ 3
    · simp [h4]
    have g4 : ¬ w.length + r.length ≤ 3 := by omega
    rw [if_neg h4, if_neg g4, getD_app w r 3 (by omega)]
    by_cases h5 : w.getD 3 0 = 39
    · rw [if_pos h5]; intro _ h; simp only [] at h; rw [← h]
    · rw [if_neg h5]; simp
theorem takeWhile_app (B : Nat → Bool) (w r : List Nat) (h : ∀ x ∈ w, B x = true) (hr : B (r.getD 0 0) = false ∨ r = []) : (w ++ r).takeWhile B = w := by
  induction w with
  | nil =>
    rcases hr with hr | rfl
    · cases r with
      | nil => rfl
      | cons a r => have : B a = false := hr; simp [this]
    · rfl
  | cons a w ih =>
    have ha : B a = true := h a (by simp)
    rw [List.cons_append, List.takeWhile_cons, ha]
    simp only [if_true]
    rw [ih (fun x hx => h x (by simp [hx]))]
theorem runN_app (w r : List Nat) (h0 : 0 < w.length) (h : ∀ x ∈ w, innerB x = true) (hr : innerB (r.getD 0 0) = false) : runN innerB (w ++ r) = w.length := by
  unfold runN
  cases w with
  | nil => simp at h0
  | cons a w =>
    rw [List.cons_append, List.drop_succ_cons, List.drop_zero, takeWhile_app innerB w r (fun x hx => h x (by simp [hx])) (.inl hr)]
    simp; omega
/-- the token that a word makes -/
theorem tokN_word (w r : List Nat) (h : wordB w = true) (hr : innerB (r.getD 0 0) = false) : ∃ k, k ≠ 9 ∧ tokN (w ++ r) = (k, w, w.length, 0) := by
  obtain ⟨hl, _⟩ := wordB_len h
  have hg : (w ++ r).getD 0 0 = w.getD 0 0 := getD_app w r 0 hl
  unfold tokN
  rw [hg]
  by_cases hn : nameB w = true
  · obtain ⟨a, b, c, d⟩ := nameB_facts hn
    rw [if_pos c, runN_app w r a d hr, if_neg (by omega)]
    exact ⟨1, by decide, by simp⟩
  · have hli : litB w = true := by
      simp [wordB] at h
      rcases h with h | h
      · exact absurd h hn
      · exact h
    obtain ⟨a, b, c⟩ := litB_facts hli
    have hlet : ¬ letterB (w.getD 0 0) = true := by rw [a]; decide
    rw [if_neg hlet, if_pos a, litN_app w r b c, if_pos rfl]
    exact ⟨2, by decide, by simp⟩
theorem letter_no (c : Nat) (h : letterB c = true) : c ≠ 32 ∧ c ≠ 9 ∧ c ≠ 10 ∧ c ≠ 13 ∧ c ≠ 47 ∧ c ≠ 37 ∧ c ≠ 60 ∧ c ≠ 123 := by
  simp [letterB] at h
  omega
theorem skipN_word (w r : List Nat) (h : wordB w = true) : skipN (w ++ r) = (0, false) := by
  obtain ⟨hl, _⟩ := wordB_len h
  have hg : (w ++ r).getD 0 0 = w.getD 0 0 := getD_app w r 0 hl
  have hc : w.getD 0 0 ≠ 32 ∧ w.getD 0 0 ≠ 9 ∧ w.getD 0 0 ≠ 10 ∧ w.getD 0 0 ≠ 13 ∧ w.getD 0 0 ≠ 47 ∧ w.getD 0 0 ≠ 37 ∧ w.getD 0 0 ≠ 60 ∧ w.getD 0 0 ≠ 123 := by
    by_cases hn : nameB w = true
    · exact letter_no _ (nameB_facts hn).2.2.1
    · have hli : litB w = true := by
        simp [wordB] at h
        rcases h with h | h
        · exact absurd h hn
        · exact h
      rw [(litB_facts hli).1]
      decide
  obtain ⟨a, rest, rfl⟩ : ∃ a rest, w = a :: rest := by
    cases w with
    | nil => simp at hl
    | cons a rest => exact ⟨a, rest, rfl⟩
  have hga : (a :: rest).getD 0 0 = a := rfl
  rw [hga] at hc
  unfold skipN
  have e : (a :: rest ++ r).getD 0 0 = a := rfl
  obtain ⟨c1, c2, c3, c4, c5, c6, c7, c8⟩ := hc
  rw [e, if_neg (by omega)]
  have p1 : ¬ ([47, 42].isPrefixOf (a :: rest ++ r)) = true := by
    simp [List.isPrefixOf]; intro h; exact absurd h.symm c5
  have p2 : ¬ ([47, 47].isPrefixOf (a :: rest ++ r)) = true := by
    simp [List.isPrefixOf]; intro h; exact absurd h.symm c5
  have p3 : ¬ ([37, 123].isPrefixOf (a :: rest ++ r)) = true := by
    simp [List.isPrefixOf]; intro h; exact absurd h.symm c6
  rw [if_neg p1, if_neg p2, if_neg p3, if_neg c7, if_neg c8]

theorem skipN_blank (r : List Nat) : skipN (32 :: r) = (1, true) := by
  unfold skipN
  rw [if_pos (show (32 :: r).getD 0 0 = 32 ∨ _ from Or.inl rfl)]

theorem lex_words : ∀ (ws : List (List Nat)) (f : Nat) (pre : List Nat) (acc : List Tok), (∀ w ∈ ws, wordB w = true) → (flatB ws).length + 1 ≤ f →
    ∃ ts, lexGo f (flatB ws) pre 0 acc = (acc ++ ts, pre ++ flatB ws, 0) ∧ ts.map (fun t => t.2.1) = ws
  | [], f, pre, acc, _, hf => by
    refine ⟨[], ?_, rfl⟩
    cases f with
    | zero => omega
    | succ f => unfold lexGo; simp [flatB]
  | w :: ws, f, pre, acc, hw, hf => by
    have e : flatB (w :: ws) = w ++ (32 :: flatB ws) := by simp [flatB]
    have hw0 := hw w (by simp)
    obtain ⟨hl, _⟩ := wordB_len hw0
    rw [e] at hf ⊢
    simp only [List.length_append, List.length_cons] at hf
    obtain ⟨f, rfl⟩ : ∃ g, f = g + 2 := ⟨f - 2, by omega⟩
    obtain ⟨k, hk, htok⟩ := tokN_word w (32 :: flatB ws) hw0 (show innerB 32 = false by decide)
    obtain ⟨ts, h1, h2⟩ := lex_words ws f (pre ++ w ++ [32]) (acc ++ [(k, w, pre)]) (fun x hx => hw x (by simp [hx])) (by omega)
    refine ⟨(k, w, pre) :: ts, ?_, by simp [h2]⟩
    unfold lexGo
    have g1 : ¬ ((w ++ 32 :: flatB ws).length = 0 ∨ 0 = 2) := by simp
    rw [if_neg g1, skipN_word w _ hw0, if_neg (by simp), htok, if_pos rfl]
    simp only [List.drop_left, List.take_left]
    rw [if_neg hk]
    unfold lexGo
    rw [if_neg (by simp), skipN_blank, if_pos rfl, if_neg (by simp)]
    simp only [List.drop_succ_cons, List.drop_zero, List.take_succ_cons, List.take_zero]
    rw [h1]
    simp
theorem lexN_words (ws : List (List Nat)) (h : ∀ w ∈ ws, wordB w = true) : ∃ ts, lexN (flatB ws) = (ts, flatB ws, 0) ∧ ts.map (fun t => t.2.1) = ws := by
  obtain ⟨ts, h1, h2⟩ := lex_words ws ((flatB ws).length + 1) [] [] h (Nat.le_refl _)
  exact ⟨ts, by unfold lexN; rw [h1]; simp, h2⟩
theorem flatB_len (ws : List (List Nat)) (h : ∀ w ∈ ws, wordB w = true) : (flatB ws).length ≤ 21 * ws.length := by
  induction ws with
  | nil => simp [flatB]
  | cons w ws ih =>
    have := ih fun x hx => h x (by simp [hx])
    have hw := wordB_len (h w (by simp))
    have e : flatB (w :: ws) = w ++ (32 :: flatB ws) := by simp [flatB]
    rw [e]
    simp only [List.length_append, List.length_cons]
    omega
end Go.Proofs.Ytcmfflfgegadjaa
