/- draw: what the laws say, of plain numbers. -/
import Derived.Test.YtapnnnciaagbdaaDrW8
namespace Go.Proofs.Ytapnnnciaagbdaa
set_option linter.unusedVariables false
set_option linter.unusedSimpArgs false

theorem drawF_res (v K N : Nat) : ∀ (f at_ : Nat) (ws : List Nat), (drawF v K N f at_ ws = ([], 0, 12)) ∨ ∃ t n, drawF v K N f at_ ws = (limbs t, n, 0) ∧ t < v ∧ at_ ≤ n ∧ n ≤ at_ + ws.length
  | 0, _, _ => .inl rfl
  | f + 1, at_, ws => by
    rw [drawF]
    by_cases h : N ≤ ws.length
    · rw [if_pos h]
      by_cases h2 : val (ws.take N) % 2 ^ K < v
      · rw [if_pos h2]
        exact .inr ⟨_, _, rfl, h2, by omega, by omega⟩
      · rw [if_neg h2]
        rcases drawF_res v K N f (at_ + N) (ws.drop N) with h3 | ⟨t, n, h3, h4, h5, h6⟩
        · exact .inl h3
        · refine .inr ⟨t, n, h3, h4, by omega, ?_⟩
          rw [List.length_drop] at h6
          omega
    · rw [if_neg h]
      exact .inl rfl

/-- more words behind change nothing -/
theorem drawF_more (v K N : Nat) (more : List Nat) : ∀ (f at_ : Nat) (ws : List Nat) (x : List Nat) (n : Nat), drawF v K N f at_ ws = (x, n, 0) → ∀ g, f ≤ g → drawF v K N g at_ (ws ++ more) = (x, n, 0)
  | 0, _, _, _, _, h, _, _ => by simp [drawF] at h
  | f + 1, at_, ws, x, n, h, g, hg => by
    obtain ⟨g, rfl⟩ : ∃ k, g = k + 1 := ⟨g - 1, by omega⟩
    rw [drawF] at h ⊢
    by_cases h1 : N ≤ ws.length
    · rw [if_pos h1] at h
      rw [if_pos (by rw [List.length_append]; omega), List.take_append_of_le_length h1, List.drop_append_of_le_length h1]
      by_cases h2 : val (ws.take N) % 2 ^ K < v
      · rw [if_pos h2] at h ⊢
        exact h
      · rw [if_neg h2] at h ⊢
        exact drawF_more v K N more f _ _ _ _ h g (by omega)
    · rw [if_neg h1] at h
      simp at h

/-- the place where one begins -/
theorem drawF_shift (v K N s : Nat) : ∀ (f at_ : Nat) (ws : List Nat), drawF v K N f (at_ + s) ws = if (drawF v K N f at_ ws).2.2 = 0 then ((drawF v K N f at_ ws).1, (drawF v K N f at_ ws).2.1 + s, 0) else drawF v K N f at_ ws
  | 0, _, _ => by simp [drawF]
  | f + 1, at_, ws => by
    rw [drawF, drawF]
    by_cases h1 : N ≤ ws.length
    · rw [if_pos h1, if_pos h1]
      by_cases h2 : val (ws.take N) % 2 ^ K < v
      · rw [if_pos h2, if_pos h2]
        simp; omega
      · rw [if_neg h2, if_neg h2]
        have := drawF_shift v K N s f (at_ + N) (ws.drop N)
        rw [← this]
        congr 1; omega
    · rw [if_neg h1, if_neg h1]
      simp

/-- enough rounds are enough -/
theorem drawF_fuel (v K N : Nat) (hN : 0 < N) : ∀ (f at_ : Nat) (ws : List Nat), ws.length < f → ∀ g, f ≤ g → drawF v K N g at_ ws = drawF v K N f at_ ws
  | 0, _, _, h, _, _ => by omega
  | f + 1, at_, ws, h, g, hg => by
    obtain ⟨g, rfl⟩ : ∃ k, g = k + 1 := ⟨g - 1, by omega⟩
    rw [drawF, drawF]
    by_cases h1 : N ≤ ws.length
    · rw [if_pos h1, if_pos h1]
      rw [drawF_fuel v K N hN f (at_ + N) (ws.drop N) (by rw [List.length_drop]; omega) g (by omega)]
    · rw [if_neg h1, if_neg h1]

theorem need_zero (xs : List Nat) (lx : Lim xs) (r : rightB xs = true) (h0 : xs.length ≠ 0) (hn : needN xs = 0) : val xs = 1 := by
  obtain ⟨ex, hb⟩ := limbs_of_right xs lx r
  have hpos : 0 < val xs := by
    rcases Nat.eq_zero_or_pos (val xs) with h | h
    · rw [h, limbs_zero] at ex
      rw [ex] at h0
      simp at h0
    · exact h
  have hs : sizeN xs = 0 := by unfold needN at hn; omega
  have r1 : rightB (limbs 1) = true := right_of_limbs 1 (small_big 1 (by decide))
  have hsub : subN xs (limbs 1) = (limbs (val xs - 1), 0) := by
    simp [subN, r, r1, val_limbs]; omega
  unfold sizeN at hs
  rw [hsub] at hs
  have rr := right_of_limbs (val xs - 1) (by omega)
  simp only [bitsN, rr, if_true, val_limbs] at hs
  by_cases h : val xs - 1 = 0
  · omega
  · simp only [bitLen] at hs
    split at hs <;> omega

theorem size_of_limbs (n : Nat) (h1 : 1 ≤ n) (hb : n < big) : sizeN (limbs n) = bitLen (n - 1) := by
  have r := right_of_limbs n hb
  have r1 : rightB (limbs 1) = true := right_of_limbs 1 (small_big 1 (by decide))
  have hsub : subN (limbs n) (limbs 1) = (limbs (n - 1), 0) := by
    simp [subN, r, r1, val_limbs]; omega
  unfold sizeN
  rw [hsub]
  have rr := right_of_limbs (n - 1) (by omega)
  simp only [bitsN, rr, if_true, val_limbs]

/-- whatever comes: drawn, or refused -/
theorem below_res (xs ws : List Nat) (lx : Lim xs) : (∃ e, e ≠ 0 ∧ belowN xs ws = ([], 0, e)) ∨ ∃ t n, belowN xs ws = (limbs t, n, 0) ∧ rightB xs = true ∧ xs.length ≠ 0 ∧ t < val xs ∧ n ≤ ws.length := by
  unfold belowN
  by_cases h1 : rightB xs = true ∧ xs.length ≠ 0
  · rw [if_neg (by simpa using h1)]
    by_cases h2 : 1000 < ws.length
    · rw [if_pos h2]; exact .inl ⟨5, by decide, rfl⟩
    · rw [if_neg h2]
      by_cases h3 : needN xs = 0
      · rw [if_pos h3]
        have := need_zero xs lx h1.1 h1.2 h3
        exact .inr ⟨0, 0, by rw [limbs_zero], h1.1, h1.2, by omega, by omega⟩
      · rw [if_neg h3]
        rcases drawF_res (val xs) (sizeN xs) (needN xs) (ws.length + 1) 0 ws with h | ⟨t, n, h4, h5, _, h6⟩
        · exact .inl ⟨12, by decide, h⟩
        · exact .inr ⟨t, n, h4, h1.1, h1.2, h5, by omega⟩
  · rw [if_pos h1]; exact .inl ⟨1, by decide, rfl⟩

theorem below_more (xs ws more : List Nat) (x : List Nat) (n : Nat) (h : belowN xs ws = (x, n, 0)) (hl : ws.length + more.length ≤ 1000) : belowN xs (ws ++ more) = (x, n, 0) := by
  unfold belowN at h ⊢
  by_cases h1 : rightB xs = true ∧ xs.length ≠ 0
  · rw [if_neg (by simpa using h1)] at h ⊢
    rw [if_neg (by omega)] at h
    rw [if_neg (by rw [List.length_append]; omega)]
    by_cases h3 : needN xs = 0
    · rw [if_pos h3] at h ⊢; exact h
    · rw [if_neg h3] at h ⊢
      exact drawF_more _ _ _ more _ _ _ _ _ h _ (by rw [List.length_append]; omega)
  · rw [if_pos h1] at h
    simp at h

/-- a try that draws nothing, and then others -/
theorem below_again (xs first ws : List Nat) (hf : first.length = needN xs) (hn : needN xs ≠ 0) (h12 : (belowN xs first).2.2 = 12) (hl : ws.length ≤ 500) (hfl : first.length ≤ 40) :
    belowN xs (first ++ ws) = if (belowN xs ws).2.2 = 0 then ((belowN xs ws).1, (belowN xs ws).2.1 + needN xs, 0) else ([], 0, (belowN xs ws).2.2) := by
  unfold belowN at h12 ⊢
  by_cases h1 : rightB xs = true ∧ xs.length ≠ 0
  · have hN : 0 < needN xs := by omega
    have hnn : ¬ ¬ (rightB xs = true ∧ xs.length ≠ 0) := fun h => h h1
    simp only [if_neg hnn, if_neg hn] at h12 ⊢
    rw [if_neg (show ¬ 1000 < (first ++ ws).length by rw [List.length_append]; omega), if_neg (show ¬ 1000 < ws.length by omega)]
    rw [if_neg (show ¬ 1000 < first.length by omega)] at h12
    have hbad : ¬ val first % 2 ^ sizeN xs < val xs := by
      intro hlt
      rw [drawF, if_pos (by omega), List.take_of_length_le (by omega), if_pos hlt] at h12
      simp at h12
    have e1 : drawF (val xs) (sizeN xs) (needN xs) ((first ++ ws).length + 1) 0 (first ++ ws) = drawF (val xs) (sizeN xs) (needN xs) ((first ++ ws).length) (0 + needN xs) ws := by
      rw [drawF, if_pos (by rw [List.length_append]; omega), List.take_append_of_le_length (by omega), List.take_of_length_le (by omega), if_neg hbad, List.drop_append_of_le_length (by omega),
        List.drop_of_length_le (by omega), List.nil_append]
    rw [e1, drawF_shift, drawF_fuel _ _ _ hN (ws.length + 1) 0 ws (by omega) _ (by rw [List.length_append]; omega)]
    rcases drawF_res (val xs) (sizeN xs) (needN xs) (ws.length + 1) 0 ws with h | ⟨t, n, h4, h5, _, h6⟩
    · rw [h]
    · rw [h4]; simp
  · rw [if_pos h1] at h12
    simp at h12

/-- one word, at the first try -/
theorem below_even (n K w : Nat) (h2 : 2 ≤ n) (hn : n ≤ 600) (hK : 2 ^ K < 2 * n) (hK2 : n ≤ 2 ^ K) (hw : w < 2 ^ K) :
    belowN (limbs n) [w] = if w < n then (limbs w, 1, 0) else ([], 0, 12) := by
  have hb : n < big := small_big n (by omega)
  have r := right_of_limbs n hb
  have hl : (limbs n).length ≠ 0 := by
    intro h
    have := val_limbs n
    rw [List.eq_nil_of_length_eq_zero h] at this
    simp [val] at this
    omega
  have hs := size_of_limbs n (by omega) hb
  have hKb : bitLen (n - 1) = K := by
    simp only [bitLen]
    rw [if_neg (by omega)]
    have h1 : K - 1 = (n - 1).log2 := by
      symm
      have hK0 : 0 < K := by
        rcases Nat.eq_zero_or_pos K with h | h
        · rw [h] at hK2; simp at hK2; omega
        · exact h
      have e : 2 ^ K = 2 * 2 ^ (K - 1) := by rw [← Nat.pow_succ']; congr 1; omega
      have e2 : 2 ^ (K - 1 + 1) = 2 * 2 ^ (K - 1) := by rw [Nat.pow_succ']
      exact (Nat.log2_eq_iff (by omega)).2 ⟨by omega, by rw [e2]; omega⟩
    have hK0 : 0 < K := by
      rcases Nat.eq_zero_or_pos K with h | h
      · rw [h] at hK2; simp at hK2; omega
      · exact h
    omega
  rw [hKb] at hs
  have hK10 : K ≤ 11 := by
    rcases Nat.lt_or_ge 11 K with h | h
    · have := Nat.pow_le_pow_right (n := 2) (by decide) (show 12 ≤ K by omega)
      omega
    · exact h
  have hK0 : 0 < K := by
    rcases Nat.eq_zero_or_pos K with h | h
    · rw [h] at hK2; simp at hK2; omega
    · exact h
  have hneed : needN (limbs n) = 1 := by unfold needN; omega
  unfold belowN
  rw [if_neg (fun h => h ⟨r, hl⟩), if_neg (by simp), hneed, if_neg (by decide), hs, val_limbs, drawF, if_pos (by simp)]
  have e : val ([w].take 1) % 2 ^ K = w := by simp [val, Nat.mod_eq_of_lt hw]
  rw [e]
  split
  · rfl
  · simp [drawF]
end Go.Proofs.Ytapnnnciaagbdaa
