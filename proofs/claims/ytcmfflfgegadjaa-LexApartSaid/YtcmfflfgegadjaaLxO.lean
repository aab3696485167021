/- lex: what the tokens of a text are like (no program in sight). -/
import Derived.Test.YtcmfflfgegadjaaLxL2
namespace Go.Proofs.Ytcmfflfgegadjaa
set_option linter.unusedVariables false
set_option linter.unusedSimpArgs false

/-- a token that stands in a text -/
structure TokOK (bs : List Nat) (t : Tok) : Prop where
  pre : t.2.2 = bs.take t.2.2.length
  lt : t.2.2.length < bs.length
  le : t.2.2.length + t.2.1.length ≤ bs.length
  text : (bs.drop t.2.2.length).take t.2.1.length = t.2.1
  name : (t.1 == 1) = nameB t.2.1
  lit : (t.1 == 2) = litB t.2.1
  small : t.1 ≤ 12

/-- the tokens stand one behind the other -/
abbrev Rising (ts : List Tok) : Prop := ts.Pairwise fun s t => s.2.2.length < t.2.2.length

theorem getD_take (l : List Nat) (n j : Nat) (h : j < n) : (l.take n).getD j 0 = l.getD j 0 := by
  rw [List.getD_eq_getElem?_getD, List.getD_eq_getElem?_getD, List.getElem?_take, if_pos h]
theorem litN_take (l : List Nat) (h : (litN l).2 = 0) : litN (l.take (litN l).1) = litN l := by
  revert h
  unfold litN
  by_cases h2 : l.length < 2
  · simp [h2]
  rw [if_neg h2]
  by_cases hp : plainB (l.getD 1 0) = true
  · rw [if_pos hp]
    by_cases h3 : l.length ≤ 2
    · simp [h3]
    rw [if_neg h3]
    by_cases h4 : l.getD 2 0 = 39
    · rw [if_pos h4]
      intro _
      have hl : (l.take 3).length = 3 := by rw [List.length_take]; omega
      simp only []
      rw [getD_take l 3 1 (by omega), getD_take l 3 2 (by omega), hl, if_pos hp, if_pos h4]
      simp
    · rw [if_neg h4]; simp
  · rw [if_neg hp]
    by_cases h92 : l.getD 1 0 ≠ 92
    · rw [if_pos h92]; simp
    rw [if_neg h92]
    by_cases h3 : l.length < 3
    · simp [h3]
    rw [if_neg h3]
    by_cases he : (!escapedB (l.getD 2 0)) = true
    · rw [if_pos he]; simp
    rw [if_neg he]
    by_cases h4 : l.length ≤ 3
    · simp [h4]
    rw [if_neg h4]
    by_cases h5 : l.getD 3 0 = 39
    · rw [if_pos h5]
      intro _
      have hl : (l.take 4).length = 4 := by rw [List.length_take]; omega
      simp only []
      rw [getD_take l 4 1 (by omega), getD_take l 4 2 (by omega), getD_take l 4 3 (by omega), hl, if_neg hp, if_neg h92, if_neg he, if_pos h5]
      simp
    · rw [if_neg h5]; simp
theorem wordU_kinds (l : List UInt8) : wordU l = 0 ∨ (3 ≤ wordU l ∧ wordU l ≤ 12) := by
  unfold wordU
  (repeat' split) <;> simp
/-- a token that has been read -/
theorem tokN_ok (l : List Nat) (h0 : 0 < l.length) (he : (tokN l).2.2.2 = 0) :
    (tokN l).2.1.length ≤ (tokN l).2.2.1 ∧ l.take (tokN l).2.1.length = (tokN l).2.1 ∧ ((tokN l).1 == 1) = nameB (tokN l).2.1 ∧ ((tokN l).1 == 2) = litB (tokN l).2.1 ∧ (tokN l).1 ≤ 12 := by
  revert he
  unfold tokN
  by_cases hl : letterB (l.getD 0 0) = true
  · rw [if_pos hl]
    by_cases hr : 20 < runN innerB l
    · rw [if_pos hr]; simp
    rw [if_neg hr]
    intro _
    obtain ⟨r1, r2⟩ := runN_le innerB l h0
    have hlen : (l.take (runN innerB l)).length = runN innerB l := by rw [List.length_take]; omega
    have hn : nameB (l.take (runN innerB l)) = true := by
      refine nameB_yes (by omega) (by omega) ?_ fun j hj => ?_
      · rw [getD_take _ _ _ (by omega)]; exact hl
      · rw [hlen] at hj
        rw [getD_take _ _ _ hj]
        cases j with
        | zero => unfold innerB; rw [hl]; rfl
        | succ j =>
          have hj' : j < ((l.drop 1).takeWhile innerB).length := by unfold runN at hj; omega
          have hm : ((l.drop 1).takeWhile innerB)[j]'hj' ∈ (l.drop 1).takeWhile innerB := List.getElem_mem hj'
          have ha := List.all_takeWhile (p := innerB) (l := l.drop 1)
          rw [List.all_eq_true] at ha
          have hb := ha _ hm
          have hp := (List.takeWhile_prefix innerB (l := l.drop 1)).getElem hj'
          rw [hp] at hb
          have : l.getD (j + 1) 0 = (l.drop 1)[j]'(Nat.lt_of_lt_of_le hj' (List.takeWhile_prefix innerB).length_le) := by
            rw [List.getElem_drop, List.getD_eq_getElem?_getD, List.getElem?_eq_getElem (by omega)]
            simp [Nat.add_comm]
          rw [this]; exact hb
    have hx := name_not_lit (l.take (runN innerB l))
    rw [hn] at hx
    have hlit : litB (l.take (runN innerB l)) = false := by simpa using hx
    refine ⟨by simp only [hlen]; exact Nat.le_refl _, by simp only [hlen], by simp only [hn]; rfl, by simp only [hlit]; rfl, (by decide : 1 ≤ 12)⟩
  rw [if_neg hl]
  by_cases hq : l.getD 0 0 = 39
  · rw [if_pos hq]
    by_cases hz : (litN l).2 = 0
    · rw [if_pos hz]
      intro _
      obtain ⟨r1, r2⟩ := litN_le l hz
      have hlen : (l.take (litN l).1).length = (litN l).1 := by rw [List.length_take]; omega
      have hlit : litB (l.take (litN l).1) = true := by
        rw [litB_lit, litN_take l hz, getD_take _ _ _ (by omega), hq, hz, hlen]
        simp
      have hx := name_not_lit (l.take (litN l).1)
      rw [hlit] at hx
      have hn : nameB (l.take (litN l).1) = false := by simpa using hx
      refine ⟨by simp only [hlen]; exact Nat.le_refl _, by simp only [hlen], by simp only [hn]; rfl, by simp only [hlit]; rfl, (by decide : 2 ≤ 12)⟩
    · rw [if_neg hz]
      intro h; exact absurd h hz
  · rw [if_neg hq]
    intro h
    have hk := wordU_kinds ((l.take (signN l)).map UInt8.ofNat)
    have hk0 : wordN (l.take (signN l)) ≠ 0 := by
      intro h0; rw [h0] at h; simp at h
    have hk' : wordN (l.take (signN l)) = 0 ∨ (3 ≤ wordN (l.take (signN l)) ∧ wordN (l.take (signN l)) ≤ 12) := hk
    generalize wordN (l.take (signN l)) = k at *
    refine ⟨Nat.zero_le _, by simp, ?_, ?_, by simp only []; omega⟩
    · have : (k == 1) = false := by rw [beq_eq_false_iff_ne]; omega
      simp only [this]; rfl
    · have : (k == 2) = false := by rw [beq_eq_false_iff_ne]; omega
      simp only [this]; rfl

/-- what is carried from token to token -/
theorem lex_inv (bs : List Nat) : ∀ (f : Nat) (l pre : List Nat) (mk : Nat) (acc : List Tok), pre ++ l = bs → (∀ t ∈ acc, TokOK bs t ∧ t.2.2.length < pre.length) → Rising acc →
    ((lexGo f l pre mk acc).2.2 ≠ 0 → (lexGo f l pre mk acc).1 = []) ∧
    ((lexGo f l pre mk acc).2.2 = 0 → (∀ t ∈ (lexGo f l pre mk acc).1, TokOK bs t) ∧ Rising (lexGo f l pre mk acc).1 ∧ (lexGo f l pre mk acc).2.1 = bs) := by
  intro f
  induction f with
  | zero =>
    intro l pre mk acc _ _ _
    exact ⟨fun _ => rfl, fun h => by simp [lexGo] at h⟩
  | succ f ih =>
    intro l pre mk acc hbs hacc hr
    unfold lexGo
    by_cases hend : l.length = 0 ∨ mk = 2
    · rw [if_pos hend]
      exact ⟨fun h => absurd rfl h, fun _ => ⟨fun t ht => (hacc t ht).1, hr, hbs⟩⟩
    rw [if_neg hend]
    have h0 : 0 < l.length := by omega
    by_cases hs : (skipN l).2 = true
    · rw [if_pos hs]
      by_cases hz : (skipN l).1 = 0
      · rw [if_pos hz]
        exact ⟨fun _ => rfl, fun h => by simp at h⟩
      · rw [if_neg hz]
        have hle : (skipN l).1 ≤ l.length := by
          rcases skipN_le l h0 with h | h <;> omega
        refine ih _ _ _ _ ?_ (fun t ht => ⟨(hacc t ht).1, ?_⟩) hr
        · rw [List.append_assoc, List.take_append_drop]; exact hbs
        · have := (hacc t ht).2
          rw [List.length_append, List.length_take]; omega
    · rw [if_neg hs]
      by_cases he : (tokN l).2.2.2 = 0
      · rw [if_pos he]
        obtain ⟨k1, k2, k3, k4, k5⟩ := tokN_ok l h0 he
        obtain ⟨m1, m2⟩ := tokN_le l h0 he
        have hpl : (pre ++ l).length = bs.length := by rw [hbs]
        rw [List.length_append] at hpl
        refine ih _ _ _ _ ?_ ?_ ?_
        · rw [List.append_assoc, List.take_append_drop]; exact hbs
        · intro t ht
          rw [List.mem_append] at ht
          rcases ht with ht | ht
          · refine ⟨(hacc t ht).1, ?_⟩
            have := (hacc t ht).2
            rw [List.length_append, List.length_take]; omega
          · simp only [List.mem_singleton] at ht
            subst ht
            refine ⟨⟨?_, ?_, ?_, ?_, k3, k4, k5⟩, ?_⟩
            · rw [← hbs]; simp
            · simp only []; omega
            · simp only []; omega
            · rw [← hbs]; simpa using k2
            · simp only [List.length_append, List.length_take]; omega
        · rw [Rising, List.pairwise_append]
          refine ⟨hr, List.pairwise_singleton _ _, fun a ha b hb => ?_⟩
          simp only [List.mem_singleton] at hb
          subst hb
          exact (hacc a ha).2
      · rw [if_neg he]
        exact ⟨fun _ => rfl, fun h => absurd h he⟩

theorem lex_ok (bs : List Nat) :
    ((lexN bs).2.2 ≠ 0 → (lexN bs).1 = []) ∧ ((lexN bs).2.2 = 0 → (∀ t ∈ (lexN bs).1, TokOK bs t) ∧ Rising (lexN bs).1 ∧ (lexN bs).2.1 = bs) :=
  lex_inv bs _ _ _ _ _ rfl (fun t ht => by cases ht) List.Pairwise.nil
end Go.Proofs.Ytcmfflfgegadjaa
