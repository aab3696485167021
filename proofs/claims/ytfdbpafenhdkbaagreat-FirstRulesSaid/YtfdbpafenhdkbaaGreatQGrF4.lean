/- first and follow: what rules say, plainly: the rules' sets make up the nonterminals'; what follows a rule follows where it is used. -/
import Derived.Test.YtfdbpafenhdkbaaGreatQGrF3
namespace Go.Proofs.YtfdbpafenhdkbaaGreat
set_option linter.unusedVariables false
set_option linter.unusedSimpArgs false

def Sub (a b : Nat) : Prop := ∀ t, a.testBit t = true → b.testBit t = true
theorem Sub.refl (a : Nat) : Sub a a := fun _ h => h
theorem Sub.trans {a b c : Nat} (h : Sub a b) (k : Sub b c) : Sub a c := fun t ht => k t (h t ht)
theorem Sub.zero (a : Nat) : Sub 0 a := fun t h => by simp at h
theorem Sub.or {a b c : Nat} (h : Sub a c) (k : Sub b c) : Sub (a ||| b) c := fun t ht => by
  rw [Nat.testBit_or, Bool.or_eq_true] at ht
  exact ht.elim (h t) (k t)
theorem Sub.left (a b : Nat) : Sub a (a ||| b) := fun t h => by rw [Nat.testBit_or, h]; rfl
theorem Sub.right (a b : Nat) : Sub b (a ||| b) := fun t h => by rw [Nat.testBit_or, h]; simp
theorem Sub.of_or {a b : Nat} (h : a ||| b = a) : Sub b a := fun t ht => by rw [← h, Nat.testBit_or, ht]; simp
theorem Sub.anti {a b : Nat} (h : Sub a b) (k : Sub b a) : a = b := by
  apply Nat.eq_of_testBit_eq
  intro t
  have h1 := h t
  have h2 := k t
  cases ha : a.testBit t <;> cases hb : b.testBit t <;> simp_all
def SubS (A B : List Nat) : Prop := A.length = B.length ∧ ∀ i, Sub (A.getD i 0) (B.getD i 0)
theorem SubS.anti {A B : List Nat} (h : SubS A B) (k : SubS B A) : A = B := by
  apply List.ext_getElem h.1
  intro i h1 h2
  have := (h.2 i).anti (k.2 i)
  simpa [h1, h2] using this
theorem SubS.refl (A : List Nat) : SubS A A := ⟨rfl, fun _ => Sub.refl _⟩
theorem getD_addAt (i x : Nat) (F : List Nat) (j : Nat) : (addAt i x F).getD j 0 = if i = j ∧ i < F.length then F.getD i 0 ||| x else F.getD j 0 := by
  unfold addAt
  simp only [List.getD_eq_getElem?_getD, List.getElem?_set]
  by_cases h : i = j
  · subst h
    by_cases hi : i < F.length
    · simp [hi]
    · simp [hi]
  · simp [h]
theorem addAt_len (i x : Nat) (F : List Nat) : (addAt i x F).length = F.length := by simp [addAt]
theorem SubS.add {A B : List Nat} (h : SubS A B) {i x : Nat} (hx : Sub x (B.getD i 0)) : SubS (addAt i x A) B := by
  refine ⟨(addAt_len _ _ _).trans h.1, fun j => ?_⟩
  rw [getD_addAt]
  split
  · rename_i hc
    rw [← hc.1]
    exact (h.2 i).or hx
  · exact h.2 j
theorem SubS.grow (A : List Nat) (i x : Nat) : SubS A (addAt i x A) := by
  refine ⟨(addAt_len _ _ _).symm, fun j => ?_⟩
  rw [getD_addAt]
  split
  · rename_i hc
    rw [← hc.1]
    exact Sub.left _ _
  · exact Sub.refl _
theorem SubS.trans {A B C : List Nat} (h : SubS A B) (k : SubS B C) : SubS A C := ⟨h.1.trans k.1, fun i => (h.2 i).trans (k.2 i)⟩
theorem addAt_fix {i x : Nat} {F : List Nat} (h : addAt i x F = F) (hi : i < F.length) : F.getD i 0 ||| x = F.getD i 0 := by
  have := getD_addAt i x F i
  rw [h, if_pos ⟨rfl, hi⟩] at this
  exact this.symm
theorem beginGo_mono (N : List Bool) {X F : List Nat} (h : SubS X F) (rest : Nat) : ∀ (ss : List Int) (a b : Nat), Sub a b → Sub (beginGo N X rest ss a) (beginGo N F rest ss b)
  | [], a, b, hab => by
    rw [beginGo, beginGo]
    exact (hab.trans (Sub.left _ _)).or (Sub.right _ _)
  | s :: ss, a, b, hab => by
    rw [beginGo, beginGo]
    have hs : Sub (a ||| X.getD (nonI s) 0) (b ||| F.getD (nonI s) 0) := (hab.trans (Sub.left _ _)).or ((h.2 _).trans (Sub.right _ _))
    split
    · exact (hab.trans (Sub.left _ _)).or (Sub.right _ _)
    · split
      · exact beginGo_mono N h rest ss _ _ hs
      · exact hs
theorem growF_fix {N : List Bool} : ∀ {rs : List Rul} {F : List Nat}, passF N rs F = F → ∀ r ∈ rs, growF N r F = F
  | [], F, _, r, hr => by cases hr
  | q :: rs, F, h, r, hr => by
    have h0 : growF N q F = F := GrowsS.anti (growF_grows N q) (passF_grows N rs) h
    rcases List.mem_cons.1 hr with rfl | hr
    · exact h0
    · refine growF_fix (rs := rs) ?_ r hr
      have : passF N rs (growF N q F) = F := h
      rwa [h0] at this
/-- what the rules begin with, for each nonterminal together -/
def sumF (N : List Bool) (F : List Nat) (rs : List Rul) (S : List Nat) : List Nat := rs.foldl (fun S r => addAt r.left.toNat (beginP N F r.right 0) S) S
theorem sumF_snoc (N : List Bool) (F : List Nat) (rs : List Rul) (r : Rul) (S : List Nat) : sumF N F (rs ++ [r]) S = addAt r.left.toNat (beginP N F r.right 0) (sumF N F rs S) := by simp [sumF]
theorem sumF_len (N : List Bool) (F : List Nat) (rs : List Rul) (S : List Nat) : (sumF N F rs S).length = S.length := by
  induction rs generalizing S with
  | nil => rfl
  | cons r rs ih => exact (ih _).trans (addAt_len _ _ _)
theorem sumF_small (N : List Bool) {F : List Nat} (hF : Small F) (rs : List Rul) {S : List Nat} (h : Small S) : Small (sumF N F rs S) := by
  induction rs generalizing S with
  | nil => exact h
  | cons r rs ih => exact ih (h.addAt _ (beginGo_lt N hF (by decide) _ _ (by decide)))
theorem sumF_grow (N : List Bool) (F : List Nat) (rs : List Rul) (S : List Nat) : SubS S (sumF N F rs S) := by
  induction rs generalizing S with
  | nil => exact SubS.refl _
  | cons r rs ih => exact (SubS.grow S r.left.toNat (beginP N F r.right 0)).trans (ih _)
theorem sumF_has (N : List Bool) (F : List Nat) : ∀ (rs : List Rul) (S : List Nat) (r : Rul), r ∈ rs → r.left.toNat < S.length → Sub (beginP N F r.right 0) ((sumF N F rs S).getD r.left.toNat 0)
  | [], S, r, hr, _ => by cases hr
  | q :: rs, S, r, hr, hl => by
    rcases List.mem_cons.1 hr with rfl | hr
    · refine Sub.trans ?_ ((sumF_grow N F rs (addAt r.left.toNat (beginP N F r.right 0) S)).2 r.left.toNat)
      rw [getD_addAt, if_pos ⟨rfl, hl⟩]
      exact Sub.right _ _
    · exact sumF_has N F rs _ r hr (by rw [addAt_len]; exact hl)
theorem sumF_le {N : List Bool} {F : List Nat} : ∀ {rs : List Rul} {S : List Nat}, (∀ r ∈ rs, growF N r F = F ∧ r.left.toNat < F.length) → SubS S F → SubS (sumF N F rs S) F
  | [], S, _, h => h
  | q :: rs, S, hr, h => sumF_le (rs := rs) (fun r hm => hr r (List.mem_cons_of_mem _ hm)) (h.add (Sub.of_or (addAt_fix (hr q (List.mem_cons_self ..)).1 (hr q (List.mem_cons_self ..)).2)))
theorem pass_le {N : List Bool} {F T : List Nat} : ∀ {rs : List Rul} {X : List Nat}, (∀ r ∈ rs, Sub (beginP N F r.right 0) (F.getD r.left.toNat 0) ∧ Sub (beginP N F r.right 0) (T.getD r.left.toNat 0)) → SubS X F → SubS X T → SubS (passF N rs X) F ∧ SubS (passF N rs X) T
  | [], X, _, h1, h2 => ⟨h1, h2⟩
  | q :: rs, X, hr, h1, h2 => by
    obtain ⟨k1, k2⟩ := hr q (List.mem_cons_self ..)
    have hm : Sub (beginP N X q.right 0) (beginP N F q.right 0) := beginGo_mono N h1 0 q.right 0 0 (Sub.refl _)
    exact pass_le (rs := rs) (X := growF N q X) (fun r hm => hr r (List.mem_cons_of_mem _ hm)) (h1.add (hm.trans k1)) (h2.add (hm.trans k2))
theorem iter_le {N : List Bool} {F T : List Nat} {rs : List Rul} (hr : ∀ r ∈ rs, Sub (beginP N F r.right 0) (F.getD r.left.toNat 0) ∧ Sub (beginP N F r.right 0) (T.getD r.left.toNat 0)) {X : List Nat} (h1 : SubS X F) (h2 : SubS X T) : ∀ n, SubS (iter (passF N rs) n X) F ∧ SubS (iter (passF N rs) n X) T
  | 0 => ⟨h1, h2⟩
  | n + 1 => pass_le hr (iter_le hr h1 h2 n).1 (iter_le hr h1 h2 n).2
theorem zeros_sub {n : Nat} {B : List Nat} (h : B.length = n) : SubS (List.replicate n 0) B := ⟨by simp [h], fun i => by
  have : (List.replicate n 0).getD i 0 = 0 := by
    rw [List.getD_eq_getElem?_getD, List.getElem?_replicate]
    split <;> rfl
  rw [this]
  exact Sub.zero _⟩
/-- what nonterminals begin with is what their rules do, together -/
theorem sum_first {G : Gr} (hf : G.Fits) : sumF (nullN G) (firstN G) G.rules (List.replicate G.nons.length 0) = firstN G := by
  have hlen : (firstN G).length = G.nons.length := by
    unfold firstN
    have : ∀ n, (iter (passF (nullN G) G.rules) n (List.replicate G.nons.length 0)).length = G.nons.length := by
      intro n
      induction n with
      | zero => simp [iter]
      | succ n ih => exact ((passF_grows (nullN G) G.rules).len _).trans ih
    exact this _
  have hfix := growF_fix (firstN_fix G)
  have hleft : ∀ r ∈ G.rules, r.left.toNat < G.nons.length := fun r hr => by have := hf.left r hr; omega
  have hle : SubS (sumF (nullN G) (firstN G) G.rules (List.replicate G.nons.length 0)) (firstN G) := sumF_le (fun r hr => ⟨hfix r hr, by rw [hlen]; exact hleft r hr⟩) (zeros_sub hlen)
  refine hle.anti ?_
  have hr : ∀ r ∈ G.rules, Sub (beginP (nullN G) (firstN G) r.right 0) ((firstN G).getD r.left.toNat 0) ∧ Sub (beginP (nullN G) (firstN G) r.right 0) ((sumF (nullN G) (firstN G) G.rules (List.replicate G.nons.length 0)).getD r.left.toNat 0) := fun r hr =>
    ⟨Sub.of_or (addAt_fix (hfix r hr) (by rw [hlen]; exact hleft r hr)), sumF_has _ _ _ _ r hr (by simpa using hleft r hr)⟩
  have := (iter_le hr (zeros_sub hlen) (zeros_sub (by rw [sumF_len]; simp)) G.nons.length).2
  exact this
/-- what follows a rule follows where it is used -/
theorem posW_fix {N : List Bool} {F : List Nat} {r : Rul} {W : List Nat} : ∀ (k : Nat), k ≤ r.right.length → posW N F r k W = W → ∀ p s, p < k → r.right[p]? = some s → growW N F r p s W = W
  | 0, _, _, p, s, hp, _ => by omega
  | k + 1, hk, h, p, s, hp, hs => by
    have hs0 : r.right[k]? = some (r.right[k]'(by omega)) := List.getElem?_eq_getElem (by omega)
    rw [posW_succ N F r k W _ hs0] at h
    have h0 : posW N F r k W = W := GrowsS.anti (posW_grows N F r k) (growW_grows N F r k _) h
    rw [h0] at h
    rcases Nat.lt_or_ge p k with hlt | hge
    · exact posW_fix k (by omega) h0 p s hlt hs
    · obtain rfl : p = k := by omega
      rw [hs0] at hs
      injection hs with hs
      rw [← hs]
      exact h
theorem growW_fix {N : List Bool} {F : List Nat} : ∀ {rs : List Rul} {W : List Nat}, passW N F rs W = W → ∀ r ∈ rs, ∀ p s, r.right[p]? = some s → growW N F r p s W = W
  | [], W, _, r, hr => by cases hr
  | q :: rs, W, h, r, hr => by
    have h0 : posW N F q q.right.length W = W := GrowsS.anti (posW_grows N F q _) (passW_grows N F rs) h
    rcases List.mem_cons.1 hr with rfl | hr
    · intro p s hs
      exact posW_fix _ (Nat.le_refl _) h0 p s (List.getElem?_eq_some_iff.1 hs).1 hs
    · refine growW_fix (rs := rs) ?_ r hr
      have : passW N F rs (posW N F q q.right.length W) = W := h
      rwa [h0] at this
theorem followN_len (G : Gr) : (followN G).length = G.nons.length := by
  unfold followN
  have : ∀ n, (iter (passW (nullN G) (firstN G) G.rules) n (startW G)).length = G.nons.length := by
    intro n
    induction n with
    | zero => simp [iter, startW]
    | succ n ih => exact ((passW_grows (nullN G) (firstN G) G.rules).len _).trans ih
  exact this _
theorem follow_in {G : Gr} (hf : G.Fits) {r : Rul} (hr : r ∈ G.rules) {p : Nat} {s : Int} (hs : r.right[p]? = some s) (h0 : s < 0) :
    (followN G).getD (nonI s) 0 ||| beginP (nullN G) (firstN G) (r.right.drop (p + 1)) ((followN G).getD r.left.toNat 0) = (followN G).getD (nonI s) 0 := by
  have h := growW_fix (followN_fix G) r hr p s hs
  unfold growW at h
  rw [if_pos h0] at h
  refine addAt_fix h ?_
  rw [followN_len]
  have := (hf.sym r hr s (List.mem_of_getElem? hs)).1
  unfold nonI
  omega
theorem growsS_sub {f : List Nat → List Nat} (hf : GrowsS f) (F : List Nat) : SubS F (f F) := by
  refine ⟨(hf.len F).symm, fun i t ht => ?_⟩
  obtain ⟨p, h1, h2⟩ := hf
  rw [view_getD] at ht ⊢
  rw [h2]
  rw [List.getD_eq_getElem?_getD] at ht ⊢
  cases hx : (viewB t F)[i]? with
  | none => rw [hx] at ht; cases ht
  | some b =>
    rw [hx] at ht
    simp only [Option.getD_some] at ht
    subst ht
    have := (h1 t).2 _ _ hx
    rw [this]
    rfl
/-- the end follows the start -/
theorem follow_start {G : Gr} (hf : G.Fits) : ((followN G).getD G.start.toNat 0).testBit G.terms.length = true := by
  have hsub : ∀ n, SubS (startW G) (iter (passW (nullN G) (firstN G) G.rules) n (startW G)) := by
    intro n
    induction n with
    | zero => exact SubS.refl _
    | succ n ih => exact ih.trans (growsS_sub (passW_grows (nullN G) (firstN G) G.rules) _)
  refine (hsub G.nons.length).2 G.start.toNat _ ?_
  have hs := hf.st
  have h1 : G.start.toNat < G.nons.length := by omega
  unfold startW
  rw [List.getD_eq_getElem?_getD, List.getElem?_set_self (by simpa using h1)]
  show (bitN (G.terms.length : Int)).testBit G.terms.length = true
  rw [show bitN (G.terms.length : Int) = 2 ^ G.terms.length by have := hf.n1; simp [bitN]; omega]
  exact Nat.testBit_two_pow_self
end Go.Proofs.YtfdbpafenhdkbaaGreat
