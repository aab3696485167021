/- what the laws of cycles say, plainly: passes over all places from one; an order's prefixes (no program in sight). -/
import Derived.Test.YtfdbpafenhdkbaaGreatDoorQCyW14
namespace Go.Proofs.YtfdbpafenhdkbaaGreatDoor
set_option linter.unusedVariables false
set_option linter.unusedSimpArgs false

/-! ### all to which one comes, by passes -/
def goI (S : List Nat) (R i : Nat) : Nat := if R.testBit i then R ||| S.getD i 0 else R
def passG (S : List Nat) (m R : Nat) : Nat := (List.range m).foldl (goI S) R
theorem passG_succ (S : List Nat) (m R : Nat) : passG S (m + 1) R = goI S (passG S m R) m := by
  unfold passG
  rw [List.range_succ, List.foldl_append]
  rfl
theorem goI_up {S : List Nat} {R i t : Nat} (h : R.testBit t = true) : (goI S R i).testBit t = true := by
  unfold goI
  split
  · rw [Nat.testBit_or, h]; rfl
  · exact h
theorem passG_up {S : List Nat} {R t : Nat} (h : R.testBit t = true) : ∀ m, (passG S m R).testBit t = true
  | 0 => h
  | m + 1 => by rw [passG_succ]; exact goI_up (passG_up h m)
theorem passG_low {S : List Nat} {R k t : Nat} (h1 : R.testBit k = true) (h2 : (S.getD k 0).testBit t = true) : ∀ m, k < m → (passG S m R).testBit t = true
  | 0, h => by omega
  | m + 1, h => by
    rw [passG_succ]
    by_cases hk : k = m
    · subst hk
      unfold goI
      rw [if_pos (passG_up h1 k), Nat.testBit_or, h2, Bool.or_true]
    · exact goI_up (passG_low h1 h2 m (by omega))
theorem iterG_up {S : List Nat} {m R t : Nat} (h : R.testBit t = true) : ∀ p, (iter (passG S m) p R).testBit t = true
  | 0 => h
  | p + 1 => by rw [iter]; exact passG_up (iterG_up h p) m
theorem iterG_out (S : List Nat) (m : Nat) : ∀ (p R : Nat), iter (passG S m) (p + 1) R = iter (passG S m) p (passG S m R)
  | 0, R => rfl
  | p + 1, R => by rw [iter, iterG_out S m p R]; rfl
theorem iterG_low (S : List Nat) : ∀ (p : Nat) {R k t : Nat}, k < S.length → R.testBit k = true → ((iter (stepD S) p S).getD k 0).testBit t = true → (iter (passG S S.length) (p + 1) R).testBit t = true
  | 0, R, k, t, hk, h1, h2 => passG_low h1 h2 _ hk
  | p + 1, R, k, t, hk, h1, h2 => by
    rw [iter, stepD_get _ _ (by rw [iterD_len]; exact hk), Nat.testBit_or, Bool.or_eq_true] at h2
    rcases h2 with h2 | h2
    · have := iterG_low S p hk h1 h2
      show (passG S S.length (iter (passG S S.length) (p + 1) R)).testBit t = true
      exact passG_up this _
    · obtain ⟨k', hk', h3, h4⟩ := joinS_mem.1 h2
      rw [iterD_len] at hk'
      rw [iterG_out]
      exact iterG_low S p hk' (passG_low h1 h3 _ hk) h4
theorem iterG_lt {S : List Nat} (hs : Small S) (m : Nat) : ∀ (p : Nat) {R : Nat}, R < 4294967296 → iter (passG S m) p R < 4294967296
  | 0, R, h => h
  | p + 1, R, h => by
    rw [iter]
    have h0 := iterG_lt hs m p h
    generalize iter (passG S m) p R = R' at *
    have : ∀ q, passG S q R' < 4294967296 := fun q => by
      induction q with
      | zero => exact h0
      | succ q ih =>
        rw [passG_succ]
        unfold goI
        split
        · exact or_lt32 ih (hs.get _)
        · exact ih
    exact this m
def UpG (S : List Nat) (k R : Nat) : Prop := ∀ t, R.testBit t = true → t < S.length ∧ comesTo S k t = true
theorem goI_in {S : List Nat} (hI : InS S) {k R i : Nat} (hk : k < S.length) (h : UpG S k R) : UpG S k (goI S R i) := by
  intro t ht
  unfold goI at ht
  split at ht
  · rename_i hi
    rw [Nat.testBit_or, Bool.or_eq_true] at ht
    rcases ht with ht | ht
    · exact h t ht
    · obtain ⟨hil, hc⟩ := h i hi
      exact ⟨hI i t ht, comes_trans hk hil hc (comes_once hil ht)⟩
  · exact h t ht
theorem passG_in {S : List Nat} (hI : InS S) {k R : Nat} (hk : k < S.length) (h : UpG S k R) : ∀ m, UpG S k (passG S m R)
  | 0 => h
  | m + 1 => by rw [passG_succ]; exact goI_in hI hk (passG_in hI hk h m)
theorem iterG_in {S : List Nat} (hI : InS S) {k R : Nat} (hk : k < S.length) (h : UpG S k R) (m : Nat) : ∀ p, UpG S k (iter (passG S m) p R)
  | 0 => h
  | p + 1 => by rw [iter]; exact passG_in hI hk (iterG_in hI hk h m p) m
/-- as many passes as places: the closure of one -/
theorem goes_eq {S : List Nat} (hI : InS S) {k : Nat} (hk : k < S.length) : iter (passG S S.length) S.length (S.getD k 0) = (closeS S).getD k 0 := by
  apply Nat.eq_of_testBit_eq
  intro t
  rw [Bool.eq_iff_iff]
  refine ⟨fun h => (iterG_in hI hk (fun t ht => ⟨hI k t ht, comes_once hk ht⟩) _ _ t h).2, fun h => ?_⟩
  have key : ∀ p, ((iter (stepD S) p S).getD k 0).testBit t = true → (iter (passG S S.length) p (S.getD k 0)).testBit t = true := by
    intro p
    induction p with
    | zero => exact id
    | succ p ih =>
      intro h
      rw [iter, stepD_get _ _ (by rw [iterD_len]; exact hk), Nat.testBit_or, Bool.or_eq_true] at h
      rcases h with h | h
      · rw [iter]
        exact passG_up (ih h) _
      · obtain ⟨k', hk', h3, h4⟩ := joinS_mem.1 h
        rw [iterD_len] at hk'
        exact iterG_low S p hk' h3 h4
  exact key _ h

/-! ### an order's prefixes -/
def thereL (l : List Nat) : Nat := l.foldl (fun s (i : Nat) => s ||| bitN (i : Int)) 0
theorem thereL_snoc (l : List Nat) (i : Nat) : thereL (l ++ [i]) = thereL l ||| bitN (i : Int) := by simp [thereL]
def PreO (S : List Nat) (use n : Nat) (st : List Nat × Nat) : Prop := st.2 = thereL st.1 ∧ ∀ p i, st.1[p]? = some i → i < n ∧ pickB S use (thereL (st.1.take p)) i = true
theorem PreO.step {S : List Nat} {use n : Nat} {st : List Nat × Nat} (h : PreO S use n st) : PreO S use n (stepO S use n st) := by
  cases hf : findB (pickB S use st.2) n with
  | none => rw [stepO_none hf]; exact h
  | some j =>
    rw [stepO_some hf]
    obtain ⟨hj, hp⟩ := findB_at hf
    refine ⟨by show st.2 ||| bitN (j : Int) = _; rw [thereL_snoc, h.1], fun p i hi => ?_⟩
    simp only [] at hi ⊢
    rcases Nat.lt_trichotomy p st.1.length with hlt | heq | hgt
    · rw [List.getElem?_append_left hlt] at hi
      rw [List.take_append_of_le_length (by omega)]
      exact h.2 p i hi
    · subst heq
      rw [List.getElem?_append_right (Nat.le_refl _), Nat.sub_self] at hi
      have e : j = i := by simpa using hi
      subst e
      refine ⟨hj, ?_⟩
      rw [List.take_append_of_le_length (Nat.le_refl _), List.take_length, ← h.1]
      exact hp
    · rw [List.getElem?_eq_none (by simp; omega)] at hi
      cases hi
theorem orderS_pre (S : List Nat) (use n : Nat) : ∀ k, PreO S use n (orderS S use n k)
  | 0 => ⟨rfl, fun p i h => by simp [orderS, iter] at h⟩
  | k + 1 => by rw [orderS_succ]; exact (orderS_pre S use n k).step
theorem thereL_lt : ∀ (l : List Nat), thereL l < 4294967296 := by
  have : ∀ (l : List Nat) (s : Nat), s < 4294967296 → l.foldl (fun s (i : Nat) => s ||| bitN (i : Int)) s < 4294967296 := by
    intro l
    induction l with
    | nil => exact fun s h => h
    | cons i l ih => exact fun s h => ih _ (or_lt32 h (bitN_lt _))
  exact fun l => this l 0 (by decide)
end Go.Proofs.YtfdbpafenhdkbaaGreatDoor

namespace Go.Proofs.YtfdbpafenhdkbaaGreatDoor
set_option linter.unusedVariables false
set_option linter.unusedSimpArgs false

theorem getD_lt {N : List Bool} {i : Nat} (h : N.getD i false = true) : i < N.length := by
  rcases Nat.lt_or_ge i N.length with h' | h'
  · exact h'
  · rw [List.getD_eq_getElem?_getD, List.getElem?_eq_none h'] at h
    cases h
theorem rep_false (n i : Nat) : (List.replicate n false).getD i false = false := by
  rw [List.getD_eq_getElem?_getD, List.getElem?_replicate]
  split <;> rfl

/-! ### nullable, productive -/
theorem passN_fixed (p : Rul → List Bool → Bool) : ∀ (rs : List Rul) {N : List Bool}, passN p rs N = N → ∀ r ∈ rs, growN p r N = N
  | [], N, h, r, hr => by cases hr
  | q :: rs, N, h, r, hr => by
    have hq : growN p q N = N := Grows.anti (f := growN p q) (g := passN p rs) (growN_grows p q) (passN_grows p rs) h
    rcases List.mem_cons.1 hr with rfl | hr
    · exact hq
    · refine passN_fixed p rs ?_ r hr
      have : passN p rs (growN p q N) = N := h
      rwa [hq] at this
theorem grown_fix (b : Bool) (G : Gr) : passN (bareP b) G.rules (grownN b G) = grownN b G := by
  have := (passN_grows (bareP b) G.rules).fix (List.replicate G.nons.length false)
  rw [List.length_replicate] at this
  exact this
theorem grown_closed {b : Bool} {G : Gr} {r : Rul} (hr : r ∈ G.rules) (hl : r.left.toNat < G.nons.length) (h : allP b (grownN b G) r.right = true) : (grownN b G).getD r.left.toNat false = true := by
  have hf := passN_fixed (bareP b) G.rules (grown_fix b G) r hr
  unfold growN at hf
  rw [if_pos (show bareP b r (grownN b G) = true from h)] at hf
  rw [← hf]
  exact (set_getD _ _ _).2 (.inr ⟨rfl, by rw [grownN_len]; exact hl⟩)
theorem passN_least {b : Bool} (X : Nat → Prop) : ∀ (rs : List Rul), (∀ r ∈ rs, (∀ s ∈ r.right, (0 ≤ s → b = true) ∧ (s < 0 → X (nonI s))) → X r.left.toNat) →
    ∀ {N : List Bool}, (∀ i, N.getD i false = true → X i) → ∀ i, (passN (bareP b) rs N).getD i false = true → X i
  | [], _, N, hN, i, h => hN i h
  | r :: rs, hX, N, hN, i, h => by
    refine passN_least X rs (fun q hq => hX q (List.mem_cons_of_mem _ hq)) (N := growN (bareP b) r N) (fun j hj => ?_) i h
    unfold growN at hj
    split at hj
    · rename_i hc
      rcases (set_getD _ _ _).1 hj with hj | ⟨rfl, _⟩
      · exact hN j hj
      · refine hX r (List.mem_cons_self ..) fun s hs => ?_
        have h1 : (if 0 ≤ s then b else N.getD (nonI s) false) = true := List.all_eq_true.1 hc s hs
        refine ⟨fun h0 => ?_, fun h0 => ?_⟩
        · rwa [if_pos h0] at h1
        · rw [if_neg (by omega)] at h1
          exact hN _ h1
    · exact hN j hj
theorem grown_least {b : Bool} {G : Gr} (X : Nat → Prop) (hX : ∀ r ∈ G.rules, (∀ s ∈ r.right, (0 ≤ s → b = true) ∧ (s < 0 → X (nonI s))) → X r.left.toNat) {i : Nat} (h : (grownN b G).getD i false = true) : X i := by
  unfold grownN at h
  have key : ∀ (k i : Nat), (iter (passN (bareP b) G.rules) k (List.replicate G.nons.length false)).getD i false = true → X i := by
    intro k
    induction k with
    | zero => intro i h; rw [iter, rep_false] at h; cases h
    | succ k ih => intro i h; exact passN_least X G.rules hX ih i h
  exact key _ i h
theorem allP_iff {b : Bool} {N : List Bool} {ss : List Int} : allP b N ss = true ↔ ∀ s ∈ ss, (0 ≤ s → b = true) ∧ (s < 0 → N.getD (nonI s) false = true) := by
  unfold allP
  rw [List.all_eq_true]
  constructor
  · intro h s hs
    have := h s hs
    refine ⟨fun h0 => by rwa [if_pos h0] at this, fun h0 => by rwa [if_neg (by omega)] at this⟩
  · intro h s hs
    split
    · rename_i h0; exact (h s hs).1 h0
    · rename_i h0; exact (h s hs).2 (by omega)

/-! ### reachable -/
theorem reach_fix (G : Gr) : passI (reachI (prodN G)) G.rules (reachN G) = reachN G := by
  have := (passI_grows (reachI (prodN G)) G.rules).fix (startN G)
  have hl : (startN G).length = G.nons.length := by unfold startN; simp
  rw [hl] at this
  exact this
theorem reach_start {G : Gr} (hG : G.Fits) : (reachN G).getD G.start.toNat false = true := by
  have key : ∀ (k : Nat), (iter (passI (reachI (prodN G)) G.rules) k (startN G)).getD G.start.toNat false = true := by
    intro k
    induction k with
    | zero =>
      rw [iter]
      unfold startN
      exact (set_getD _ _ _).2 (.inr ⟨rfl, by rw [List.length_replicate]; have := hG.st; omega⟩)
    | succ k ih =>
      rw [iter]
      have h1 := (passI_grows (reachI (prodN G)) G.rules)
      have h2 := getD_lt ih
      generalize iter (passI (reachI (prodN G)) G.rules) k (startN G) = N at *
      have h3 : N[G.start.toNat]? = some true := by
        rw [List.getD_eq_getElem?_getD, List.getElem?_eq_getElem h2] at ih
        rw [List.getElem?_eq_getElem h2]
        exact congrArg some ih
      have := h1.up N _ h3
      rw [List.getD_eq_getElem?_getD, this]
      rfl
  exact key _
theorem nonsI_mem {ss : List Int} {t : Int} : t ∈ nonsI ss ↔ ∃ s ∈ ss, s < 0 ∧ -1 - s = t := by
  unfold nonsI
  simp only [List.mem_map, List.mem_filter, decide_eq_true_eq]
  constructor
  · rintro ⟨s, ⟨h1, h2⟩, h3⟩; exact ⟨s, h1, h2, h3⟩
  · rintro ⟨s, h1, h2, h3⟩; exact ⟨s, ⟨h1, h2⟩, h3⟩
theorem reach_closed {G : Gr} (hG : G.Fits) {r : Rul} (hr : r ∈ G.rules) (hl : (reachN G).getD r.left.toNat false = true) (h : allP true (prodN G) r.right = true) {s : Int} (hs : s ∈ r.right) (h0 : s < 0) : (reachN G).getD (nonI s) false = true := by
  have hin := passI_fixed (reachI (prodN G)) G.rules (reach_fix G) r hr
  have hgo : goesP (prodN G) r (reachN G) = true := by unfold goesP; rw [hl, h]; rfl
  have hids : reachI (prodN G) r (reachN G) = nonsI r.right := by unfold reachI; rw [if_pos hgo]
  rw [hids] at hin
  have hsy := hG.sym r hr s hs
  have := setI_has (nonsI r.right) (N := reachN G) (nonsI_mem.2 ⟨s, hs, h0, rfl⟩) (by rw [reachN_len]; omega)
  rw [hin] at this
  exact this
theorem setI_least (X : Nat → Prop) : ∀ (ids : List Int), (∀ t ∈ ids, X t.toNat) → ∀ {N : List Bool}, (∀ i, N.getD i false = true → X i) → ∀ i, (setI N ids).getD i false = true → X i
  | [], _, N, hN, i, h => hN i h
  | t :: ids, hX, N, hN, i, h => by
    refine setI_least X ids (fun q hq => hX q (List.mem_cons_of_mem _ hq)) (N := N.set t.toNat true) (fun j hj => ?_) i h
    rcases (set_getD _ _ _).1 hj with hj | ⟨rfl, _⟩
    · exact hN j hj
    · exact hX t (List.mem_cons_self ..)
theorem passR_least {P : List Bool} (X : Nat → Prop) : ∀ (rs : List Rul), (∀ r ∈ rs, X r.left.toNat → allP true P r.right = true → ∀ s ∈ r.right, s < 0 → X (nonI s)) →
    ∀ {N : List Bool}, (∀ i, N.getD i false = true → X i) → ∀ i, (passI (reachI P) rs N).getD i false = true → X i
  | [], _, N, hN, i, h => hN i h
  | r :: rs, hX, N, hN, i, h => by
    refine passR_least X rs (fun q hq => hX q (List.mem_cons_of_mem _ hq)) (N := growI (reachI P) r N) (fun j hj => ?_) i h
    refine setI_least X _ (fun t ht => ?_) hN j hj
    unfold reachI at ht
    split at ht
    · rename_i hc
      unfold goesP at hc
      rw [Bool.and_eq_true] at hc
      obtain ⟨s, hs, h0, rfl⟩ := nonsI_mem.1 ht
      exact hX r (List.mem_cons_self ..) (hN _ hc.1) hc.2 s hs h0
    · cases ht
theorem reach_least {G : Gr} (X : Nat → Prop) (h0 : X G.start.toNat) (hX : ∀ r ∈ G.rules, X r.left.toNat → allP true (prodN G) r.right = true → ∀ s ∈ r.right, s < 0 → X (nonI s)) {i : Nat} (h : (reachN G).getD i false = true) : X i := by
  unfold reachN at h
  have key : ∀ (k i : Nat), (iter (passI (reachI (prodN G)) G.rules) k (startN G)).getD i false = true → X i := by
    intro k
    induction k with
    | zero =>
      intro i h
      rw [iter] at h
      unfold startN at h
      rcases (set_getD _ _ _).1 h with h | ⟨rfl, _⟩
      · rw [rep_false] at h; cases h
      · exact h0
    | succ k ih => intro i h; exact passR_least X G.rules hX ih i h
  exact key _ i h

/-! ### which steps there are -/
theorem growSt_up (N P : List Bool) (r : Rul) (k : Nat) {F : List Nat} {i t : Nat} (h : (F.getD i 0).testBit t = true) : ((growSt N P r k F).getD i 0).testBit t = true := by
  unfold growSt
  split
  · exact h
  · split
    · rw [addAt_get]
      split
      · rename_i he
        rw [Nat.testBit_or, ← he.1, h]; rfl
      · exact h
    · exact h
theorem posSt_up (N P : List Bool) (r : Rul) {F : List Nat} {i t : Nat} (h : (F.getD i 0).testBit t = true) : ∀ k, ((posSt N P r k F).getD i 0).testBit t = true
  | 0 => h
  | k + 1 => by rw [posSt_succ]; exact growSt_up N P r k (posSt_up N P r h k)
theorem passSt_up (N P : List Bool) : ∀ (rs : List Rul) {F : List Nat} {i t : Nat}, (F.getD i 0).testBit t = true → ((passSt N P rs F).getD i 0).testBit t = true
  | [], F, i, t, h => h
  | r :: rs, F, i, t, h => passSt_up N P rs (posSt_up N P r h _)
theorem posSt_has {N P : List Bool} {r : Rul} {F : List Nat} {k : Nat} {s : Int} (hs : r.right[k]? = some s) (hst : standsR N P r.right k s = true) (hl : r.left.toNat < F.length) (h0 : s < 0) (h32 : nonI s < 32) :
    ∀ m, k < m → ((posSt N P r m F).getD r.left.toNat 0).testBit (nonI s) = true
  | 0, h => by omega
  | m + 1, h => by
    rw [posSt_succ]
    by_cases hk : k = m
    · subst hk
      unfold growSt
      rw [hs]
      simp only []
      rw [if_pos hst, addAt_get, if_pos ⟨rfl, by rw [posSt_len]; exact hl⟩, Nat.testBit_or]
      rw [show (-1 - s) = ((nonI s : Nat) : Int) by unfold nonI; omega, bitN_test]
      simp [h32]
    · exact growSt_up N P r m (posSt_has hs hst hl h0 h32 m (by omega))
theorem passSt_has {N P : List Bool} {r : Rul} {k : Nat} {s : Int} (hs : r.right[k]? = some s) (hst : standsR N P r.right k s = true) (h0 : s < 0) (h32 : nonI s < 32) :
    ∀ (rs : List Rul) {F : List Nat}, r ∈ rs → r.left.toNat < F.length → ((passSt N P rs F).getD r.left.toNat 0).testBit (nonI s) = true
  | q :: rs, F, hr, hl => by
    rcases List.mem_cons.1 hr with rfl | hr
    · exact passSt_up N P rs (posSt_has hs hst hl h0 h32 _ (List.getElem?_eq_some_iff.1 hs).1)
    · exact passSt_has hs hst h0 h32 rs hr (by rw [posSt_len]; exact hl)
theorem steps_mem {G : Gr} (hG : G.Fits) {i t : Nat} : ((stepsN G).getD i 0).testBit t = true ↔ ∃ r ∈ G.rules, ∃ k s, r.right[k]? = some s ∧ standsR (nullN G) (prodN G) r.right k s = true ∧ r.left.toNat = i ∧ nonI s = t := by
  constructor
  · intro h
    refine steps_sub (fun i t => ∃ r ∈ G.rules, ∃ k s, r.right[k]? = some s ∧ standsR (nullN G) (prodN G) r.right k s = true ∧ r.left.toNat = i ∧ nonI s = t) (nullN G) (prodN G) G.rules (fun r hr k s hs hst => ⟨r, hr, k, s, hs, hst, rfl, rfl⟩) _ (fun i t h => ?_) i t h
    rw [List.getD_eq_getElem?_getD] at h
    rcases Nat.lt_or_ge i G.nons.length with hl | hl
    · simp [hl] at h
    · simp [List.getElem?_eq_none, hl] at h
  · rintro ⟨r, hr, k, s, hs, hst, rfl, rfl⟩
    have h0 : s < 0 := by
      unfold standsR at hst
      simp only [Bool.and_eq_true, decide_eq_true_eq] at hst
      exact hst.1.1
    have hsy := hG.sym r hr s (List.mem_of_getElem? hs)
    have hn := hG.n2
    have hl := hG.left r hr
    exact passSt_has hs hst h0 (by unfold nonI; omega) G.rules hr (by rw [List.length_replicate]; omega)
end Go.Proofs.YtfdbpafenhdkbaaGreatDoor

namespace Go.Proofs.YtfdbpafenhdkbaaGreatDoor
set_option linter.unusedVariables false
set_option linter.unusedSimpArgs false

theorem snoc_ind {α : Type} {M : List α → Prop} (h0 : M []) (h1 : ∀ l x, M l → M (l ++ [x])) (l : List α) : M l := by
  have key : ∀ q : List α, M q.reverse := by
    intro q
    induction q with
    | nil => exact h0
    | cons x q ih => rw [List.reverse_cons]; exact h1 _ x ih
  have := key l.reverse
  rwa [List.reverse_reverse] at this
theorem nodup_le : ∀ (n : Nat) (l : List Nat), l.Nodup → (∀ i ∈ l, i < n) → l.length ≤ n
  | 0, l, _, h => by
    cases l with
    | nil => simp
    | cons x l => exact absurd (h x (List.mem_cons_self ..)) (by omega)
  | n + 1, l, hn, h => by
    by_cases hm : n ∈ l
    · have := nodup_le n (l.erase n) (hn.erase n) fun i hi => by
        rw [hn.mem_erase_iff] at hi
        have := h i hi.2
        omega
      rw [List.length_erase_of_mem hm] at this
      omega
    · have := nodup_le n l hn fun i hi => by
        have := h i hi
        have : i ≠ n := fun he => hm (he ▸ hi)
        omega
      omega
/-! ### the numbers -/
def putO (o : List Nat) (i : Nat) : List Nat := if i ∈ o then o else o ++ [i]
/-- the left sides, as they first come up -/
def oldOf (rs : List Rul) : List Nat := rs.foldl (fun o r => putO o r.left.toNat) []
theorem oldOf_snoc (rs : List Rul) (r : Rul) : oldOf (rs ++ [r]) = putO (oldOf rs) r.left.toNat := by simp [oldOf]
def toI (o : List Nat) (i : Nat) : Int := findI (fun x => decide (x = i)) o
theorem oldOf_mem {rs : List Rul} {i : Nat} : i ∈ oldOf rs ↔ ∃ r ∈ rs, r.left.toNat = i := by
  induction rs using snoc_ind with
  | h0 => simp [oldOf]
  | h1 rs r ih =>
    rw [oldOf_snoc]
    unfold putO
    simp only [List.mem_append, List.mem_singleton]
    split
    · rename_i h
      rw [ih]
      constructor
      · rintro ⟨q, hq, rfl⟩; exact ⟨q, .inl hq, rfl⟩
      · rintro ⟨q, hq | rfl, rfl⟩
        · exact ⟨q, hq, rfl⟩
        · exact ih.1 h
    · rw [List.mem_append, ih, List.mem_singleton]
      constructor
      · rintro (⟨q, hq, rfl⟩ | rfl)
        · exact ⟨q, .inl hq, rfl⟩
        · exact ⟨r, .inr rfl, rfl⟩
      · rintro ⟨q, hq | rfl, rfl⟩
        · exact .inl ⟨q, hq, rfl⟩
        · exact .inr rfl
theorem putO_nodup {o : List Nat} (h : o.Nodup) (i : Nat) : (putO o i).Nodup := by
  unfold putO
  split
  · exact h
  · rename_i hi
    rw [List.nodup_append]
    refine ⟨h, by simp, fun a ha b hb => ?_⟩
    rw [List.mem_singleton] at hb
    subst hb
    rintro rfl
    exact hi ha
theorem oldOf_nodup (rs : List Rul) : (oldOf rs).Nodup := by
  induction rs using snoc_ind with
  | h0 => simp [oldOf]
  | h1 rs r ih => rw [oldOf_snoc]; exact putO_nodup ih _
theorem toI_get {o : List Nat} (hn : o.Nodup) {k i : Nat} (h : o[k]? = some i) : toI o i = (k : Int) := by
  unfold toI
  refine findI_at h (by simp) fun j hj y hy => ?_
  rw [decide_eq_false_iff_not]
  rintro rfl
  have h1 := (List.getElem?_eq_some_iff.1 h)
  have h2 := (List.getElem?_eq_some_iff.1 hy)
  have := List.pairwise_iff_getElem.1 hn j k h2.1 h1.1 hj
  exact this (h2.2.trans h1.2.symm)
theorem toI_mem {o : List Nat} (hn : o.Nodup) {i : Nat} (h : i ∈ o) : ∃ k, k < o.length ∧ o[k]? = some i ∧ toI o i = (k : Int) := by
  obtain ⟨k, hk⟩ := List.getElem?_of_mem h
  exact ⟨k, (List.getElem?_eq_some_iff.1 hk).1, hk, toI_get hn hk⟩
theorem toI_none {o : List Nat} {i : Nat} (h : i ∉ o) : toI o i = -1 := by
  unfold toI
  refine findI_none fun j y hy => ?_
  rw [decide_eq_false_iff_not]
  rintro rfl
  exact h (List.mem_of_getElem? hy)
theorem toI_neg {o : List Nat} {i : Nat} : toI o i < 0 ↔ i ∉ o := by
  constructor
  · intro h hi
    obtain ⟨k, hk⟩ := List.getElem?_of_mem hi
    have := findI_neg (p := fun x => decide (x = i)) h k i hk
    simp at this
  · intro h; rw [toI_none h]; decide
theorem toI_lt (o : List Nat) (i : Nat) : -1 ≤ toI o i ∧ toI o i < o.length := findI_lo _ o
theorem toI_app {o : List Nat} {i : Nat} (hn : (o ++ [i]).Nodup) : toI (o ++ [i]) i = (o.length : Int) := toI_get hn (by simp)
theorem toI_app_ne (o : List Nat) {i j : Nat} (hij : j ≠ i) : toI (o ++ [i]) j = toI o j := by
  by_cases hj : j ∈ o
  · unfold toI
    obtain ⟨k, hk⟩ : ∃ k : Nat, findI (fun x => decide (x = j)) o = (k : Int) := by
      have h1 := toI_lt o j
      have h2 : ¬ toI o j < 0 := fun h => toI_neg.1 h hj
      unfold toI at h1 h2
      exact ⟨(findI (fun x => decide (x = j)) o).toNat, by omega⟩
    obtain ⟨x, hx, hp, hb⟩ := findI_pos hk
    rw [hk]
    have hlt := (List.getElem?_eq_some_iff.1 hx).1
    refine findI_at (x := x) (by rw [List.getElem?_append_left hlt]; exact hx) hp fun q hq y hy => ?_
    rw [List.getElem?_append_left (by omega)] at hy
    exact hb q hq y hy
  · rw [toI_none hj, toI_none]
    rw [List.mem_append, List.mem_singleton]
    rintro (h | h)
    · exact hj h
    · exact hij h

/-! ### the reduced grammar -/
def useB (G : Gr) (i : Nat) : Prop := (prodN G).getD i false = true ∧ (reachN G).getD i false = true
def keepB (P Q : List Bool) (r : Rul) : Bool := Q.getD r.left.toNat false && allP true P r.right
def keptR (G : Gr) : List Rul := G.rules.filter (keepB (prodN G) (reachN G))
def oldN (G : Gr) : List Nat := oldOf (keptR G)
def redS (o : List Nat) (s : Int) : Int := if s < 0 then -1 - toI o (nonI s) else s
def redR (o : List Nat) (r : Rul) : Rul := ⟨toI o r.left.toNat, r.right.map (redS o), r.prec⟩
def nameO (G : Gr) (i : Nat) : ByteArray := (G.nons[i]?).getD ByteArray.empty
def redG (G : Gr) : Gr := ⟨G.terms, (oldN G).map (nameO G), (keptR G).map (redR (oldN G)), toI (oldN G) G.start.toNat⟩
theorem kept_mem {G : Gr} {r : Rul} : r ∈ keptR G ↔ r ∈ G.rules ∧ (reachN G).getD r.left.toNat false = true ∧ allP true (prodN G) r.right = true := by
  unfold keptR keepB
  rw [List.mem_filter, Bool.and_eq_true]
theorem prod_rule {G : Gr} {i : Nat} (hG : G.Fits) (h : (prodN G).getD i false = true) : ∃ r ∈ G.rules, r.left.toNat = i ∧ allP true (prodN G) r.right = true := by
  have := grown_least (b := true) (G := G) (fun i => (prodN G).getD i false = true ∧ ∃ r ∈ G.rules, r.left.toNat = i ∧ allP true (prodN G) r.right = true) (fun r hr hX => ?_) h
  · exact this.2
  · have ha : allP true (prodN G) r.right = true := allP_iff.2 fun s hs => ⟨(hX s hs).1, fun h0 => ((hX s hs).2 h0).1⟩
    refine ⟨grown_closed (b := true) hr ?_ ha, r, hr, rfl, ha⟩
    have := hG.left r hr
    omega
theorem old_mem {G : Gr} (hG : G.Fits) {i : Nat} : i ∈ oldN G ↔ useB G i := by
  unfold oldN
  rw [oldOf_mem]
  constructor
  · rintro ⟨r, hr, rfl⟩
    obtain ⟨h1, h2, h3⟩ := kept_mem.1 hr
    refine ⟨grown_closed (b := true) h1 ?_ h3, h2⟩
    have := hG.left r h1
    omega
  · rintro ⟨hp, hq⟩
    obtain ⟨r, hr, rfl, ha⟩ := prod_rule hG hp
    exact ⟨r, kept_mem.2 ⟨hr, hq, ha⟩, rfl⟩
theorem use_lt {G : Gr} {i : Nat} (h : useB G i) : i < G.nons.length := by
  have := getD_lt h.1
  rwa [prodN_len] at this
theorem kept_left {G : Gr} {r : Rul} (hr : r ∈ keptR G) : r.left.toNat ∈ oldN G := oldOf_mem.2 ⟨r, hr, rfl⟩
/-- the symbols of a rule that is kept are of use -/
theorem kept_sym {G : Gr} (hG : G.Fits) {r : Rul} (hr : r ∈ keptR G) {s : Int} (hs : s ∈ r.right) (h0 : s < 0) : nonI s ∈ oldN G := by
  obtain ⟨h1, h2, h3⟩ := kept_mem.1 hr
  rw [old_mem hG]
  exact ⟨(allP_iff.1 h3 s hs).2 h0, reach_closed hG h1 h2 h3 hs h0⟩
theorem old_nodup (G : Gr) : (oldN G).Nodup := oldOf_nodup _
theorem old_len {G : Gr} (hG : G.Fits) : (oldN G).length ≤ G.nons.length := by
  exact nodup_le _ _ (old_nodup G) fun i hi => use_lt ((old_mem hG).1 hi)
theorem redS_neg {o : List Nat} (s : Int) (h : s < 0 → nonI s ∈ o) : redS o s < 0 ↔ s < 0 := by
  unfold redS
  split
  · rename_i h0
    have := h h0
    have h2 : ¬ toI o (nonI s) < 0 := fun hn => toI_neg.1 hn this
    omega
  · rfl
theorem redS_non {o : List Nat} {s : Int} (h0 : s < 0) (h : nonI s ∈ o) : (nonI (redS o s) : Int) = toI o (nonI s) := by
  have h2 : ¬ toI o (nonI s) < 0 := fun hn => toI_neg.1 hn h
  show (((-1 - redS o s).toNat : Nat) : Int) = _
  unfold redS
  rw [if_pos h0]
  omega
end Go.Proofs.YtfdbpafenhdkbaaGreatDoor

namespace Go.Proofs.YtfdbpafenhdkbaaGreatDoor
set_option linter.unusedVariables false
set_option linter.unusedSimpArgs false

theorem right_parts {G : Gr} : G.right = true ↔ G.termsOK = true ∧ G.nonsOK = true ∧ (1 ≤ G.rules.length ∧ G.rules.length ≤ 40) ∧ (0 ≤ G.start ∧ G.start < (G.nons.length : Int)) ∧ G.leftsGo G.rules (-1) = some ((G.nons.length : Int) - 1) := by
  unfold Gr.right
  simp only [Bool.and_eq_true, decide_eq_true_eq, and_assoc]
theorem terms_same {G H : Gr} (h : H.terms = G.terms) : H.termsOK = G.termsOK := by
  unfold Gr.termsOK
  have : H.termOK = G.termOK := by
    funext i t
    unfold Gr.termOK Gr.term
    rw [h]
  rw [this, h]
theorem prod_start {G : Gr} (hG : G.Fits) (h : (prodN G).getD G.start.toNat false = true) : G.start.toNat ∈ oldN G := (old_mem hG).2 ⟨h, reach_start hG⟩
theorem red_ruleOK {G : Gr} (hG : G.Fits) {r : Rul} (hr : r ∈ keptR G) (h : G.ruleOK r = true) : (redG G).ruleOK (redR (oldN G) r) = true := by
  unfold Gr.ruleOK at h ⊢
  simp only [Bool.and_eq_true, decide_eq_true_eq, List.all_eq_true] at h ⊢
  obtain ⟨⟨h1, h2⟩, h3⟩ := h
  refine ⟨⟨by simp [redR, h1], h2⟩, fun s' hs' => ?_⟩
  obtain ⟨s, hs, rfl⟩ := List.mem_map.1 hs'
  have h4 := h3 s hs
  have hin := kept_sym hG hr hs
  unfold Gr.symOK at h4 ⊢
  rw [Bool.and_eq_true] at h4 ⊢
  by_cases h0 : s < 0
  · have hn := (redS_neg s hin).2 h0
    have hnn := redS_non h0 (hin h0)
    have hlt := toI_lt (oldN G) (nonI s)
    refine ⟨?_, ?_⟩
    · unfold Gr.has
      rw [if_neg (by omega), decide_eq_true_iff]
      show -1 - redS (oldN G) s < (((oldN G).map (nameO G)).length : Int)
      rw [List.length_map]
      have : (nonI (redS (oldN G) s) : Int) = -1 - redS (oldN G) s := by unfold nonI; omega
      omega
    · have : decide (0 ≤ redS (oldN G) s) = false := by rw [decide_eq_false_iff_not]; omega
      rw [this]; rfl
  · have he : redS (oldN G) s = s := by unfold redS; rw [if_neg h0]
    rw [he]
    refine ⟨?_, h4.2⟩
    have := h4.1
    unfold Gr.has at this ⊢
    rw [if_pos (by omega)] at this ⊢
    exact this
/-- the numbers of a part are those of the whole -/
theorem toI_part {rs qs : List Rul} {i : Nat} (h : i ∈ oldOf rs) : toI (oldOf (rs ++ qs)) i = toI (oldOf rs) i := by
  induction qs using snoc_ind with
  | h0 => rw [List.append_nil]
  | h1 qs q ih =>
    rw [← List.append_assoc, oldOf_snoc]
    unfold putO
    split
    · exact ih
    · rename_i hq
      rw [toI_app_ne _ (fun he => hq (by rw [← he]; rw [oldOf_mem] at h ⊢; obtain ⟨r, hr, hl⟩ := h; exact ⟨r, List.mem_append_left _ hr, hl⟩)), ih]
theorem red_lefts (G : Gr) (hG : G.Fits) (hok : ∀ r ∈ keptR G, (redG G).ruleOK (redR (oldN G) r) = true) : ∀ (rs qs : List Rul), rs ++ qs = keptR G →
    (redG G).leftsGo (rs.map (redR (oldN G))) (-1) = some (((oldOf rs).length : Int) - 1) := by
  intro rs
  induction rs using snoc_ind with
  | h0 => intro qs _; simp [Gr.leftsGo, oldOf]
  | h1 rs r ih =>
    intro qs hq
    have h1 := ih (r :: qs) (by rw [← hq]; simp)
    have hr : r ∈ keptR G := by rw [← hq]; simp
    rw [List.map_append, List.map_cons, List.map_nil, Gr.leftsGo_snoc, h1, Option.bind_some]
    have hall : oldN G = oldOf ((rs ++ [r]) ++ qs) := by unfold oldN; rw [hq]
    have hmem : r.left.toNat ∈ oldOf (rs ++ [r]) := oldOf_mem.2 ⟨r, by simp, rfl⟩
    have hleft : (redR (oldN G) r).left = toI (oldOf (rs ++ [r])) r.left.toNat := by
      show toI (oldN G) r.left.toNat = _
      rw [hall, toI_part hmem]
    rw [if_pos]
    · rw [hleft, oldOf_snoc]
      unfold putO
      split
      · rename_i hi
        have := toI_lt (oldOf rs) r.left.toNat
        rw [Option.some.injEq]
        omega
      · rename_i hi
        have hnd : (oldOf rs ++ [r.left.toNat]).Nodup := by
          have := oldOf_nodup (rs ++ [r])
          rw [oldOf_snoc] at this
          unfold putO at this
          rwa [if_neg hi] at this
        rw [toI_app hnd, Option.some.injEq]
        simp only [List.length_append, List.length_singleton]
        omega
    · refine ⟨?_, ?_, hok r hr⟩
      · rw [hleft]
        have : ¬ toI (oldOf (rs ++ [r])) r.left.toNat < 0 := fun h => toI_neg.1 h hmem
        omega
      · rw [hleft, oldOf_snoc]
        unfold putO
        split
        · have := toI_lt (oldOf rs) r.left.toNat
          omega
        · rename_i hi
          have hnd : (oldOf rs ++ [r.left.toNat]).Nodup := by
            have := oldOf_nodup (rs ++ [r])
            rw [oldOf_snoc] at this
            unfold putO at this
            rwa [if_neg hi] at this
          rw [toI_app hnd]
          omega
theorem red_right {G : Gr} (h : G.right = true) (hp : (prodN G).getD G.start.toNat false = true) : (redG G).right = true := by
  have hG := Gr.fits h
  obtain ⟨h1, h2, h3, h4, h5⟩ := right_parts.1 h
  have hst := prod_start hG hp
  obtain ⟨k, hk, hk2, hk3⟩ := toI_mem (old_nodup G) hst
  have hlen := old_len hG
  have hn2 := hG.n2
  have hrok := (G.lefts_all _ _ _ h5).2
  have hok : ∀ r ∈ keptR G, (redG G).ruleOK (redR (oldN G) r) = true := fun r hr => red_ruleOK hG hr (hrok r (kept_mem.1 hr).1).2.2
  have hml : (redG G).nons.length = (oldN G).length := by show ((oldN G).map (nameO G)).length = _; rw [List.length_map]
  obtain ⟨r0, hr0, _⟩ := oldOf_mem.1 hst
  refine right_parts.2 ⟨(terms_same (G := G) (H := redG G) rfl).trans h1, ?_, ⟨?_, ?_⟩, ⟨?_, ?_⟩, ?_⟩
  · unfold Gr.nonsOK
    rw [Bool.and_eq_true, decide_eq_true_iff, hml]
    refine ⟨by omega, allI_true fun j s hs => ?_⟩
    obtain ⟨i, hi, rfl⟩ : ∃ i, (oldN G)[j]? = some i ∧ nameO G i = s := by
      have : ((oldN G).map (nameO G))[j]? = some s := hs
      rw [List.getElem?_map] at this
      cases hj : (oldN G)[j]? with
      | none => rw [hj] at this; cases this
      | some i => rw [hj] at this; exact ⟨i, rfl, by simpa using this⟩
    have hil := use_lt ((old_mem hG).1 (List.mem_of_getElem? hi))
    unfold Gr.nonsOK at h2
    rw [Bool.and_eq_true] at h2
    have hname : ∀ q, q < G.nons.length → G.nons[q]? = some (nameO G q) := fun q hq => by
      unfold nameO
      rw [List.getElem?_eq_getElem hq]
      rfl
    have hok2 := fun q hq => allI_get h2.2 (hname q hq)
    have h6 := hok2 i hil
    unfold Gr.nonOK at h6 ⊢
    simp only [Bool.and_eq_true, decide_eq_true_eq] at h6 ⊢
    refine ⟨⟨h6.1.1, ?_⟩, h6.2⟩
    show findI (fun t => decide (t = nameO G i)) ((oldN G).map (nameO G)) = (j : Int)
    refine findI_at (x := nameO G i) (by rw [List.getElem?_map, hi]; rfl) (by simp) fun q hq y hy => ?_
    rw [List.getElem?_map] at hy
    cases hq2 : (oldN G)[q]? with
    | none => rw [hq2] at hy; cases hy
    | some iq =>
      rw [hq2] at hy
      have : nameO G iq = y := by simpa using hy
      subst this
      rw [decide_eq_false_iff_not]
      intro he
      have hql := use_lt ((old_mem hG).1 (List.mem_of_getElem? hq2))
      have h7 := hok2 iq hql
      unfold Gr.nonOK at h7
      simp only [Bool.and_eq_true, decide_eq_true_eq] at h7
      have h8 := h7.1.2
      rw [he, h6.1.2] at h8
      have h9 : i = iq := by omega
      have := toI_get (old_nodup G) hi
      have h10 := toI_get (old_nodup G) hq2
      rw [← h9] at h10
      omega
  · show 1 ≤ ((keptR G).map (redR (oldN G))).length
    rw [List.length_map]
    exact List.length_pos_of_mem hr0
  · show ((keptR G).map (redR (oldN G))).length ≤ 40
    rw [List.length_map]
    exact Nat.le_trans (List.length_filter_le _ _) h3.2
  · show 0 ≤ toI (oldN G) G.start.toNat
    omega
  · rw [hml]
    show toI (oldN G) G.start.toNat < _
    omega
  · rw [hml]
    have := red_lefts G hG hok (keptR G) [] (by simp)
    exact this
end Go.Proofs.YtfdbpafenhdkbaaGreatDoor

namespace Go.Proofs.YtfdbpafenhdkbaaGreatDoor
set_option linter.unusedVariables false
set_option linter.unusedSimpArgs false

section
variable {G : Gr}
/-- the number that one of use gets -/
def sig (G : Gr) (i : Nat) : Nat := (toI (oldN G) i).toNat
theorem sig_toI {i : Nat} (h : i ∈ oldN G) : toI (oldN G) i = (sig G i : Int) ∧ sig G i < (oldN G).length ∧ (oldN G)[sig G i]? = some i := by
  obtain ⟨k, hk, hk2, hk3⟩ := toI_mem (old_nodup G) h
  have : sig G i = k := by unfold sig; omega
  rw [this]
  exact ⟨hk3, hk, hk2⟩
theorem sig_get {k i : Nat} (h : (oldN G)[k]? = some i) : sig G i = k := by
  have := toI_get (old_nodup G) h
  unfold sig
  omega
theorem sig_inj {i j : Nat} (hi : i ∈ oldN G) (hj : j ∈ oldN G) (h : sig G i = sig G j) : i = j := by
  have h1 := (sig_toI hi).2.2
  have h2 := (sig_toI hj).2.2
  rw [h, h2] at h1
  exact (Option.some.inj h1).symm
theorem red_nons : (redG G).nons.length = (oldN G).length := by show ((oldN G).map (nameO G)).length = _; rw [List.length_map]
theorem red_rule {r' : Rul} : r' ∈ (redG G).rules ↔ ∃ r ∈ keptR G, redR (oldN G) r = r' := List.mem_map
theorem red_left {r : Rul} (hr : r ∈ keptR G) : (redR (oldN G) r).left.toNat = sig G r.left.toNat := rfl
theorem red_sym (hG : G.Fits) {r : Rul} (hr : r ∈ keptR G) {s : Int} (hs : s ∈ r.right) : (redS (oldN G) s < 0 ↔ s < 0) ∧ (s < 0 → nonI (redS (oldN G) s) = sig G (nonI s)) := by
  refine ⟨redS_neg s (kept_sym hG hr hs), fun h0 => ?_⟩
  have h1 := redS_non h0 (kept_sym hG hr hs h0)
  have h2 := (sig_toI (kept_sym hG hr hs h0)).1
  omega
theorem red_start (hG : G.Fits) (hp : (prodN G).getD G.start.toNat false = true) : (redG G).start.toNat = sig G G.start.toNat := rfl
/-- what is kept: a rule of one of use all of whose symbols are productive -/
theorem kept_of (hG : G.Fits) {r : Rul} (hr : r ∈ G.rules) (hu : r.left.toNat ∈ oldN G) (ha : allP true (prodN G) r.right = true) : r ∈ keptR G :=
  kept_mem.2 ⟨hr, ((old_mem hG).1 hu).2, ha⟩

theorem red_prod (hG : G.Fits) (hH : (redG G).Fits) {i : Nat} (hi : i ∈ oldN G) : (prodN (redG G)).getD (sig G i) false = true := by
  have := grown_least (b := true) (G := G) (fun i => (prodN G).getD i false = true ∧ (i ∈ oldN G → (prodN (redG G)).getD (sig G i) false = true)) (fun r hr hX => ?_) ((old_mem hG).1 hi).1
  · exact this.2 hi
  · have ha : allP true (prodN G) r.right = true := allP_iff.2 fun s hs => ⟨(hX s hs).1, fun h0 => ((hX s hs).2 h0).1⟩
    have hl := hG.left r hr
    refine ⟨grown_closed (b := true) hr (by omega) ha, fun hu => ?_⟩
    have hk := kept_of hG hr hu ha
    rw [← red_left hk]
    refine grown_closed (b := true) (G := redG G) (red_rule.2 ⟨r, hk, rfl⟩) ?_ (allP_iff.2 fun s' hs' => ⟨fun _ => rfl, fun h0' => ?_⟩)
    · rw [red_nons, red_left hk]; exact (sig_toI hu).2.1
    · obtain ⟨s, hs, rfl⟩ := List.mem_map.1 hs'
      have h1 := red_sym hG hk hs
      have h0 := h1.1.1 h0'
      rw [h1.2 h0]
      exact ((hX s hs).2 h0).2 (kept_sym hG hk hs h0)
theorem red_null (hG : G.Fits) (hH : (redG G).Fits) {i : Nat} (hi : i ∈ oldN G) : (nullN (redG G)).getD (sig G i) false = (nullN G).getD i false := by
  rw [Bool.eq_iff_iff]
  constructor
  · intro h
    have := grown_least (b := false) (G := redG G) (fun j => ∀ i, (oldN G)[j]? = some i → (nullN G).getD i false = true) (fun r' hr' hX => ?_) h
    · exact this i (sig_toI hi).2.2
    · obtain ⟨r, hk, rfl⟩ := red_rule.1 hr'
      intro j hj
      have hr := (kept_mem.1 hk).1
      have hl := hG.left r hr
      have h1 := (sig_toI (kept_left hk)).2.2
      rw [red_left hk, h1] at hj
      obtain rfl := Option.some.inj hj
      refine grown_closed (b := false) (G := G) hr (by omega) (allP_iff.2 fun s hs => ?_)
      have h2 := red_sym hG hk hs
      have h3 := hX (redS (oldN G) s) (List.mem_map.2 ⟨s, hs, rfl⟩)
      refine ⟨fun h0 => h3.1 (by have := h2.1; omega), fun h0 => ?_⟩
      have h4 := h3.2 (h2.1.2 h0)
      rw [h2.2 h0] at h4
      exact h4 _ (sig_toI (kept_sym hG hk hs h0)).2.2
  · intro h
    have := grown_least (b := false) (G := G) (fun i => (prodN G).getD i false = true ∧ (i ∈ oldN G → (nullN (redG G)).getD (sig G i) false = true)) (fun r hr hX => ?_) h
    · exact this.2 hi
    · have ha : allP true (prodN G) r.right = true := allP_iff.2 fun s hs => ⟨fun _ => rfl, fun h0 => ((hX s hs).2 h0).1⟩
      have hl := hG.left r hr
      refine ⟨grown_closed (b := true) hr (by omega) ha, fun hu => ?_⟩
      have hk := kept_of hG hr hu ha
      rw [← red_left hk]
      refine grown_closed (b := false) (G := redG G) (red_rule.2 ⟨r, hk, rfl⟩) ?_ (allP_iff.2 fun s' hs' => ?_)
      · rw [red_nons, red_left hk]; exact (sig_toI hu).2.1
      · obtain ⟨s, hs, rfl⟩ := List.mem_map.1 hs'
        have h1 := red_sym hG hk hs
        refine ⟨fun h0' => (hX s hs).1 (by have := h1.1; omega), fun h0' => ?_⟩
        have h0 := h1.1.1 h0'
        rw [h1.2 h0]
        exact ((hX s hs).2 h0).2 (kept_sym hG hk hs h0)
theorem red_reach (hG : G.Fits) (hH : (redG G).Fits) (hp : (prodN G).getD G.start.toNat false = true) {i : Nat} (hi : i ∈ oldN G) : (reachN (redG G)).getD (sig G i) false = true := by
  have := reach_least (G := G) (fun i => i ∈ oldN G ∧ (reachN (redG G)).getD (sig G i) false = true) ⟨prod_start hG hp, by have := reach_start hH; rwa [red_start hG hp] at this⟩ (fun r hr hX ha s hs h0 => ?_) ((old_mem hG).1 hi).2
  · exact this.2
  · have hk := kept_of hG hr hX.1 ha
    have h1 := red_sym hG hk hs
    refine ⟨kept_sym hG hk hs h0, ?_⟩
    rw [← h1.2 h0]
    refine reach_closed hH (red_rule.2 ⟨r, hk, rfl⟩) (by rw [red_left hk]; exact hX.2) (allP_iff.2 fun s' hs' => ⟨fun _ => rfl, fun h0' => ?_⟩) (List.mem_map.2 ⟨s, hs, rfl⟩) (h1.1.2 h0)
    obtain ⟨q, hq, rfl⟩ := List.mem_map.1 hs'
    have h2 := red_sym hG hk hq
    rw [h2.2 (h2.1.1 h0')]
    exact red_prod hG hH (kept_sym hG hk hq (h2.1.1 h0'))
theorem red_nul (hG : G.Fits) (hH : (redG G).Fits) {r : Rul} (hk : r ∈ keptR G) {s : Int} (hs : s ∈ r.right) : nulB (nullN (redG G)) (redS (oldN G) s) = nulB (nullN G) s := by
  have h1 := red_sym hG hk hs
  unfold nulB
  by_cases h0 : s < 0
  · rw [h1.2 h0, red_null hG hH (kept_sym hG hk hs h0)]
    have : decide (redS (oldN G) s < 0) = decide (s < 0) := by rw [Bool.eq_iff_iff, decide_eq_true_iff, decide_eq_true_iff]; exact h1.1
    rw [this]
  · have e1 : decide (s < 0) = false := by rw [decide_eq_false_iff_not]; exact h0
    have e2 : decide (redS (oldN G) s < 0) = false := by rw [decide_eq_false_iff_not]; exact fun h => h0 (h1.1.1 h)
    rw [e1, e2, Bool.false_and, Bool.false_and]
theorem all_map {α β : Type} (f : α → β) (p : β → Bool) (q : α → Bool) (l : List α) (h : ∀ x ∈ l, p (f x) = q x) : (l.map f).all p = l.all q := by
  rw [List.all_map]
  rw [Bool.eq_iff_iff, List.all_eq_true, List.all_eq_true]
  constructor
  · intro hh x hx; rw [← h x hx]; exact hh x hx
  · intro hh x hx; show p (f x) = true; rw [h x hx]; exact hh x hx
theorem red_stands (hG : G.Fits) (hH : (redG G).Fits) {r : Rul} (hk : r ∈ keptR G) {k : Nat} {s : Int} (hs : r.right[k]? = some s) :
    standsR (nullN (redG G)) (prodN (redG G)) (redR (oldN G) r).right k (redS (oldN G) s) = standsR (nullN G) (prodN G) r.right k s := by
  have hm := List.mem_of_getElem? hs
  have h1 := red_sym hG hk hm
  have ha := (kept_mem.1 hk).2.2
  have ha' : allP true (prodN (redG G)) (redR (oldN G) r).right = true := allP_iff.2 fun s' hs' => ⟨fun _ => rfl, fun h0' => by
    obtain ⟨q, hq, rfl⟩ := List.mem_map.1 hs'
    have h2 := red_sym hG hk hq
    rw [h2.2 (h2.1.1 h0')]
    exact red_prod hG hH (kept_sym hG hk hq (h2.1.1 h0'))⟩
  unfold standsR
  rw [ha, ha']
  have e1 : decide (redS (oldN G) s < 0) = decide (s < 0) := by rw [Bool.eq_iff_iff, decide_eq_true_iff, decide_eq_true_iff]; exact h1.1
  rw [e1]
  congr 2
  unfold aloneP
  show (((r.right.map (redS (oldN G))).take k).all (nulB (nullN (redG G))) && ((r.right.map (redS (oldN G))).drop (k + 1)).all (nulB (nullN (redG G)))) = _
  rw [← List.map_take, ← List.map_drop, all_map _ _ (nulB (nullN G)) _ fun q hq => red_nul hG hH hk (List.mem_of_mem_take hq), all_map _ _ (nulB (nullN G)) _ fun q hq => red_nul hG hH hk (List.mem_of_mem_drop hq)]
theorem red_steps (hG : G.Fits) (hH : (redG G).Fits) {i t : Nat} (hi : i ∈ oldN G) (ht : t ∈ oldN G) : ((stepsN (redG G)).getD (sig G i) 0).testBit (sig G t) = ((stepsN G).getD i 0).testBit t := by
  rw [Bool.eq_iff_iff, steps_mem hH, steps_mem hG]
  constructor
  · rintro ⟨r', hr', k, s', hs', hst, hl, hn⟩
    obtain ⟨r, hk, rfl⟩ := red_rule.1 hr'
    have hs2 : (r.right.map (redS (oldN G)))[k]? = some s' := hs'
    rw [List.getElem?_map] at hs2
    cases hs : r.right[k]? with
    | none => rw [hs] at hs2; cases hs2
    | some s =>
      rw [hs] at hs2
      have : redS (oldN G) s = s' := by simpa using hs2
      subst this
      rw [red_stands hG hH hk hs] at hst
      have h0 : s < 0 := by
        unfold standsR at hst
        simp only [Bool.and_eq_true, decide_eq_true_eq] at hst
        exact hst.1.1
      have hm := List.mem_of_getElem? hs
      have h1 := red_sym hG hk hm
      rw [red_left hk] at hl
      rw [h1.2 h0] at hn
      exact ⟨r, (kept_mem.1 hk).1, k, s, hs, hst, sig_inj (kept_left hk) hi hl, sig_inj (kept_sym hG hk hm h0) ht hn⟩
  · rintro ⟨r, hr, k, s, hs, hst, rfl, rfl⟩
    have ha : allP true (prodN G) r.right = true ∧ s < 0 := by
      unfold standsR at hst
      simp only [Bool.and_eq_true, decide_eq_true_eq] at hst
      exact ⟨hst.2, hst.1.1⟩
    have hk := kept_of hG hr hi ha.1
    have h1 := red_sym hG hk (List.mem_of_getElem? hs)
    refine ⟨redR (oldN G) r, red_rule.2 ⟨r, hk, rfl⟩, k, redS (oldN G) s, ?_, by rw [red_stands hG hH hk hs]; exact hst, red_left hk, h1.2 ha.2⟩
    show (r.right.map (redS (oldN G)))[k]? = _
    rw [List.getElem?_map, hs]
    rfl
theorem old_closed (hG : G.Fits) {i t : Nat} (hi : i ∈ oldN G) (h : ((stepsN G).getD i 0).testBit t = true) : t ∈ oldN G := by
  rw [old_mem hG] at hi ⊢
  have := use_closed G hG i t ((useS_bit G hG i).2 hi) h
  exact (useS_bit G hG t).1 this
theorem red_comes (hG : G.Fits) (hH : (redG G).Fits) {i t : Nat} (hi : i ∈ oldN G) (ht : t ∈ oldN G) : comesTo (stepsN (redG G)) (sig G i) (sig G t) = comesTo (stepsN G) i t := by
  have hlen : ∀ {j}, j ∈ oldN G → sig G j < (stepsN (redG G)).length := fun hj => by rw [stepsN_len, red_nons]; exact (sig_toI hj).2.1
  have hlen2 : ∀ {j}, j ∈ oldN G → j < (stepsN G).length := fun hj => by rw [stepsN_len]; exact use_lt ((old_mem hG).1 hj)
  rw [Bool.eq_iff_iff]
  constructor
  · intro h
    have := comes_in (S := stepsN (redG G)) (fun j => ∀ t, (oldN G)[j]? = some t → comesTo (stepsN G) i t = true) (fun k hk hX t' ht' t2 ht2 => ?_) (stepsN_in _ hH) (hlen hi) (fun t' ht' t2 ht2 => ?_) h
    · exact this t (sig_toI ht).2.2
    · rw [stepsN_len, red_nons] at hk
      have hk2 := List.getElem?_eq_getElem hk
      have hc := hX _ hk2
      have hm := List.mem_of_getElem? hk2
      have hm2 := List.mem_of_getElem? ht2
      rw [← sig_get hk2, ← sig_get ht2, red_steps hG hH hm hm2] at ht'
      exact comes_trans (hlen2 hi) (hlen2 hm) hc (comes_once (hlen2 hm) ht')
    · have hm2 := List.mem_of_getElem? ht2
      rw [← sig_get ht2, red_steps hG hH hi hm2] at ht'
      exact comes_once (hlen2 hi) ht'
  · intro h
    have := comes_in (S := stepsN G) (fun j => j ∈ oldN G ∧ comesTo (stepsN (redG G)) (sig G i) (sig G j) = true) (fun k hk hX t' ht' => ?_) (stepsN_in _ hG) (hlen2 hi) (fun t' ht' => ?_) h
    · exact this.2
    · have hm := old_closed hG hX.1 ht'
      refine ⟨hm, comes_trans (hlen hi) (hlen hX.1) hX.2 (comes_once (hlen hX.1) ?_)⟩
      rw [red_steps hG hH hX.1 hm]
      exact ht'
    · have hm := old_closed hG hi ht'
      refine ⟨hm, comes_once (hlen hi) ?_⟩
      rw [red_steps hG hH hi hm]
      exact ht'
/-- where a cycle is -/
theorem cyc_bit (hG : G.Fits) (i : Nat) : (cycS (stepsN G)).testBit i = true ↔ i < G.nons.length ∧ comesTo (stepsN G) i i = true := by
  unfold cycS
  rw [setB_bit, stepsN_len]
  simp only [Bool.and_eq_true, decide_eq_true_eq]
  have := hG.n2
  constructor
  · rintro ⟨_, h1, h2⟩; exact ⟨h1, h2⟩
  · rintro ⟨h1, h2⟩; exact ⟨by omega, h1, h2⟩
theorem end_iff (hr : G.right = true) : endG G = true ↔ ∃ i, (useS G).testBit i = true ∧ comesTo (stepsN G) i i = true := by
  have hG := Gr.fits hr
  unfold endG cycG useG
  rw [if_pos hr, if_pos hr]
  constructor
  · intro h
    have hne : cycS (stepsN G) &&& useS G ≠ 0 := by simpa using h
    obtain ⟨i, hi⟩ := bit_of_ne hne
    rw [Nat.testBit_and, Bool.and_eq_true] at hi
    exact ⟨i, hi.2, ((cyc_bit hG i).1 hi.1).2⟩
  · rintro ⟨i, hu, hc⟩
    have hu2 := (useS_bit G hG i).1 hu
    have h1 : (cycS (stepsN G) &&& useS G).testBit i = true := by
      rw [Nat.testBit_and, hu, (cyc_bit hG i).2 ⟨use_lt hu2, hc⟩]
      rfl
    have hne : cycS (stepsN G) &&& useS G ≠ 0 := fun h => by rw [h, Nat.zero_testBit] at h1; cases h1
    simpa using hne
/-- a grammar is endless just if it is so reduced, and then each cycle counts -/
theorem red_ends (hr : G.right = true) (hp : (prodN G).getD G.start.toNat false = true) : endG (redG G) = endG G ∧ (endG (redG G) = true ↔ cycG (redG G) ≠ 0) := by
  have hG := Gr.fits hr
  have hrH := red_right hr hp
  have hH := Gr.fits hrH
  have hall : ∀ i, i ∈ oldN G → (useS (redG G)).testBit (sig G i) = true := fun i hi => (useS_bit _ hH _).2 ⟨red_prod hG hH hi, red_reach hG hH hp hi⟩
  have hone : ∀ j, j < (redG G).nons.length → ∃ i, i ∈ oldN G ∧ sig G i = j := fun j hj => by
    rw [red_nons] at hj
    have := List.getElem?_eq_getElem hj
    exact ⟨_, List.mem_of_getElem? this, sig_get this⟩
  constructor
  · rw [Bool.eq_iff_iff, end_iff hrH, end_iff hr]
    constructor
    · rintro ⟨j, hu, hc⟩
      obtain ⟨i, hi, rfl⟩ := hone j (use_lt ((useS_bit _ hH j).1 hu))
      rw [red_comes hG hH hi hi] at hc
      exact ⟨i, (useS_bit G hG i).2 ((old_mem hG).1 hi), hc⟩
    · rintro ⟨i, hu, hc⟩
      have hi := (old_mem hG).2 ((useS_bit G hG i).1 hu)
      exact ⟨sig G i, hall i hi, by rw [red_comes hG hH hi hi]; exact hc⟩
  · rw [end_iff hrH]
    unfold cycG
    rw [if_pos hrH]
    constructor
    · rintro ⟨j, hu, hc⟩ h0
      have := (cyc_bit hH j).2 ⟨use_lt ((useS_bit _ hH j).1 hu), hc⟩
      rw [h0, Nat.zero_testBit] at this
      cases this
    · intro hne
      obtain ⟨j, hj⟩ := bit_of_ne hne
      obtain ⟨hl, hc⟩ := (cyc_bit hH j).1 hj
      obtain ⟨i, hi, rfl⟩ := hone j hl
      exact ⟨sig G i, hall i hi, hc⟩
end
end Go.Proofs.YtfdbpafenhdkbaaGreatDoor
