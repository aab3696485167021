/- trees, plainly: a tree's reductions, and a reductions' tree, go back and forth. -/
import Derived.Test.YtfdbpafenhdkbaaGreatQTrC1
namespace Go.Proofs.YtfdbpafenhdkbaaGreat
open Go.RowKit
set_option linter.unusedVariables false
set_option linter.unusedSimpArgs false

/-- what symbols derive: the rules of their trees, their reductions, their word, their height -/
inductive Fs (G : Gr) : List Int → List Int → List Int → List Int → Nat → Prop
  | nil : Fs G [] [] [] [] 0
  | term {s : Int} {ss ps qs wd : List Int} {m : Nat} : 0 ≤ s → Fs G ss ps qs wd m → Fs G (s :: ss) ps qs (s :: wd) m
  | non {s i : Int} {r : Rul} {ss p1 q1 w1 ps qs wd : List Int} {m1 m : Nat} : s < 0 → ruleAt G i = some r → r.left = -1 - s → Fs G r.right p1 q1 w1 m1 → Fs G ss ps qs wd m → Fs G (s :: ss) (i :: (p1 ++ ps)) (q1 ++ i :: qs) (w1 ++ wd) (max (m1 + 1) m)
/-- one nonterminal's tree, as a walk goes through it -/
def Stp (G : Gr) (st : WSt) (non : Int) (st' : WSt) (n : Nat) : Prop :=
  ∃ i r p1 q1 w1 m, ruleAt G i = some r ∧ r.left = non ∧ Fs G r.right p1 q1 w1 m ∧ n = m + 1 ∧ st.rest = i :: (p1 ++ st'.rest) ∧ st'.word = st.word ++ w1 ∧ st'.posts = st.posts ++ (q1 ++ [i])
theorem symsP_sound {G : Gr} {f : WSt → Int → Option (WSt × Nat)} (hf : ∀ st non st' n, f st non = some (st', n) → Stp G st non st' n) :
    ∀ (ss : List Int) (st : WSt) (top : Nat) (st' : WSt) (n : Nat), symsP f ss st top = some (st', n) →
      ∃ ps qs wd m, Fs G ss ps qs wd m ∧ n = max top m ∧ st.rest = ps ++ st'.rest ∧ st'.word = st.word ++ wd ∧ st'.posts = st.posts ++ qs := by
  intro ss
  induction ss with
  | nil =>
    intro st top st' n h
    simp only [symsP, Option.some.injEq, Prod.mk.injEq] at h
    obtain ⟨rfl, rfl⟩ := h
    exact ⟨[], [], [], 0, .nil, by omega, by simp, by simp, by simp⟩
  | cons s ss ih =>
    intro st top st' n h
    unfold symsP at h
    split at h
    · rename_i h0
      obtain ⟨ps, qs, wd, m, h1, h2, h3, h4, h5⟩ := ih _ _ _ _ h
      exact ⟨ps, qs, s :: wd, m, .term h0 h1, h2, h3, by rw [h4]; simp, h5⟩
    · rename_i h0
      split at h
      · cases h
      · rename_i st1 n1 e1
        obtain ⟨i, r, p1, q1, w1, m1, a1, a2, a3, a4, a5, a6, a7⟩ := hf _ _ _ _ e1
        obtain ⟨ps, qs, wd, m, h1, h2, h3, h4, h5⟩ := ih _ _ _ _ h
        exact ⟨_, _, _, _, .non (by omega) a1 a2 a3 h1, by omega, by rw [a5, h3]; simp, by rw [h4, a6]; simp, by rw [h5, a7]; simp⟩
theorem walkP_sound {G : Gr} : ∀ (q : Nat) (st : WSt) (non : Int) (st' : WSt) (n : Nat), walkP G q st non = some (st', n) → Stp G st non st' n := by
  intro q
  induction q with
  | zero => intro st non st' n h; cases h
  | succ q ih =>
    intro st non st' n h
    unfold walkP at h
    split at h
    · cases h
    · rename_i i rest hr
      split at h
      · cases h
      · rename_i r hi
        split at h
        · rename_i hl
          cases hs : symsP (walkP G q) r.right { st with rest := rest } 0 with
          | none => rw [hs] at h; cases h
          | some x =>
            obtain ⟨x1, x2⟩ := x
            rw [hs] at h
            simp only [Option.map_some, Option.some.injEq, Prod.mk.injEq] at h
            obtain ⟨rfl, rfl⟩ := h
            obtain ⟨ps, qs, wd, m, h1, h2, h3, h4, h5⟩ := symsP_sound (fun st non st' n => ih st non st' n) _ _ _ _ _ hs
            exact ⟨i, r, ps, qs, wd, m, hi, hl, h1, by omega, by rw [hr]; simp only [] at h3; rw [h3], h4, by simp only [h5, List.append_assoc]⟩
        · cases h
theorem symsP_full {G : Gr} {ss ps qs wd : List Int} {m : Nat} (h : Fs G ss ps qs wd m) :
    ∀ (q : Nat) (rest w p : List Int) (top : Nat), ps.length ≤ q → symsP (walkP G q) ss ⟨ps ++ rest, w, p⟩ top = some (⟨rest, w ++ wd, p ++ qs⟩, max top m) := by
  induction h with
  | nil => intro q rest w p top _; simp [symsP]
  | @term s ss ps qs wd m h0 _ ih =>
    intro q rest w p top hq
    have := ih q rest (w ++ [s]) p top hq
    unfold symsP
    rw [if_pos h0]
    simp only []
    rw [this]
    simp
  | @non s i r ss p1 q1 w1 ps qs wd m1 m h0 hr hl _ _ ih1 ih2 =>
    intro q rest w p top hq
    simp only [List.length_cons, List.length_append] at hq
    obtain ⟨q', rfl⟩ : ∃ q', q = q' + 1 := ⟨q - 1, by omega⟩
    have e : walkP G (q' + 1) ⟨i :: (p1 ++ ps) ++ rest, w, p⟩ (-1 - s) = some (⟨ps ++ rest, w ++ w1, p ++ (q1 ++ [i])⟩, m1 + 1) := by
      unfold walkP
      simp only [List.cons_append, hr, if_pos hl]
      have := ih1 q' (ps ++ rest) w p 0 (by omega)
      rw [show p1 ++ ps ++ rest = p1 ++ (ps ++ rest) from List.append_assoc _ _ _, this]
      simp
    unfold symsP
    rw [if_neg (by omega), e]
    simp only []
    rw [ih2 (q' + 1) rest _ _ _ (by omega)]
    simp only [List.append_assoc, List.cons_append, List.nil_append, Option.some.injEq, Prod.mk.injEq, true_and]
    omega
theorem Fs.len {G : Gr} {ss ps qs wd : List Int} {m : Nat} (h : Fs G ss ps qs wd m) : ps.length = qs.length := by
  induction h with
  | nil => rfl
  | term _ _ ih => exact ih
  | non _ _ _ _ _ ih1 ih2 => simp only [List.length_cons, List.length_append]; omega
theorem Fs.terms {G : Gr} {ss ps qs wd : List Int} {m : Nat} (h : Fs G ss ps qs wd m) : ∀ s ∈ wd, 0 ≤ s := by
  induction h with
  | nil => intro s hs; cases hs
  | term h0 _ ih =>
    intro s hs
    rcases List.mem_cons.1 hs with rfl | hs
    · exact h0
    · exact ih s hs
  | non _ _ _ _ _ ih1 ih2 =>
    intro s hs
    rcases List.mem_append.1 hs with hs | hs
    · exact ih1 s hs
    · exact ih2 s hs
theorem readT_parts {G : Gr} {t wd ps : List Int} {k : Nat} (h : readT G t = some (wd, ps, k)) : G.right = true ∧ t.length ≤ 300 ∧ Fs G [-1 - G.start] t ps wd k := by
  unfold readT at h
  split at h
  · rename_i hc
    rw [Bool.and_eq_true, decide_eq_true_iff] at hc
    split at h
    · cases h
    · rename_i st n hw
      split at h
      · rename_i hr
        simp only [Option.some.injEq, Prod.mk.injEq] at h
        obtain ⟨rfl, rfl, rfl⟩ := h
        obtain ⟨i, r, p1, q1, w1, m, a1, a2, a3, a4, a5, a6, a7⟩ := walkP_sound _ _ _ _ _ hw
        have hst := (Gr.fits hc.1).st
        have := Fs.non (s := -1 - G.start) (ss := []) (by omega) a1 (by omega) a3 .nil
        simp only [List.append_nil] at this
        rw [hr, List.append_nil] at a5
        simp only [List.nil_append] at a6 a7
        simp only [] at a5
        rw [a5, a6, a7, a4]
        refine ⟨hc.1, by rw [← a5]; exact hc.2, ?_⟩
        rw [show max (m + 1) 0 = m + 1 by omega] at this
        exact this
      · cases h
  · cases h
theorem readT_full {G : Gr} {t wd ps : List Int} {k : Nat} (hr : G.right = true) (hl : t.length ≤ 300) (h : Fs G [-1 - G.start] t ps wd k) : readT G t = some (wd, ps, k) := by
  have hst := (Gr.fits hr).st
  have := symsP_full h t.length [] [] [] 0 (Nat.le_refl _)
  unfold readT
  rw [hr, show decide (t.length ≤ 300) = true by rw [decide_eq_true_iff]; exact hl]
  simp only [Bool.and_self, if_true]
  unfold symsP at this
  rw [if_neg (by omega), show -1 - (-1 - G.start) = G.start by omega, List.append_nil] at this
  cases hw : walkP G t.length ⟨t, [], []⟩ G.start with
  | none => rw [hw] at this; cases this
  | some x =>
    obtain ⟨x1, x2⟩ := x
    rw [hw] at this
    simp only [symsP, Option.some.injEq, Prod.mk.injEq, List.nil_append] at this
    obtain ⟨rfl, h2⟩ := this
    simp only [if_true, Option.some.injEq, Prod.mk.injEq, true_and]
    omega

/-- rows of as many trees as are told, whatever their symbols: their rules, and their reductions -/
inductive Ar (G : Gr) : Nat → List Int → List Int → Prop
  | nil : Ar G 0 [] []
  | cons {n : Nat} {i : Int} {r : Rul} {p1 q1 ps qs : List Int} : ruleAt G i = some r → Ar G (negs r.right) p1 q1 → Ar G n ps qs → Ar G (n + 1) (i :: (p1 ++ ps)) (q1 ++ i :: qs)
theorem negs_cons (s : Int) (ss : List Int) : negs (s :: ss) = (if s < 0 then 1 else 0) + negs ss := by
  unfold negs
  by_cases h : s < 0
  · rw [List.filter_cons_of_pos (by simpa using h), if_pos h, List.length_cons]; omega
  · rw [List.filter_cons_of_neg (by simpa using h), if_neg h]; omega
theorem Fs.ar {G : Gr} {ss ps qs wd : List Int} {m : Nat} (h : Fs G ss ps qs wd m) : Ar G (negs ss) ps qs := by
  induction h with
  | nil => exact .nil
  | term h0 _ ih => rw [negs_cons, if_neg (by omega), Nat.zero_add]; exact ih
  | non h0 hr _ _ _ ih1 ih2 => rw [negs_cons, if_pos h0, Nat.add_comm]; exact .cons hr ih1 ih2
theorem Ar.det {G : Gr} {n : Nat} {p q : List Int} (h : Ar G n p q) : ∀ (a p' q' a' : List Int), Ar G n p' q' → p ++ a = p' ++ a' → p = p' ∧ q = q' ∧ a = a' := by
  induction h with
  | nil => intro a p' q' a' h' e; cases h'; exact ⟨rfl, rfl, e⟩
  | cons hr _ _ ih1 ih2 =>
    intro a p' q' a' h' e
    cases h' with
    | cons hr' h1 h2 =>
      simp only [List.cons_append, List.cons.injEq, List.append_assoc] at e
      obtain ⟨rfl, e⟩ := e
      rw [hr] at hr'
      injection hr' with hr'
      subst hr'
      obtain ⟨rfl, rfl, e⟩ := ih1 _ _ _ _ h1 e
      obtain ⟨rfl, rfl, e⟩ := ih2 _ _ _ _ h2 e
      exact ⟨rfl, rfl, e⟩
/-- trees side by side, and the reductions that made them -/
inductive St (G : Gr) : List (List Int) → List Int → Prop
  | nil : St G [] []
  | cons {t q : List Int} {th : List (List Int)} {l : List Int} : Ar G 1 t q → St G th l → St G (t :: th) (q ++ l)
theorem St.append {G : Gr} {a b : List (List Int)} {l m : List Int} (h : St G a l) (h2 : St G b m) : St G (a ++ b) (l ++ m) := by
  induction h with
  | nil => exact h2
  | cons ha _ ih => rw [List.append_assoc]; exact .cons ha ih
theorem St.cut {G : Gr} {a : List (List Int)} {l : List Int} (h : St G a l) : ∀ m : Nat, ∃ l1 l2, l = l1 ++ l2 ∧ St G (a.take m) l1 ∧ St G (a.drop m) l2 := by
  induction h with
  | nil => intro m; exact ⟨[], [], rfl, by simpa using .nil, by simpa using .nil⟩
  | cons ha hst ih =>
    intro m
    cases m with
    | zero => exact ⟨[], _, rfl, .nil, .cons ha hst⟩
    | succ m =>
      obtain ⟨l1, l2, rfl, h1, h2⟩ := ih m
      exact ⟨_, l2, by rw [List.append_assoc], .cons ha h1, h2⟩
theorem St.ar {G : Gr} {a : List (List Int)} {l : List Int} (h : St G a l) : Ar G a.length a.flatten l := by
  induction h with
  | nil => exact .nil
  | cons ha _ ih =>
    cases ha with
    | cons hr h1 h2 =>
      cases h2
      have := Ar.cons hr h1 ih
      simpa using this
theorem St.step {G : Gr} {th th' : List (List Int)} {l : List Int} {i : Int} (h : St G th l) (hs : ofStep G th i = some th') : St G th' (l ++ [i]) := by
  unfold ofStep at hs
  split at hs
  · cases hs
  · rename_i r hr
    split at hs
    · rename_i hn
      injection hs with hs
      subst hs
      obtain ⟨l1, l2, rfl, h1, h2⟩ := h.cut (th.length - negs r.right)
      have ha := h2.ar
      rw [List.length_drop, show th.length - (th.length - negs r.right) = negs r.right by omega] at ha
      have h3 := Ar.cons hr ha .nil
      rw [List.append_nil] at h3
      have := h1.append (St.cons h3 .nil)
      simpa using this
    · cases hs
theorem ofGo_st {G : Gr} : ∀ (l : List Int) (th th' : List (List Int)) (l0 : List Int), St G th l0 → ofGo G l th = some th' → St G th' (l0 ++ l) := by
  intro l
  induction l with
  | nil =>
    intro th th' l0 h e
    simp only [ofGo, Option.some.injEq] at e
    subst e
    rw [List.append_nil]
    exact h
  | cons i l ih =>
    intro th th' l0 h e
    unfold ofGo at e
    split at e
    · cases e
    · rename_i th1 e1
      have := ih _ _ _ (h.step e1) e
      rw [List.append_assoc] at this
      exact this
theorem ofGo_full {G : Gr} {n : Nat} {ps qs : List Int} (h : Ar G n ps qs) : ∃ trees : List (List Int), trees.flatten = ps ∧ trees.length = n ∧ ∀ (th : List (List Int)) (l : List Int), ofGo G (qs ++ l) th = ofGo G l (th ++ trees) := by
  induction h with
  | nil => exact ⟨[], rfl, rfl, fun th l => by simp⟩
  | @cons n i r p1 q1 ps qs hr _ _ ih1 ih2 =>
    obtain ⟨t1, f1, l1, g1⟩ := ih1
    obtain ⟨t2, f2, l2, g2⟩ := ih2
    refine ⟨(i :: p1) :: t2, by simp [f2], by simp [l2], fun th l => ?_⟩
    rw [List.append_assoc, List.cons_append, g1]
    have hst : ofStep G (th ++ t1) i = some (th ++ [i :: p1]) := by
      unfold ofStep
      simp only [hr]
      rw [if_pos (by rw [List.length_append]; omega)]
      rw [show (th ++ t1).length - negs r.right = th.length by rw [List.length_append]; omega, List.take_left, List.drop_left, f1]
    rw [ofGo, hst]
    simp only []
    rw [g2]
    simp
/-- a tree's reductions are that tree's -/
theorem tree_back1 {G : Gr} {t wd ps : List Int} {k : Nat} (h : readT G t = some (wd, ps, k)) : ofT G ps = some t := by
  obtain ⟨h1, h2, h3⟩ := readT_parts h
  have hst := (Gr.fits h1).st
  obtain ⟨trees, f1, f2, f3⟩ := ofGo_full h3.ar
  have hl := h3.len
  have := f3 [] []
  rw [List.append_nil, List.nil_append, ofGo] at this
  rw [negs_cons, if_pos (by omega)] at f2
  obtain ⟨u, rfl⟩ : ∃ u, trees = [u] := List.length_eq_one_iff.1 f2
  rw [List.flatten_cons, List.flatten_nil, List.append_nil] at f1
  subst f1
  unfold ofT
  rw [h1, show decide (ps.length ≤ 300) = true by rw [decide_eq_true_iff]; omega, this]
  simp only [Bool.and_self, if_true, h, Option.isSome_some]
/-- reductions of a tree are that tree's -/
theorem tree_back2 {G : Gr} {t u : List Int} (h : ofT G t = some u) : ∃ wd k, readT G u = some (wd, t, k) := by
  unfold ofT at h
  split at h
  · split at h
    · rename_i u' hu
      split at h
      · rename_i hs
        injection h with h
        subst h
        obtain ⟨⟨wd, ps, k⟩, hr⟩ := Option.isSome_iff_exists.1 hs
        obtain ⟨h1, h2, h3⟩ := readT_parts hr
        have hst := (Gr.fits h1).st
        have ha := h3.ar
        rw [negs_cons, if_pos (by omega)] at ha
        have hb := (ofGo_st _ _ _ _ .nil hu).ar
        simp only [List.length_cons, List.length_nil, List.flatten_cons, List.flatten_nil, List.append_nil, List.nil_append] at hb
        obtain ⟨_, e, _⟩ := ha.det [] _ _ [] hb rfl
        exact ⟨wd, k, by rw [hr, e]⟩
      · cases h
    · cases h
  · cases h
end Go.Proofs.YtfdbpafenhdkbaaGreat

namespace Go.Proofs.YtfdbpafenhdkbaaGreat
open Go.RowKit
set_option linter.unusedVariables false
set_option linter.unusedSimpArgs false

/-- symbols, parted at the last nonterminal -/
def splitNeg : List Int → Option (List Int × Int × List Int)
  | [] => none
  | x :: l => match splitNeg l with
    | some (a, s, b) => some (x :: a, s, b)
    | none => if x < 0 then some ([], x, l) else none
theorem splitNeg_none {l : List Int} (h : ∀ x ∈ l, 0 ≤ x) : splitNeg l = none := by
  induction l with
  | nil => rfl
  | cons x l ih =>
    unfold splitNeg
    rw [ih fun y hy => h y (List.mem_cons_of_mem _ hy)]
    have := h x (by simp)
    simp only
    rw [if_neg (by omega)]
theorem splitNeg_mid (a : List Int) {s : Int} {b : List Int} (hs : s < 0) (hb : ∀ x ∈ b, 0 ≤ x) : splitNeg (a ++ s :: b) = some (a, s, b) := by
  induction a with
  | nil =>
    show splitNeg (s :: b) = _
    unfold splitNeg
    rw [splitNeg_none hb]
    simp only
    rw [if_pos hs]
  | cons x a ih =>
    show splitNeg (x :: (a ++ s :: b)) = _
    unfold splitNeg
    rw [ih]
/-- a rule, put in the last nonterminal's place -/
def derStep (G : Gr) (form : List Int) (i : Int) : Option (List Int) :=
  match ruleAt G i with
  | none => none
  | some r => match splitNeg form with
    | none => none
    | some (a, s, b) => if -1 - s = r.left then some (a ++ r.right ++ b) else none
def derGo (G : Gr) : List Int → List Int → Option (List Int)
  | [], form => some form
  | i :: l, form => match derStep G form i with
    | none => none
    | some f => derGo G l f
/-- does a word come out? -/
def derP (G : Gr) (rules w : List Int) : Bool := match derGo G rules [-1 - G.start] with
  | none => false
  | some f => f == w
theorem derStep_mid {G : Gr} {a b : List Int} {s i : Int} {r : Rul} (hs : s < 0) (hb : ∀ x ∈ b, 0 ≤ x) (hr : ruleAt G i = some r) (hl : r.left = -1 - s) : derStep G (a ++ s :: b) i = some (a ++ r.right ++ b) := by
  unfold derStep
  rw [hr, splitNeg_mid a hs hb]
  simp only
  rw [if_pos hl.symm]
theorem derGo_fs {G : Gr} {ss ps qs wd : List Int} {m : Nat} (h : Fs G ss ps qs wd m) : ∀ (a b l : List Int), (∀ x ∈ b, 0 ≤ x) → derGo G (qs.reverse ++ l) (a ++ ss ++ b) = derGo G l (a ++ wd ++ b) := by
  induction h with
  | nil => intro a b l hb; rfl
  | @term s ss ps qs wd m h0 h ih =>
    intro a b l hb
    have := ih (a ++ [s]) b l hb
    simpa using this
  | @non s i r ss p1 q1 w1 ps qs wd m1 m h0 h1 h2 h3 h4 ih1 ih2 =>
    intro a b l hb
    have e1 := ih2 (a ++ [s]) b ([i] ++ (q1.reverse ++ l)) hb
    have hwb : ∀ x ∈ wd ++ b, 0 ≤ x := fun x hx => (List.mem_append.1 hx).elim (h4.terms x) (hb x)
    have e2 := ih1 a (wd ++ b) l hwb
    have e3 : derStep G (a ++ s :: (wd ++ b)) i = some (a ++ r.right ++ (wd ++ b)) := derStep_mid h0 hwb h1 h2
    have hq : (q1 ++ i :: qs).reverse ++ l = qs.reverse ++ ([i] ++ (q1.reverse ++ l)) := by simp
    rw [hq, show a ++ s :: ss ++ b = a ++ [s] ++ ss ++ b by simp, e1]
    show derGo G (i :: (q1.reverse ++ l)) (a ++ [s] ++ wd ++ b) = _
    rw [derGo, show a ++ [s] ++ wd ++ b = a ++ s :: (wd ++ b) by simp, e3]
    simp only
    rw [e2]
    simp
theorem tree_derives {G : Gr} {t wd ps : List Int} {k : Nat} (h : readT G t = some (wd, ps, k)) : derP G ps.reverse wd = true := by
  obtain ⟨h1, h2, h3⟩ := readT_parts h
  have := derGo_fs h3 [] [] [] (by simp)
  simp only [List.nil_append, List.append_nil] at this
  unfold derP
  rw [this, derGo]
  simp
end Go.Proofs.YtfdbpafenhdkbaaGreat

namespace Go.Proofs.YtfdbpafenhdkbaaGreat
open Go.RowKit
set_option linter.unusedVariables false
set_option linter.unusedSimpArgs false

/-- a state with something ahead -/
def preS (w0 p0 : List Int) (st : WSt) : WSt := ⟨st.rest, w0 ++ st.word, p0 ++ st.posts⟩
def preR (w0 p0 : List Int) (x : WSt × Nat) : WSt × Nat := (preS w0 p0 x.1, x.2)
theorem symsP_pre {f : WSt → Int → Option (WSt × Nat)} {w0 p0 : List Int} (hf : ∀ st non, f (preS w0 p0 st) non = (f st non).map (preR w0 p0)) :
    ∀ (ss : List Int) (st : WSt) (top : Nat), symsP f ss (preS w0 p0 st) top = (symsP f ss st top).map (preR w0 p0) := by
  intro ss
  induction ss with
  | nil => intro st top; rfl
  | cons s ss ih =>
    intro st top
    unfold symsP
    by_cases h0 : 0 ≤ s
    · rw [if_pos h0, if_pos h0, ← ih]
      simp [preS]
    · rw [if_neg h0, if_neg h0, hf]
      cases f st (-1 - s) with
      | none => rfl
      | some x =>
        obtain ⟨st', n⟩ := x
        exact ih st' (max top n)
theorem walkP_pre (G : Gr) (w0 p0 : List Int) : ∀ (q : Nat) (st : WSt) (non : Int), walkP G q (preS w0 p0 st) non = (walkP G q st non).map (preR w0 p0) := by
  intro q
  induction q with
  | zero => intro st non; rfl
  | succ q ih =>
    intro st non
    unfold walkP
    show (match st.rest with
      | [] => none
      | i :: rest => _) = _
    cases st.rest with
    | nil => rfl
    | cons i rest =>
      simp only
      cases ruleAt G i with
      | none => rfl
      | some r =>
        simp only
        by_cases hl : r.left = non
        · rw [if_pos hl, if_pos hl]
          have := symsP_pre (w0 := w0) (p0 := p0) ih r.right { st with rest := rest } 0
          show (symsP (walkP G q) r.right (preS w0 p0 { st with rest := rest }) 0).map _ = _
          rw [this, Option.map_map, Option.map_map]
          congr 1
          funext x
          simp [preS, preR]
        · rw [if_neg hl, if_neg hl]; rfl
/-- a tree that begins at nothing, put behind what is there -/
theorem walkP_onto {G : Gr} {q : Nat} {rest wd ps : List Int} {non : Int} {st' : WSt} {n : Nat} (h : walkP G q ⟨rest, [], []⟩ non = some (st', n)) : walkP G q ⟨rest, wd, ps⟩ non = some (⟨st'.rest, wd ++ st'.word, ps ++ st'.posts⟩, n) := by
  have := walkP_pre G wd ps q ⟨rest, [], []⟩ non
  rw [h] at this
  simpa [preS, preR] using this
theorem walkP_onto_none {G : Gr} {q : Nat} {rest wd ps : List Int} {non : Int} (h : walkP G q ⟨rest, [], []⟩ non = none) : walkP G q ⟨rest, wd, ps⟩ non = none := by
  have := walkP_pre G wd ps q ⟨rest, [], []⟩ non
  rw [h] at this
  simpa [preS, preR] using this
theorem Fs.height {G : Gr} {ss ps qs wd : List Int} {m : Nat} (h : Fs G ss ps qs wd m) : m ≤ ps.length := by
  induction h with
  | nil => simp
  | term h0 h ih => exact ih
  | non h0 h1 h2 h3 h4 ih1 ih2 =>
    simp only [List.length_cons, List.length_append]
    omega
theorem Fs.words {G : Gr} (hfit : G.Fits) {ss ps qs wd : List Int} {m : Nat} (h : Fs G ss ps qs wd m) : wd.length ≤ ss.length + 6 * ps.length := by
  induction h with
  | nil => simp
  | term h0 h ih =>
    simp only [List.length_cons]
    omega
  | @non s i r ss p1 q1 w1 ps qs wd m1 m h0 h1 h2 h3 h4 ih1 ih2 =>
    have hm : r ∈ G.rules := by
      obtain ⟨j, _, hj⟩ := ruleAt_some h1
      exact List.mem_of_getElem? hj
    have := hfit.len r hm
    simp only [List.length_cons, List.length_append]
    omega
/-- what a tree that begins at nothing is like -/
theorem walkP_shape {G : Gr} (hfit : G.Fits) {q at_ : Nat} {t : List Int} {non : Int} {st' : WSt} {n : Nat} (h : walkP G q ⟨t.drop at_, [], []⟩ non = some (st', n)) :
    ∃ e : Nat, at_ < e ∧ e ≤ t.length ∧ st'.rest = t.drop e ∧ st'.word.length ≤ 6 * (e - at_) ∧ st'.posts.length = e - at_ ∧ 0 < n ∧ n ≤ e - at_ := by
  obtain ⟨i, r, p1, q1, w1, m, h1, h2, h3, h4, h5, h6, h7⟩ := walkP_sound q _ _ _ _ h
  simp only at h5
  have hl : (t.drop at_).length = p1.length + 1 + st'.rest.length := by rw [h5]; simp; omega
  have hla : (t.drop at_).length = t.length - at_ := List.length_drop
  have hpq := h3.len
  have hh := h3.height
  have hw := h3.words hfit
  have hm : r ∈ G.rules := by
    obtain ⟨j, _, hj⟩ := ruleAt_some h1
    exact List.mem_of_getElem? hj
  have hr := hfit.len _ hm
  refine ⟨at_ + p1.length + 1, by omega, by omega, ?_, ?_, ?_, by omega, by omega⟩
  · have : (t.drop at_).drop (p1.length + 1) = st'.rest := by rw [h5]; simp
    rw [← this, List.drop_drop]
    congr 1
  · rw [h6]; simp only [List.nil_append]; omega
  · rw [h7]; simp; omega
end Go.Proofs.YtfdbpafenhdkbaaGreat
