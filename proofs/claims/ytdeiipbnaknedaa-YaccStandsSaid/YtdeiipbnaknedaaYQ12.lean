/- yacc, plainly: a source is read out of tokens; what is listed of it is just the names and literals among the tokens. -/
import Derived.Test.YtdeiipbnaknedaaYQ10
namespace Go.Proofs.Ytdeiipbnaknedaa
set_option linter.unusedVariables false
set_option linter.unusedSimpArgs false

/-- a reference: its text, and the bytes ahead of it -/
abbrev RefY := List Nat × List Nat
structure PrdY where
  left : RefY
  right : List RefY
  prec : Option RefY
structure DclY where
  kind : Nat
  names : List RefY
/-- what reading comes to: something, and the tokens that are left; or where it is wrong, and why -/
inductive ResY (α : Type) where
  | ok (a : α) (rest : List Tok)
  | bad (at_ : List Nat) (er : Nat)
def ResY.bind {α β : Type} : ResY α → (α → List Tok → ResY β) → ResY β
  | .ok a r, f => f a r
  | .bad p e, _ => .bad p e
def isSymY (k : Nat) : Bool := decide (k = 1) || decide (k = 2)
/-- the names and literals among tokens -/
def symsY (l : List Tok) : List RefY := (l.filter fun t => isSymY t.1).map fun t => t.2
theorem symsY_cons (t : Tok) (l : List Tok) : symsY (t :: l) = (if isSymY t.1 then [t.2] else []) ++ symsY l := by
  unfold symsY
  rw [List.filter_cons]
  split
  · simp
  · simp
def takeY (e ks : List Nat) : List Tok → ResY RefY
  | [] => .bad e 4
  | t :: r => if ks.contains t.1 then .ok t.2 r else .bad t.2.2 3
def nextY (ks : List Nat) : List Tok → Bool
  | [] => false
  | t :: _ => ks.contains t.1
def refsY : List Tok → List RefY × List Tok
  | [] => ([], [])
  | t :: r => if isSymY t.1 then (t.2 :: (refsY r).1, (refsY r).2) else ([], t :: r)
def declY (e : List Nat) : List Tok → ResY DclY
  | [] => .bad e 4
  | t :: r =>
    if [3, 4, 5, 6, 7].contains t.1 then
      if t.1 = 7 then (takeY e [1] r).bind fun n r' => .ok ⟨t.1, [n]⟩ r'
      else (takeY e [1, 2] r).bind fun n r' => .ok ⟨t.1, n :: (refsY r').1⟩ (refsY r').2
    else .bad t.2.2 3
def precY (e : List Nat) (l : List Tok) : ResY (Option RefY) :=
  if nextY [8] l then (takeY e [8] l).bind fun _ r => (takeY e [1, 2] r).bind fun n r' => .ok (some n) r' else .ok none l
def altsY (e : List Nat) (left : RefY) : Nat → List Tok → List PrdY → ResY (List PrdY)
  | 0, _, _ => .bad [] 99
  | q + 1, l, acc =>
    (precY e (refsY l).2).bind fun pr r =>
      if nextY [11] r then (takeY e [11] r).bind fun _ r' => altsY e left q r' (acc ++ [⟨left, (refsY l).1, pr⟩])
      else (takeY e [12] r).bind fun _ r' => .ok (acc ++ [⟨left, (refsY l).1, pr⟩]) r'
def groupY (e : List Nat) (l : List Tok) : ResY (List PrdY) :=
  (takeY e [1] l).bind fun left r => (takeY e [10] r).bind fun _ r' => altsY e left (r'.length + 1) r' []
def declsY (e : List Nat) : Nat → List Tok → List DclY → ResY (List DclY)
  | 0, _, _ => .bad [] 99
  | q + 1, l, acc => if l = [] ∨ nextY [9] l = true then .ok acc l else (declY e l).bind fun d r => declsY e q r (acc ++ [d])
def groupsY (e : List Nat) : Nat → List Tok → List PrdY → ResY (List PrdY)
  | 0, _, _ => .bad [] 99
  | q + 1, l, acc => if l = [] ∨ nextY [9] l = true then .ok acc l else (groupY e l).bind fun g r => groupsY e q r (acc ++ g)
def endY (e : List Nat) (l : List Tok) : ResY Unit :=
  (if nextY [9] l then (takeY e [9] l).bind fun _ r => .ok () r else .ok () l).bind fun _ r =>
    match r with
    | [] => .ok () []
    | t :: _ => .bad t.2.2 3
/-- a source out of tokens -/
def srcY (e : List Nat) (l : List Tok) : ResY (List DclY × List PrdY) :=
  (declsY e (l.length + 1) l []).bind fun ds r => (takeY e [9] r).bind fun _ r1 => (groupY e r1).bind fun g r2 =>
    (groupsY e (r2.length + 1) r2 g).bind fun ps r3 => (endY e r3).bind fun _ r4 => .ok (ds, ps) r4

/-! ### what comes out stands in the tokens -/
theorem ResY.bind_ok {α β : Type} {x : ResY α} {f : α → List Tok → ResY β} {b : β} {r : List Tok} (h : x.bind f = .ok b r) : ∃ a r', x = .ok a r' ∧ f a r' = .ok b r := by
  cases x with
  | ok a r' => exact ⟨a, r', rfl, h⟩
  | bad p e => cases h
theorem takeY_ok {e ks : List Nat} {l r : List Tok} {v : RefY} (h : takeY e ks l = .ok v r) : ∃ t, l = t :: r ∧ v = t.2 ∧ ks.contains t.1 = true := by
  cases l with
  | nil => cases h
  | cons t l =>
    simp only [takeY] at h
    split at h
    · rename_i hk
      injection h with h1 h2
      subst h1 h2
      exact ⟨t, rfl, rfl, hk⟩
    · cases h
theorem takeY_sym {e ks : List Nat} {l r : List Tok} {v : RefY} (h : takeY e ks l = .ok v r) (hk : ∀ k, ks.contains k = true → isSymY k = true) : symsY l = v :: symsY r := by
  obtain ⟨t, rfl, rfl, hc⟩ := takeY_ok h
  rw [symsY_cons, if_pos (hk _ hc)]
  rfl
theorem takeY_no {e ks : List Nat} {l r : List Tok} {v : RefY} (h : takeY e ks l = .ok v r) (hk : ∀ k, ks.contains k = true → isSymY k = false) : symsY l = symsY r := by
  obtain ⟨t, rfl, rfl, hc⟩ := takeY_ok h
  rw [symsY_cons, if_neg (by rw [hk _ hc]; decide)]
  rfl
theorem refsY_syms : ∀ (l : List Tok), symsY l = (refsY l).1 ++ symsY (refsY l).2
  | [] => rfl
  | t :: r => by
    rw [symsY_cons, refsY]
    split
    · rw [refsY_syms r]
      rfl
    · rename_i h
      show _ = [] ++ symsY (t :: r)
      rw [symsY_cons, if_neg h]
      rfl
theorem sym12 (k : Nat) (h : [1, 2].contains k = true) : isSymY k = true := by simpa [isSymY] using h
theorem sym1 (k : Nat) (h : [1].contains k = true) : isSymY k = true := by
  have : k = 1 := by simpa using h
  subst this
  rfl
theorem no_of (m : Nat) (hm : isSymY m = false) (k : Nat) (h : [m].contains k = true) : isSymY k = false := by
  have : k = m := by simpa using h
  subst this
  exact hm
/-- what is left are tokens of these -/
def TailY (r l : List Tok) : Prop := ∃ p, l = p ++ r
theorem TailY.refl (l : List Tok) : TailY l l := ⟨[], rfl⟩
theorem TailY.trans {a b c : List Tok} (h : TailY a b) (k : TailY b c) : TailY a c := by
  obtain ⟨p, rfl⟩ := h
  obtain ⟨q, rfl⟩ := k
  exact ⟨q ++ p, by rw [List.append_assoc]⟩
theorem TailY.len {r l : List Tok} (h : TailY r l) : r.length ≤ l.length := by
  obtain ⟨p, rfl⟩ := h
  rw [List.length_append]
  omega
theorem TailY.mem {r l : List Tok} (h : TailY r l) {t : Tok} (ht : t ∈ r) : t ∈ l := by
  obtain ⟨p, rfl⟩ := h
  exact List.mem_append.2 (.inr ht)
theorem takeY_tail {e ks : List Nat} {l r : List Tok} {v : RefY} (h : takeY e ks l = .ok v r) : TailY r l := by
  obtain ⟨t, rfl, _⟩ := takeY_ok h
  exact ⟨[t], rfl⟩
theorem refsY_tail : ∀ (l : List Tok), TailY (refsY l).2 l
  | [] => .refl _
  | t :: r => by
    rw [refsY]
    split
    · exact (refsY_tail r).trans ⟨[t], rfl⟩
    · exact .refl _
theorem declY_ok {e : List Nat} {l r : List Tok} {d : DclY} (h : declY e l = .ok d r) : symsY l = d.names ++ symsY r ∧ TailY r l ∧ r.length < l.length := by
  cases l with
  | nil => cases h
  | cons t l =>
    simp only [declY] at h
    split at h
    case isFalse => cases h
    rename_i hk
    have hn : isSymY t.1 = false := by
      have : t.1 = 3 ∨ t.1 = 4 ∨ t.1 = 5 ∨ t.1 = 6 ∨ t.1 = 7 := by simpa using hk
      rcases this with h | h | h | h | h <;> rw [h] <;> rfl
    rw [symsY_cons, if_neg (by rw [hn]; decide), List.nil_append]
    split at h
    · obtain ⟨n, r', h1, h2⟩ := ResY.bind_ok h
      injection h2 with h2 h3
      subst h2 h3
      have ht := takeY_tail h1
      exact ⟨takeY_sym h1 sym1, ht.trans ⟨[t], rfl⟩, by have := ht.len; simp only [List.length_cons]; omega⟩
    · obtain ⟨n, r', h1, h2⟩ := ResY.bind_ok h
      injection h2 with h2 h3
      subst h2 h3
      have ht := (refsY_tail r').trans (takeY_tail h1)
      refine ⟨?_, ht.trans ⟨[t], rfl⟩, by have := ht.len; simp only [List.length_cons]; omega⟩
      rw [takeY_sym h1 sym12, refsY_syms r']
      rfl
theorem precY_ok {e : List Nat} {l r : List Tok} {p : Option RefY} (h : precY e l = .ok p r) : symsY l = p.toList ++ symsY r ∧ TailY r l := by
  unfold precY at h
  split at h
  · obtain ⟨_, r1, h1, h2⟩ := ResY.bind_ok h
    obtain ⟨n, r2, h3, h4⟩ := ResY.bind_ok h2
    injection h4 with h4 h5
    subst h4 h5
    exact ⟨by rw [takeY_no h1 (no_of 8 rfl), takeY_sym h3 sym12]; rfl, (takeY_tail h3).trans (takeY_tail h1)⟩
  · injection h with h1 h2
    subst h1 h2
    exact ⟨rfl, .refl _⟩
/-- what a rule lists behind its left side -/
def bodyY (p : PrdY) : List RefY := p.right ++ p.prec.toList
theorem altsY_ok {e : List Nat} {left : RefY} : ∀ {q : Nat} {l r : List Tok} {acc ps : List PrdY}, altsY e left q l acc = .ok ps r →
    ∃ new, ps = acc ++ new ∧ new ≠ [] ∧ (∀ p ∈ new, p.left = left) ∧ symsY l = new.flatMap bodyY ++ symsY r ∧ TailY r l
  | 0, l, r, acc, ps, h => by cases h
  | q + 1, l, r, acc, ps, h => by
    unfold altsY at h
    obtain ⟨pr, r1, h1, h2⟩ := ResY.bind_ok h
    obtain ⟨e1, t1⟩ := precY_ok h1
    have ht := t1.trans (refsY_tail l)
    split at h2
    · obtain ⟨_, r2, h3, h4⟩ := ResY.bind_ok h2
      obtain ⟨new, rfl, hne, hl, hs, htl⟩ := altsY_ok h4
      refine ⟨⟨left, (refsY l).1, pr⟩ :: new, by rw [List.append_assoc]; rfl, by simp, ?_, ?_, htl.trans ((takeY_tail h3).trans ht)⟩
      · intro p hp
        rcases List.mem_cons.1 hp with rfl | hp
        · rfl
        · exact hl p hp
      · rw [refsY_syms l, e1, takeY_no h3 (no_of 11 rfl), hs, List.flatMap_cons]
        simp [bodyY]
    · obtain ⟨_, r2, h3, h4⟩ := ResY.bind_ok h2
      injection h4 with h4 h5
      subst h4 h5
      refine ⟨[⟨left, (refsY l).1, pr⟩], rfl, by simp, ?_, ?_, (takeY_tail h3).trans ht⟩
      · intro p hp
        rw [List.mem_singleton.1 hp]
      · rw [refsY_syms l, e1, takeY_no h3 (no_of 12 rfl)]
        simp [bodyY]
theorem groupY_ok {e : List Nat} {l r : List Tok} {ps : List PrdY} (h : groupY e l = .ok ps r) :
    ∃ t, t ∈ l ∧ ps ≠ [] ∧ (∀ p ∈ ps, p.left = t.2) ∧ symsY l = t.2 :: (ps.flatMap bodyY ++ symsY r) ∧ TailY r l ∧ r.length < l.length ∧ ∃ r', l = t :: r' ∧ TailY r r' := by
  unfold groupY at h
  obtain ⟨left, r1, h1, h2⟩ := ResY.bind_ok h
  obtain ⟨_, r2, h3, h4⟩ := ResY.bind_ok h2
  obtain ⟨new, rfl, hne, hl, hs, htl⟩ := altsY_ok h4
  have hsy := takeY_sym h1 sym1
  obtain ⟨t, rfl, rfl, hc⟩ := takeY_ok h1
  have h5 := htl.trans (takeY_tail h3)
  refine ⟨t, by simp, by simpa using hne, by simpa using hl, ?_, h5.trans ⟨[t], rfl⟩, by have := h5.len; simp only [List.length_cons]; omega, r1, rfl, h5⟩
  rw [hsy, takeY_no h3 (no_of 10 rfl), hs]
theorem declsY_ok {e : List Nat} : ∀ {q : Nat} {l r : List Tok} {acc ds : List DclY}, declsY e q l acc = .ok ds r →
    ∃ new, ds = acc ++ new ∧ symsY l = new.flatMap DclY.names ++ symsY r ∧ TailY r l
  | 0, l, r, acc, ds, h => by cases h
  | q + 1, l, r, acc, ds, h => by
    unfold declsY at h
    split at h
    · injection h with h1 h2
      subst h1 h2
      exact ⟨[], by simp, rfl, .refl _⟩
    · obtain ⟨d, r1, h1, h2⟩ := ResY.bind_ok h
      obtain ⟨e1, t1, _⟩ := declY_ok h1
      obtain ⟨new, rfl, hs, ht⟩ := declsY_ok h2
      exact ⟨d :: new, by rw [List.append_assoc]; rfl, by rw [e1, hs, List.flatMap_cons, List.append_assoc], ht.trans t1⟩
/-- the rules' references, each left side once for a group -/
def listY : Option RefY → List PrdY → List RefY
  | _, [] => []
  | prev, p :: ps => (if prev = some p.left then [] else [p.left]) ++ (bodyY p ++ listY (some p.left) ps)
theorem listY_group {left : RefY} : ∀ {ps : List PrdY} {more : List PrdY}, (∀ p ∈ ps, p.left = left) → listY (some left) (ps ++ more) = ps.flatMap bodyY ++ listY (some left) more
  | [], more, _ => rfl
  | p :: ps, more, h => by
    have hp := h p (List.mem_cons_self ..)
    rw [List.cons_append, listY, hp, if_pos rfl, List.nil_append, listY_group fun q hq => h q (List.mem_cons_of_mem _ hq), List.flatMap_cons, List.append_assoc]
theorem listY_new {prev : Option RefY} {left : RefY} {ps more : List PrdY} (hne : ps ≠ []) (h : ∀ p ∈ ps, p.left = left) (hp : prev ≠ some left) :
    listY prev (ps ++ more) = left :: (ps.flatMap bodyY ++ listY (some left) more) := by
  cases ps with
  | nil => exact absurd rfl hne
  | cons p ps =>
    have h1 := h p (List.mem_cons_self ..)
    rw [List.cons_append, listY, h1, if_neg hp, listY_group fun q hq => h q (List.mem_cons_of_mem _ hq), List.flatMap_cons, List.append_assoc]
    rfl
/-- tokens stand one behind the other -/
def RiseY (l : List Tok) : Prop := l.Pairwise fun a b => a.2.2.length < b.2.2.length
theorem RiseY.tail {r l : List Tok} (h : RiseY l) (ht : TailY r l) : RiseY r := by
  obtain ⟨p, rfl⟩ := ht
  exact (List.pairwise_append.1 h).2.1
theorem groupsY_ok {e : List Nat} : ∀ {q : Nat} {l r : List Tok} {acc ps : List PrdY} {prev : Option RefY}, groupsY e q l acc = .ok ps r → RiseY l → (∀ x, prev = some x → ∀ t ∈ l, x.2.length < t.2.2.length) →
    ∃ new, ps = acc ++ new ∧ symsY l = listY prev new ++ symsY r ∧ TailY r l
  | 0, l, r, acc, ps, prev, h, _, _ => by cases h
  | q + 1, l, r, acc, ps, prev, h, hr, hp => by
    unfold groupsY at h
    split at h
    · injection h with h1 h2
      subst h1 h2
      exact ⟨[], by simp, rfl, .refl _⟩
    · obtain ⟨g, r1, h1, h2⟩ := ResY.bind_ok h
      obtain ⟨t, ht, hne, hl, hs, htl, _, r', rfl, htr⟩ := groupY_ok h1
      have hc := List.pairwise_cons.1 hr
      obtain ⟨new, rfl, hs2, ht2⟩ := groupsY_ok (prev := some t.2) h2 (hr.tail htl) fun x hx u hu => by
        injection hx with hx
        subst hx
        exact hc.1 u (htr.mem hu)
      refine ⟨g ++ new, by rw [List.append_assoc], ?_, ht2.trans htl⟩
      have hpn : prev ≠ some t.2 := fun hh => absurd (hp _ hh t ht) (Nat.lt_irrefl _)
      rw [hs, hs2, listY_new hne hl hpn]
      simp
theorem endY_ok {e : List Nat} {l r : List Tok} (h : endY e l = .ok () r) : r = [] ∧ symsY l = [] := by
  unfold endY at h
  obtain ⟨_, r1, h1, h2⟩ := ResY.bind_ok h
  have hs : symsY l = symsY r1 := by
    split at h1
    · obtain ⟨_, r2, h3, h4⟩ := ResY.bind_ok h1
      injection h4 with _ h4
      subst h4
      exact takeY_no h3 (no_of 9 rfl)
    · injection h1 with _ h1
      rw [h1]
  cases r1 with
  | nil =>
    injection h2 with _ h2
    exact ⟨h2.symm, hs⟩
  | cons t l => cases h2
/-- what is listed of a source: just the names and literals among its tokens -/
theorem srcY_ok {e : List Nat} {l r : List Tok} {ds : List DclY} {ps : List PrdY} (h : srcY e l = .ok (ds, ps) r) (hr : RiseY l) : symsY l = ds.flatMap DclY.names ++ listY none ps ∧ ps ≠ [] := by
  unfold srcY at h
  obtain ⟨ds', r1, h1, h⟩ := ResY.bind_ok h
  obtain ⟨_, r2, h2, h⟩ := ResY.bind_ok h
  obtain ⟨g, r3, h3, h⟩ := ResY.bind_ok h
  obtain ⟨ps', r4, h4, h⟩ := ResY.bind_ok h
  obtain ⟨_, r5, h5, h⟩ := ResY.bind_ok h
  injection h with h6 h7
  injection h6 with h6 h8
  subst h6 h8
  obtain ⟨new, hd, e1, t1⟩ := declsY_ok h1
  obtain ⟨t, ht, hne, hl, e3, t3, _, r', hrr, htr⟩ := groupY_ok h3
  have hr2 := (hr.tail t1).tail (takeY_tail h2)
  have hc : ∀ u ∈ r3, t.2.2.length < u.2.2.length := by
    intro u hu
    rw [hrr] at hr2
    exact (List.pairwise_cons.1 hr2).1 u (htr.mem hu)
  obtain ⟨new2, hp, e4, t4⟩ := groupsY_ok (prev := some t.2) h4 (hr2.tail t3) fun x hx u hu => by
    injection hx with hx
    subst hx
    exact hc u hu
  obtain ⟨_, e5⟩ := endY_ok h5
  refine ⟨?_, ?_⟩
  · rw [e1, takeY_no h2 (no_of 9 rfl), e3, e4, e5, hp, hd]
    rw [listY_new hne hl (by simp)]
    simp
  · rw [hp]
    intro hh
    exact hne (List.append_eq_nil_iff.1 hh).1
end Go.Proofs.Ytdeiipbnaknedaa
