/- Words for grammars in memory. -/
import Derived.Test.YtfdbpafenhdkbaaGreatDoorQLxP
import Derived.Test.YtfdbpafenhdkbaaGreatDoorQFloat
import Derived.Deep.QuietTactic
import Derived.BigQuiet
namespace Go.Proofs.YtfdbpafenhdkbaaGreatDoor
open Go.RowKit
set_option linter.unusedVariables false
set_option linter.unusedSimpArgs false

/-- a terminal, a rule, a grammar: plain -/
structure Trm where
  name : ByteArray
  level : Int
  assoc : Int
structure Rul where
  left : Int
  right : List Int
  prec : Int
structure Gr where
  terms : List Trm
  nons : List ByteArray
  rules : List Rul
  start : Int

def InI64 (x : Int) : Prop := -9223372036854775808 ≤ x ∧ x ≤ 9223372036854775807

/-- a slice that reads as terminals -/
def Trms (w : World) (A : Option Addr) (n c : Nat) (ts : List Trm) : Prop :=
  ts.length = n ∧ n ≤ c ∧ c ≤ 9223372036854775807 ∧ (0 < n → ∃ b off, A = some ⟨b, off, none⟩ ∧ b < w.heap.size ∧ ∀ j t, ts[j]? = some t →
    w.cell? ⟨b, off + j * 3, none⟩ = some (.string t.name) ∧ w.cell? ⟨b, off + j * 3 + 1, none⟩ = some (.int .i64 t.level) ∧ w.cell? ⟨b, off + j * 3 + 2, none⟩ = some (.int .i64 t.assoc))
/-- a slice that reads as rules -/
def Ruls (w : World) (A : Option Addr) (n c : Nat) (rs : List Rul) : Prop :=
  rs.length = n ∧ n ≤ c ∧ c ≤ 9223372036854775807 ∧ (0 < n → ∃ b off, A = some ⟨b, off, none⟩ ∧ b < w.heap.size ∧ ∀ j r, rs[j]? = some r →
    ∃ Ar cr, w.cell? ⟨b, off + j * 3, none⟩ = some (.int .i64 r.left) ∧ w.cell? ⟨b, off + j * 3 + 1, none⟩ = some (.slice Ar r.right.length cr) ∧ w.cell? ⟨b, off + j * 3 + 2, none⟩ = some (.int .i64 r.prec) ∧ Ints .i64 w Ar r.right.length cr r.right)

theorem Trms.len {w : World} {A : Option Addr} {n c : Nat} {ts : List Trm} (h : Trms w A n c ts) : ts.length = n := h.1
theorem Trms.cap {w : World} {A : Option Addr} {n c : Nat} {ts : List Trm} (h : Trms w A n c ts) : n ≤ c ∧ c ≤ 9223372036854775807 := ⟨h.2.1, h.2.2.1⟩
theorem Trms.below {w w' : World} {A : Option Addr} {n c : Nat} {ts : List Trm} (h : Trms w A n c ts) (hb : Below w.heap.size w w') : Trms w' A n c ts := by
  refine ⟨h.1, h.2.1, h.2.2.1, fun hn => ?_⟩
  obtain ⟨b, off, e, hlt, hc⟩ := h.2.2.2 hn
  refine ⟨b, off, e, Nat.lt_of_lt_of_le hlt hb.size, fun j t ht => ?_⟩
  rw [hb.cell (p := ⟨b, off + j * 3, none⟩) hlt, hb.cell (p := ⟨b, off + j * 3 + 1, none⟩) hlt, hb.cell (p := ⟨b, off + j * 3 + 2, none⟩) hlt]
  exact hc j t ht
theorem Trms.get {w : World} {A : Option Addr} {n c : Nat} {ts : List Trm} (h : Trms w A n c ts) {j : Nat} (hj : j < n) :
    ∃ b off t, A = some ⟨b, off, none⟩ ∧ b < w.heap.size ∧ Hid (ts[j]? = some t) ∧ w.cell? ⟨b, off + j * 3, none⟩ = some (.string t.name) ∧ w.cell? ⟨b, off + j * 3 + 1, none⟩ = some (.int .i64 t.level) ∧ w.cell? ⟨b, off + j * 3 + 2, none⟩ = some (.int .i64 t.assoc) := by
  obtain ⟨b, off, e, hlt, hc⟩ := h.2.2.2 (by omega)
  have hl := h.1
  have ht : ts[j]? = some (ts[j]'(by omega)) := List.getElem?_eq_getElem (by omega)
  obtain ⟨h1, h2, h3⟩ := hc j _ ht
  exact ⟨b, off, _, e, hlt, Lib.hid ht, h1, h2, h3⟩
theorem Ruls.len {w : World} {A : Option Addr} {n c : Nat} {rs : List Rul} (h : Ruls w A n c rs) : rs.length = n := h.1
theorem Ruls.cap {w : World} {A : Option Addr} {n c : Nat} {rs : List Rul} (h : Ruls w A n c rs) : n ≤ c ∧ c ≤ 9223372036854775807 := ⟨h.2.1, h.2.2.1⟩
theorem Ruls.below {w w' : World} {A : Option Addr} {n c : Nat} {rs : List Rul} (h : Ruls w A n c rs) (hb : Below w.heap.size w w') : Ruls w' A n c rs := by
  refine ⟨h.1, h.2.1, h.2.2.1, fun hn => ?_⟩
  obtain ⟨b, off, e, hlt, hc⟩ := h.2.2.2 hn
  refine ⟨b, off, e, Nat.lt_of_lt_of_le hlt hb.size, fun j r hr => ?_⟩
  rw [hb.cell (p := ⟨b, off + j * 3, none⟩) hlt, hb.cell (p := ⟨b, off + j * 3 + 1, none⟩) hlt, hb.cell (p := ⟨b, off + j * 3 + 2, none⟩) hlt]
  obtain ⟨Ar, cr, h1, h2, h3, h4⟩ := hc j r hr
  exact ⟨Ar, cr, h1, h2, h3, h4.below hb⟩
theorem Ruls.get {w : World} {A : Option Addr} {n c : Nat} {rs : List Rul} (h : Ruls w A n c rs) {j : Nat} (hj : j < n) :
    ∃ b off r Ar cr, A = some ⟨b, off, none⟩ ∧ b < w.heap.size ∧ Hid (rs[j]? = some r) ∧ w.cell? ⟨b, off + j * 3, none⟩ = some (.int .i64 r.left) ∧ w.cell? ⟨b, off + j * 3 + 1, none⟩ = some (.slice Ar r.right.length cr) ∧ w.cell? ⟨b, off + j * 3 + 2, none⟩ = some (.int .i64 r.prec) ∧ Ints .i64 w Ar r.right.length cr r.right := by
  obtain ⟨b, off, e, hlt, hc⟩ := h.2.2.2 (by omega)
  have hl := h.1
  have hr : rs[j]? = some (rs[j]'(by omega)) := List.getElem?_eq_getElem (by omega)
  obtain ⟨Ar, cr, h1, h2, h3, h4⟩ := hc j _ hr
  exact ⟨b, off, _, Ar, cr, e, hlt, Lib.hid hr, h1, h2, h3, h4⟩

/-- where a grammar's three slices lie -/
structure GH where
  a1 : Option Addr
  n1 : Nat
  c1 : Nat
  a2 : Option Addr
  n2 : Nat
  c2 : Nat
  a3 : Option Addr
  n3 : Nat
  c3 : Nat
/-- a grammar as a value -/
abbrev GV (h : GH) (st : Int) : Value := .agg #[.slice h.a1 h.n1 h.c1, .slice h.a2 h.n2 h.c2, .slice h.a3 h.n3 h.c3, .int .i64 st]
/-- a grammar that lies in memory -/
structure GrAt (w : World) (h : GH) (G : Gr) : Prop where
  terms : Trms w h.a1 h.n1 h.c1 G.terms
  nons : Strs w h.a2 h.n2 h.c2 G.nons
  rules : Ruls w h.a3 h.n3 h.c3 G.rules
  wf : ∀ r ∈ G.rules, ∀ s ∈ r.right, InI64 s
theorem GrAt.below {w w' : World} {h : GH} {G : Gr} (g : GrAt w h G) (hb : Below w.heap.size w w') : GrAt w' h G := ⟨g.terms.below hb, g.nons.below hb, g.rules.below hb, g.wf⟩
theorem GrAt.ext {w w' : World} {h : GH} {G : Gr} (g : GrAt w h G) {B : Nat} (hB : w.heap.size ≤ B) (hb : Below B w w') : GrAt w' h G := g.below (hb.mono hB)
theorem alloc_below (w : World) (o : Obj) : Below w.heap.size w (w.alloc o) := (Below.refl _ _).alloc (Nat.le_refl _) _
end Go.Proofs.YtfdbpafenhdkbaaGreatDoor

namespace Go.Proofs.YtfdbpafenhdkbaaGreatDoor
set_option linter.unusedVariables false
set_option linter.unusedSimpArgs false

/-! ### words on lists -/
/-- the first place at which p holds; -1: none -/
def findI {α : Type} (p : α → Bool) (l : List α) : Int := match l.findIdx? p with | some i => (i : Int) | none => -1
theorem findI_at {α : Type} {p : α → Bool} {l : List α} {k : Nat} {x : α} (hx : l[k]? = some x) (hp : p x = true) (h : ∀ j, j < k → ∀ y, l[j]? = some y → p y = false) : findI p l = (k : Int) := by
  have hk : k < l.length := (List.getElem?_eq_some_iff.1 hx).1
  have : l.findIdx? p = some k := by
    rw [List.findIdx?_eq_some_iff_getElem]
    refine ⟨hk, ?_, fun j hj => ?_⟩
    · have : l[k] = x := by rw [List.getElem?_eq_getElem hk] at hx; injection hx
      rw [this]; exact hp
    · have := h j hj l[j] (List.getElem?_eq_getElem (by omega))
      simp [this]
  unfold findI
  rw [this]
theorem findI_none {α : Type} {p : α → Bool} {l : List α} (h : ∀ (j : Nat) y, l[j]? = some y → p y = false) : findI p l = -1 := by
  have : l.findIdx? p = none := by
    rw [List.findIdx?_eq_none_iff]
    intro x hx
    obtain ⟨j, hj⟩ := List.getElem?_of_mem hx
    exact h j x hj
  unfold findI
  rw [this]
theorem findI_lo {α : Type} (p : α → Bool) (l : List α) : -1 ≤ findI p l ∧ findI p l < l.length := by
  unfold findI
  split
  · rename_i i h
    have := (List.findIdx?_eq_some_iff_getElem.1 h).1
    omega
  · omega
theorem findI_neg {α : Type} {p : α → Bool} {l : List α} (h : findI p l < 0) : ∀ (j : Nat) y, l[j]? = some y → p y = false := by
  intro j y hy
  unfold findI at h
  split at h
  · omega
  · rename_i hn
    rw [List.findIdx?_eq_none_iff] at hn
    exact hn y (List.mem_of_getElem? hy)
theorem findI_pos {α : Type} {p : α → Bool} {l : List α} {k : Nat} (h : findI p l = (k : Int)) : ∃ x, l[k]? = some x ∧ p x = true ∧ ∀ j, j < k → ∀ y, l[j]? = some y → p y = false := by
  unfold findI at h
  split at h
  · rename_i i hi
    have : i = k := by omega
    subst this
    obtain ⟨h1, h2, h3⟩ := List.findIdx?_eq_some_iff_getElem.1 hi
    refine ⟨_, List.getElem?_eq_getElem h1, h2, fun j hj y hy => ?_⟩
    have := h3 j hj
    rw [List.getElem?_eq_getElem (by omega)] at hy
    injection hy with hy
    subst hy
    simpa using this
  · omega

/-- does p hold of all, each with its place? -/
def allI {α : Type} (p : Nat → α → Bool) (l : List α) : Bool := (List.range l.length).all fun j => match l[j]? with | some y => p j y | none => true
theorem allI_true {α : Type} {p : Nat → α → Bool} {l : List α} (h : ∀ (j : Nat) y, l[j]? = some y → p j y = true) : allI p l = true := by
  unfold allI
  rw [List.all_eq_true]
  intro j _
  cases hy : l[j]? with
  | none => rfl
  | some y => exact h j y hy
theorem allI_get {α : Type} {p : Nat → α → Bool} {l : List α} (h : allI p l = true) {j : Nat} {y : α} (hy : l[j]? = some y) : p j y = true := by
  unfold allI at h
  rw [List.all_eq_true] at h
  have := h j (by rw [List.mem_range]; exact (List.getElem?_eq_some_iff.1 hy).1)
  rw [hy] at this
  exact this
theorem allI_false {α : Type} {p : Nat → α → Bool} {l : List α} {j : Nat} {y : α} (hy : l[j]? = some y) (h : p j y = false) : allI p l = false := by
  cases ha : allI p l
  · rfl
  · rw [allI_get ha hy] at h; cases h
theorem all_get {α : Type} {p : α → Bool} {l : List α} (h : l.all p = true) {j : Nat} {y : α} (hy : l[j]? = some y) : p y = true := (List.all_eq_true.1 h) y (List.mem_of_getElem? hy)
theorem all_true {α : Type} {p : α → Bool} {l : List α} (h : ∀ (j : Nat) y, l[j]? = some y → p y = true) : l.all p = true := by
  rw [List.all_eq_true]
  intro x hx
  obtain ⟨j, hj⟩ := List.getElem?_of_mem hx
  exact h j x hj
theorem all_false {α : Type} {p : α → Bool} {l : List α} {j : Nat} {y : α} (hy : l[j]? = some y) (h : p y = false) : l.all p = false := by
  cases ha : l.all p
  · rfl
  · rw [all_get ha hy] at h; cases h

/-! ### grammars -/
/-- is there a symbol? -/
def Gr.has (G : Gr) (s : Int) : Bool := if 0 ≤ s then decide (s < (G.terms.length : Int)) else decide (-1 - s < (G.nons.length : Int))
def Gr.term (G : Gr) (s : ByteArray) : Int := findI (fun t => decide (t.name = s)) G.terms
def Gr.non (G : Gr) (s : ByteArray) : Int := findI (fun t => decide (t = s)) G.nons
def namedB (s : ByteArray) : Bool := nameB (bytesOf s) || litB (bytesOf s)
def levelGo (n : Int) : List Trm → Int → Bool
  | [], way => decide (way ≠ 0)
  | t :: ts, way => if t.level = n then (if way ≠ 0 ∧ way ≠ t.assoc then false else levelGo n ts t.assoc) else levelGo n ts way
def levelB (l : List Trm) (n : Int) : Bool := levelGo n l 0
def basicT (t : Trm) : Bool := namedB t.name && decide (0 ≤ t.level ∧ t.level ≤ 24) && decide (0 ≤ t.assoc ∧ t.assoc ≤ 3) && (decide (t.level = 0) == decide (t.assoc = 0))
def levelsT (l : List Trm) (t : Trm) : Bool := (List.range t.level.toNat).all fun n => levelB l ((n : Int) + 1)
def Gr.termOK (G : Gr) (i : Nat) (t : Trm) : Bool := decide (G.term t.name = (i : Int)) && basicT t && levelsT G.terms t
def Gr.termsOK (G : Gr) : Bool := decide (G.terms.length ≤ 24) && allI G.termOK G.terms
def Gr.nonOK (G : Gr) (i : Nat) (s : ByteArray) : Bool := nameB (bytesOf s) && decide (G.non s = (i : Int)) && decide (G.term s < 0)
def Gr.nonsOK (G : Gr) : Bool := decide (1 ≤ G.nons.length ∧ G.nons.length ≤ 16) && allI G.nonOK G.nons
def Gr.symOK (G : Gr) (prec : Int) (s : Int) : Bool := G.has s && !(decide (0 ≤ s) && decide (prec = -1))
def Gr.ruleOK (G : Gr) (r : Rul) : Bool := decide (r.right.length ≤ 6) && decide (-1 ≤ r.prec ∧ r.prec < (G.terms.length : Int)) && r.right.all (G.symOK r.prec)
/-- the greatest left side, if the rules may be -/
def Gr.leftsGo (G : Gr) : List Rul → Int → Option Int
  | [], top => some top
  | r :: rs, top => if 0 ≤ r.left ∧ r.left ≤ top + 1 ∧ G.ruleOK r = true then G.leftsGo rs (max top r.left) else none
/-- may a grammar be? -/
def Gr.right (G : Gr) : Bool :=
  G.termsOK && G.nonsOK && decide (1 ≤ G.rules.length ∧ G.rules.length ≤ 40) && decide (0 ≤ G.start ∧ G.start < (G.nons.length : Int)) && decide (G.leftsGo G.rules (-1) = some ((G.nons.length : Int) - 1))
/-- more than is looked at? -/
def Gr.great (G : Gr) : Bool := decide (40 < G.terms.length) || decide (40 < G.nons.length) || decide (60 < G.rules.length) || G.rules.any fun r => decide (20 < r.right.length)

theorem Gr.leftsGo_snoc (G : Gr) : ∀ (rs : List Rul) (r : Rul) (top : Int), G.leftsGo (rs ++ [r]) top = (G.leftsGo rs top).bind fun t => if 0 ≤ r.left ∧ r.left ≤ t + 1 ∧ G.ruleOK r = true then some (max t r.left) else none
  | [], r, top => by simp [Gr.leftsGo]
  | q :: rs, r, top => by
    rw [List.cons_append, Gr.leftsGo, Gr.leftsGo]
    split
    · exact Gr.leftsGo_snoc G rs r _
    · rfl
theorem Gr.leftsGo_none (G : Gr) (rs qs : List Rul) (top : Int) (h : G.leftsGo rs top = none) : G.leftsGo (rs ++ qs) top = none := by
  induction rs generalizing top with
  | nil => simp [Gr.leftsGo] at h
  | cons r rs ih =>
    rw [List.cons_append, Gr.leftsGo]
    rw [Gr.leftsGo] at h
    split
    · rename_i hc
      rw [if_pos hc] at h
      exact ih _ h
    · rfl
theorem Gr.leftsGo_bd (G : Gr) : ∀ (rs : List Rul) (top t : Int), -1 ≤ top → G.leftsGo rs top = some t → top ≤ t ∧ t ≤ top + rs.length
  | [], top, t, h0, h => by simp [Gr.leftsGo] at h; subst h; simp
  | r :: rs, top, t, h0, h => by
    rw [Gr.leftsGo] at h
    split at h
    · rename_i hc
      have := Gr.leftsGo_bd G rs _ t (by omega) h
      simp only [List.length_cons]
      omega
    · cases h
end Go.Proofs.YtfdbpafenhdkbaaGreatDoor

namespace Go.Proofs.YtfdbpafenhdkbaaGreatDoor
open Go.RowKit
set_option linter.unusedVariables false
set_option linter.unusedSimpArgs false

/-- what a world has grown to: nothing that was there has turned -/
structure Ext (w : World) where
  to : World
  below : Below w.heap.size w to
instance instExt (w : World) : Inhabited (Ext w) := ⟨⟨w, Below.refl _ _⟩⟩
def bl (w : World) (x : Ext w) : World := x.to
theorem bl_below (w : World) (x : Ext w) : Below w.heap.size w (bl w x) := x.below
theorem bl_cell (w : World) (x : Ext w) (b o : Nat) (h : b < w.heap.size) : (bl w x).cell? ⟨b, o, none⟩ = w.cell? ⟨b, o, none⟩ := x.below.cell (p := ⟨b, o, none⟩) h
theorem bl_frozen (w : World) (x : Ext w) (b o : Nat) (h : b < w.heap.size) : (bl w x).frozen? ⟨b, o, none⟩ = w.frozen? ⟨b, o, none⟩ := x.below.frozen (p := ⟨b, o, none⟩) h
theorem bl_size (w : World) (x : Ext w) : w.heap.size ≤ (bl w x).heap.size := x.below.size
theorem wp_region_below {P : Program} {id : Nat} {Q : Exit → Act → World → Prop} {a : Act} {w : World} {l : List Oper} (hm : P.follows .mixedOrders = true) (hB : Region.lexB .any l.toArray = true)
    (h : wpQuiet P l.toArray (fun w' => ∃ x, w' = bl w x) (fun a' => ∀ w', (∃ x, w' = bl w x) → Q .normal a' w') l a) : (Code.region id l.toArray true).wp P Q a w :=
  wp_region_quiet (C := fun w' => ∃ x, w' = bl w x) hm hB ⟨⟨_, (Below.refl w.heap.size w).drew⟩, rfl⟩ (by simpa using h)
theorem bl_of {P : Program} {f : FuncId} {args : Array Value} {w : World} {x : Ext w} {v : Value}
    (h : Calls P f args (bl w x) fun e w' => e = .returned v ∧ Below (bl w x).heap.size (bl w x) w') : Calls P f args (bl w x) fun e w'' => e = .returned v ∧ ∃ y, w'' = bl w y :=
  h.mono fun _ w'' ⟨he, hb⟩ => ⟨he, ⟨w'', below_tail (bl_below w x) hb⟩, rfl⟩
theorem bl_of_same {P : Program} {f : FuncId} {args : Array Value} {w : World} {x : Ext w} {v : Value}
    (h : Calls P f args (bl w x) fun e w' => e = .returned v ∧ bl w x = w') : Calls P f args (bl w x) fun e w'' => e = .returned v ∧ ∃ y, w'' = bl w y :=
  h.mono fun _ w'' ⟨he, hb⟩ => ⟨he, x, hb.symm⟩
/-- a block that has just been laid -/
theorem alloc_cell (w : World) (t : TypeId) (cs : Array Value) (j : Nat) : (w.alloc (.cells cs t)).cell? ⟨w.heap.size, j, none⟩ = cs[j]? := by
  rw [World.cell?_alloc_mark]
theorem alloc_size (w : World) (o : Obj) : (w.alloc o).heap.size = w.heap.size + 1 := by simp
end Go.Proofs.YtfdbpafenhdkbaaGreatDoor
