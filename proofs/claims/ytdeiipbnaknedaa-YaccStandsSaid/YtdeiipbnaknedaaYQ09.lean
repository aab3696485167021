/- grammars: what may be one (no program in sight). -/
import Derived.Test.YtdeiipbnaknedaaYQ08
import Derived.Deep.QuietTactic
import Derived.BigQuiet
namespace Go.Proofs.Ytdeiipbnaknedaa
set_option linter.unusedVariables false
set_option linter.unusedSimpArgs false

/-! ### words on lists -/
/-- the first place at which p holds; -1: none -/
def findI {α : Type} (p : α → Bool) (l : List α) : Int := match l.findIdx? p with | some i => (i : Int) | none => -1
theorem findI_at {α : Type} {p : α → Bool} {l : List α} {k : Nat} {x : α} (hx : l[k]? = some x) (hp : p x = true) (h : ∀ j, j < k → ∀ y, l[j]? = some y → p y = false) : findI p l = (k : Int) := by
  have hk : k < l.length := (List.getElem?_eq_some_iff.1 hx).1
  have : l.findIdx? p = some k := by
    rw [List.findIdx?_eq_some_iff_getElem]
    refine ⟨hk, ?_, fun j hj => ?_⟩
    · have : l[k] = x := by rw [List.getElem?_eq_getElem hk] at hx; injection hx
      rw [this]; exact hp
    · have := h j hj l[j] (List.getElem?_eq_getElem (by omega))
      simp [this]
  unfold findI
  rw [this]
theorem findI_none {α : Type} {p : α → Bool} {l : List α} (h : ∀ (j : Nat) y, l[j]? = some y → p y = false) : findI p l = -1 := by
  have : l.findIdx? p = none := by
    rw [List.findIdx?_eq_none_iff]
    intro x hx
    obtain ⟨j, hj⟩ := List.getElem?_of_mem hx
    exact h j x hj
  unfold findI
  rw [this]
theorem findI_lo {α : Type} (p : α → Bool) (l : List α) : -1 ≤ findI p l ∧ findI p l < l.length := by
  unfold findI
  split
  · rename_i i h
    have := (List.findIdx?_eq_some_iff_getElem.1 h).1
    omega
  · omega
theorem findI_neg {α : Type} {p : α → Bool} {l : List α} (h : findI p l < 0) : ∀ (j : Nat) y, l[j]? = some y → p y = false := by
  intro j y hy
  unfold findI at h
  split at h
  · omega
  · rename_i hn
    rw [List.findIdx?_eq_none_iff] at hn
    exact hn y (List.mem_of_getElem? hy)
theorem findI_pos {α : Type} {p : α → Bool} {l : List α} {k : Nat} (h : findI p l = (k : Int)) : ∃ x, l[k]? = some x ∧ p x = true ∧ ∀ j, j < k → ∀ y, l[j]? = some y → p y = false := by
  unfold findI at h
  split at h
  · rename_i i hi
    have : i = k := by omega
    subst this
    obtain ⟨h1, h2, h3⟩ := List.findIdx?_eq_some_iff_getElem.1 hi
    refine ⟨_, List.getElem?_eq_getElem h1, h2, fun j hj y hy => ?_⟩
    have := h3 j hj
    rw [List.getElem?_eq_getElem (by omega)] at hy
    injection hy with hy
    subst hy
    simpa using this
  · omega

/-- does p hold of all, each with its place? -/
def allI {α : Type} (p : Nat → α → Bool) (l : List α) : Bool := (List.range l.length).all fun j => match l[j]? with | some y => p j y | none => true
theorem allI_true {α : Type} {p : Nat → α → Bool} {l : List α} (h : ∀ (j : Nat) y, l[j]? = some y → p j y = true) : allI p l = true := by
  unfold allI
  rw [List.all_eq_true]
  intro j _
  cases hy : l[j]? with
  | none => rfl
  | some y => exact h j y hy
theorem allI_get {α : Type} {p : Nat → α → Bool} {l : List α} (h : allI p l = true) {j : Nat} {y : α} (hy : l[j]? = some y) : p j y = true := by
  unfold allI at h
  rw [List.all_eq_true] at h
  have := h j (by rw [List.mem_range]; exact (List.getElem?_eq_some_iff.1 hy).1)
  rw [hy] at this
  exact this
theorem allI_false {α : Type} {p : Nat → α → Bool} {l : List α} {j : Nat} {y : α} (hy : l[j]? = some y) (h : p j y = false) : allI p l = false := by
  cases ha : allI p l
  · rfl
  · rw [allI_get ha hy] at h; cases h
theorem all_get {α : Type} {p : α → Bool} {l : List α} (h : l.all p = true) {j : Nat} {y : α} (hy : l[j]? = some y) : p y = true := (List.all_eq_true.1 h) y (List.mem_of_getElem? hy)
theorem all_true {α : Type} {p : α → Bool} {l : List α} (h : ∀ (j : Nat) y, l[j]? = some y → p y = true) : l.all p = true := by
  rw [List.all_eq_true]
  intro x hx
  obtain ⟨j, hj⟩ := List.getElem?_of_mem hx
  exact h j x hj
theorem all_false {α : Type} {p : α → Bool} {l : List α} {j : Nat} {y : α} (hy : l[j]? = some y) (h : p y = false) : l.all p = false := by
  cases ha : l.all p
  · rfl
  · rw [all_get ha hy] at h; cases h

/-! ### grammars -/
/-- is there a symbol? -/
def Gr.has (G : Gr) (s : Int) : Bool := if 0 ≤ s then decide (s < (G.terms.length : Int)) else decide (-1 - s < (G.nons.length : Int))
def Gr.term (G : Gr) (s : ByteArray) : Int := findI (fun t => decide (t.name = s)) G.terms
def Gr.non (G : Gr) (s : ByteArray) : Int := findI (fun t => decide (t = s)) G.nons
def namedB (s : ByteArray) : Bool := nameB (bytesOf s) || litB (bytesOf s)
def levelGo (n : Int) : List Trm → Int → Bool
  | [], way => decide (way ≠ 0)
  | t :: ts, way => if t.level = n then (if way ≠ 0 ∧ way ≠ t.assoc then false else levelGo n ts t.assoc) else levelGo n ts way
def levelB (l : List Trm) (n : Int) : Bool := levelGo n l 0
def basicT (t : Trm) : Bool := namedB t.name && decide (0 ≤ t.level ∧ t.level ≤ 24) && decide (0 ≤ t.assoc ∧ t.assoc ≤ 3) && (decide (t.level = 0) == decide (t.assoc = 0))
def levelsT (l : List Trm) (t : Trm) : Bool := (List.range t.level.toNat).all fun n => levelB l ((n : Int) + 1)
def Gr.termOK (G : Gr) (i : Nat) (t : Trm) : Bool := decide (G.term t.name = (i : Int)) && basicT t && levelsT G.terms t
def Gr.termsOK (G : Gr) : Bool := decide (G.terms.length ≤ 24) && allI G.termOK G.terms
def Gr.nonOK (G : Gr) (i : Nat) (s : ByteArray) : Bool := nameB (bytesOf s) && decide (G.non s = (i : Int)) && decide (G.term s < 0)
def Gr.nonsOK (G : Gr) : Bool := decide (1 ≤ G.nons.length ∧ G.nons.length ≤ 16) && allI G.nonOK G.nons
def Gr.symOK (G : Gr) (prec : Int) (s : Int) : Bool := G.has s && !(decide (0 ≤ s) && decide (prec = -1))
def Gr.ruleOK (G : Gr) (r : Rul) : Bool := decide (r.right.length ≤ 6) && decide (-1 ≤ r.prec ∧ r.prec < (G.terms.length : Int)) && r.right.all (G.symOK r.prec)
/-- the greatest left side, if the rules may be -/
def Gr.leftsGo (G : Gr) : List Rul → Int → Option Int
  | [], top => some top
  | r :: rs, top => if 0 ≤ r.left ∧ r.left ≤ top + 1 ∧ G.ruleOK r = true then G.leftsGo rs (max top r.left) else none
/-- may a grammar be? -/
def Gr.right (G : Gr) : Bool :=
  G.termsOK && G.nonsOK && decide (1 ≤ G.rules.length ∧ G.rules.length ≤ 40) && decide (0 ≤ G.start ∧ G.start < (G.nons.length : Int)) && decide (G.leftsGo G.rules (-1) = some ((G.nons.length : Int) - 1))
/-- more than is looked at? -/
def Gr.great (G : Gr) : Bool := decide (40 < G.terms.length) || decide (40 < G.nons.length) || decide (60 < G.rules.length) || G.rules.any fun r => decide (20 < r.right.length)

theorem Gr.leftsGo_snoc (G : Gr) : ∀ (rs : List Rul) (r : Rul) (top : Int), G.leftsGo (rs ++ [r]) top = (G.leftsGo rs top).bind fun t => if 0 ≤ r.left ∧ r.left ≤ t + 1 ∧ G.ruleOK r = true then some (max t r.left) else none
  | [], r, top => by simp [Gr.leftsGo]
  | q :: rs, r, top => by
    rw [List.cons_append, Gr.leftsGo, Gr.leftsGo]
    split
    · exact Gr.leftsGo_snoc G rs r _
    · rfl
theorem Gr.leftsGo_none (G : Gr) (rs qs : List Rul) (top : Int) (h : G.leftsGo rs top = none) : G.leftsGo (rs ++ qs) top = none := by
  induction rs generalizing top with
  | nil => simp [Gr.leftsGo] at h
  | cons r rs ih =>
    rw [List.cons_append, Gr.leftsGo]
    rw [Gr.leftsGo] at h
    split
    · rename_i hc
      rw [if_pos hc] at h
      exact ih _ h
    · rfl
theorem Gr.leftsGo_bd (G : Gr) : ∀ (rs : List Rul) (top t : Int), -1 ≤ top → G.leftsGo rs top = some t → top ≤ t ∧ t ≤ top + rs.length
  | [], top, t, h0, h => by simp [Gr.leftsGo] at h; subst h; simp
  | r :: rs, top, t, h0, h => by
    rw [Gr.leftsGo] at h
    split at h
    · rename_i hc
      have := Gr.leftsGo_bd G rs _ t (by omega) h
      simp only [List.length_cons]
      omega
    · cases h
end Go.Proofs.Ytdeiipbnaknedaa
/- A region that draws its order, whose operations read what was there, and whose callees lay new blocks at most: one walk of the lexical order serves every order. -/
namespace Go.Proofs.Ytdeiipbnaknedaa
open Go.RowKit
set_option linter.unusedVariables false
set_option linter.unusedSimpArgs false

/-- what a world has grown to: nothing that was there has turned -/
structure Ext (w : World) where
  to : World
  below : Below w.heap.size w to
instance instExt (w : World) : Inhabited (Ext w) := ⟨⟨w, Below.refl _ _⟩⟩
def bl (w : World) (x : Ext w) : World := x.to
theorem bl_below (w : World) (x : Ext w) : Below w.heap.size w (bl w x) := x.below
theorem bl_cell (w : World) (x : Ext w) (b o : Nat) (h : b < w.heap.size) : (bl w x).cell? ⟨b, o, none⟩ = w.cell? ⟨b, o, none⟩ := x.below.cell (p := ⟨b, o, none⟩) h
theorem bl_frozen (w : World) (x : Ext w) (b o : Nat) (h : b < w.heap.size) : (bl w x).frozen? ⟨b, o, none⟩ = w.frozen? ⟨b, o, none⟩ := x.below.frozen (p := ⟨b, o, none⟩) h
theorem bl_size (w : World) (x : Ext w) : w.heap.size ≤ (bl w x).heap.size := x.below.size
theorem wp_region_below {P : Program} {id : Nat} {Q : Exit → Act → World → Prop} {a : Act} {w : World} {l : List Oper} (hm : P.follows .mixedOrders = true) (hB : Region.lexB .any l.toArray = true)
    (h : wpQuiet P l.toArray (fun w' => ∃ x, w' = bl w x) (fun a' => ∀ w', (∃ x, w' = bl w x) → Q .normal a' w') l a) : (Code.region id l.toArray true).wp P Q a w :=
  wp_region_quiet (C := fun w' => ∃ x, w' = bl w x) hm hB ⟨⟨_, (Below.refl w.heap.size w).drew⟩, rfl⟩ (by simpa using h)
theorem bl_of {P : Program} {f : FuncId} {args : Array Value} {w : World} {x : Ext w} {v : Value}
    (h : Calls P f args (bl w x) fun e w' => e = .returned v ∧ Below (bl w x).heap.size (bl w x) w') : Calls P f args (bl w x) fun e w'' => e = .returned v ∧ ∃ y, w'' = bl w y :=
  h.mono fun _ w'' ⟨he, hb⟩ => ⟨he, ⟨w'', below_tail (bl_below w x) hb⟩, rfl⟩
theorem bl_of_same {P : Program} {f : FuncId} {args : Array Value} {w : World} {x : Ext w} {v : Value}
    (h : Calls P f args (bl w x) fun e w' => e = .returned v ∧ bl w x = w') : Calls P f args (bl w x) fun e w'' => e = .returned v ∧ ∃ y, w'' = bl w y :=
  h.mono fun _ w'' ⟨he, hb⟩ => ⟨he, x, hb.symm⟩
/-- a block that has just been laid -/
theorem alloc_cell (w : World) (t : TypeId) (cs : Array Value) (j : Nat) : (w.alloc (.cells cs t)).cell? ⟨w.heap.size, j, none⟩ = cs[j]? := by
  rw [World.cell?_alloc_mark]
theorem alloc_size (w : World) (o : Obj) : (w.alloc o).heap.size = w.heap.size + 1 := by simp
end Go.Proofs.Ytdeiipbnaknedaa
/- grammars: the reference's small functions, walked. -/
namespace Go.Proofs.Ytdeiipbnaknedaa
open Go.RowKit
set_option linter.unusedVariables false
set_option linter.unusedSimpArgs false

theorem toList_beq (a b : ByteArray) : (a.toList == b.toList) = decide (a = b) := by
  rw [Bool.eq_iff_iff, beq_iff_eq, decide_eq_true_iff]
  constructor
  · intro h
    rw [ByteArray.toList_eq, ByteArray.toList_eq] at h
    cases a; cases b
    simp only [ByteArray.mk.injEq]
    exact Array.toList_inj.1 h
  · intro h; rw [h]
theorem next_none {α : Type} {p : α → Bool} {l : List α} {k : Nat} {x : α} (h : ∀ j, j < k → ∀ y, l[j]? = some y → p y = false) (hx : l[k]? = some x) (hp : p x = false) : ∀ j, j < k + 1 → ∀ y, l[j]? = some y → p y = false := by
  intro j hj y hy
  rcases Nat.lt_or_ge j k with hlt | hge
  · exact h j hlt y hy
  · obtain rfl : j = k := by omega
    rw [hx] at hy
    injection hy with hy
    rw [← hy]; exact hp

end Go.Proofs.Ytdeiipbnaknedaa
/- blocks of the call's own, whole. -/
namespace Go.Proofs.Ytdeiipbnaknedaa
open Go.RowKit
set_option linter.unusedVariables false
set_option linter.unusedSimpArgs false

/-- a block of the call's own, whole -/
def Blk (w : World) (g : Nat) (t : TypeId) (cs : Array Value) : Prop := w.heap[g]? = some (.cells cs t (0, 0))
theorem Blk.lt {w : World} {g : Nat} {t : TypeId} {cs : Array Value} (h : Blk w g t cs) : g < w.heap.size := by
  rcases Nat.lt_or_ge g w.heap.size with hlt | hge
  · exact hlt
  · unfold Blk at h; rw [Array.getElem?_eq_none hge] at h; cases h
theorem Blk.cell {w : World} {g : Nat} {t : TypeId} {cs : Array Value} (h : Blk w g t cs) (i : Nat) : w.cell? ⟨g, i, none⟩ = cs[i]? := by
  unfold Blk at h
  simp [World.cell?, h]
theorem Blk.frozen {w : World} {g : Nat} {t : TypeId} {cs : Array Value} (h : Blk w g t cs) (i : Nat) : w.frozen? ⟨g, i, none⟩ = false := by
  unfold Blk at h
  simp [World.frozen?, h]
theorem Blk.set {w : World} {g : Nat} {t : TypeId} {cs : Array Value} (h : Blk w g t cs) (i : Nat) (v : Value) : Blk (w.setCell ⟨g, i, none⟩ v) g t (cs.setIfInBounds i v) := by
  unfold Blk at h ⊢
  simp [World.setCell, Array.getElem?_modify, h]
theorem Blk.below {w w' : World} {g B : Nat} {t : TypeId} {cs : Array Value} (h : Blk w g t cs) (hb : Below B w w') (hg : g < B) : Blk w' g t cs := (hb.block g hg).trans h
theorem Blk.ext {w w' : World} {g : Nat} {t : TypeId} {cs : Array Value} (h : Blk w g t cs) (hb : Below w.heap.size w w') : Blk w' g t cs := h.below hb h.lt
theorem Blk.new (w : World) (t : TypeId) (cs : Array Value) : Blk (w.alloc (.cells cs t)) w.heap.size t cs := heap_alloc_new w _
theorem Blk.grown {w w' : World} {g : Nat} {t : TypeId} {cs : Array Value} {row : Option Nat} (h : Blk w g t cs) (hg : w.grownBy w' row) (hr : some g ≠ row) : Blk w' g t cs := (hg.block g h.lt hr).trans h
theorem Blk.other {w : World} {g : Nat} {t : TypeId} {cs : Array Value} (h : Blk w g t cs) (g' i : Nat) (v : Value) (hne : g ≠ g') : Blk (w.setCell ⟨g', i, none⟩ v) g t cs := (Below.heap_setCell w ⟨g', i, none⟩ v g hne).trans h
theorem grown_refl (w : World) (r : Option Nat) : w.grownBy w r := ⟨rfl, rfl, rfl, Nat.le_refl _, fun _ _ _ => rfl⟩
theorem grown_trans {a b c : World} {r : Option Nat} (h : a.grownBy b r) (k : b.grownBy c r) : a.grownBy c r :=
  ⟨k.os.trans h.os, k.tape.trans h.tape, k.output.trans h.output, Nat.le_trans h.size k.size, fun i hi hne => (k.block i (Nat.lt_of_lt_of_le hi h.size) hne).trans (h.block i hi hne)⟩
theorem grown_set (w : World) (g i : Nat) (v : Value) : w.grownBy (w.setCell ⟨g, i, none⟩ v) (some g) :=
  ⟨rfl, rfl, rfl, by simp, fun k _ hne => Below.heap_setCell w ⟨g, i, none⟩ v k fun h => hne (by rw [h])⟩
theorem grown_below {w w' : World} (r : Option Nat) (h : Below w.heap.size w w') : w.grownBy w' r := ⟨h.os, h.tape, h.output, h.size, fun k hk _ => h.block k hk⟩
theorem grown_is_below {w w' : World} {B : Nat} {g : Nat} (h : w.grownBy w' (some g)) (hB : B ≤ w.heap.size) (hg : B ≤ g) : Below B w w' :=
  ⟨h.os, h.tape, h.output, h.size, fun k hk => h.block k (by omega) (by intro h'; injection h' with h'; omega)⟩
theorem grown_frozen {w w' : World} {g : Nat} (h : w.grownBy w' (some g)) {b o : Nat} (hb : b < w.heap.size) (hne : b ≠ g) : w'.cell? ⟨b, o, none⟩ = w.cell? ⟨b, o, none⟩ :=
  World.cell?_of_block (a := ⟨b, o, none⟩) (h.block b hb (by intro h'; injection h' with h'; exact hne h'))

theorem Blk.drew {w : World} {g : Nat} {t : TypeId} {cs : Array Value} (h : Blk w g t cs) : Blk w.drew g t cs := h
theorem below_alloc {w w' : World} (h : Below w.heap.size w w') (o : Obj) : Below w.heap.size w (w'.alloc o) := h.alloc h.size o
theorem below_set {w w' : World} (h : Below w.heap.size w w') (g i : Nat) (v : Value) (hg : w.heap.size ≤ g) : Below w.heap.size w (w'.setCell ⟨g, i, none⟩ v) := h.trans (grown_is_below (grown_set _ _ _ _) h.size hg)
end Go.Proofs.Ytdeiipbnaknedaa
/- lex: some bytes are passed. -/
namespace Go.Proofs.Ytdeiipbnaknedaa
open Go.RowKit
set_option linter.unusedVariables false
set_option linter.unusedSimpArgs false

/-- all but one block is as it was -/
structure Only (g : Nat) (w w' : World) : Prop where
  os : w'.os = w.os
  tape : w'.tape = w.tape
  output : w'.output = w.output
  size : w'.heap.size = w.heap.size
  block : ∀ k, k ≠ g → w'.heap[k]? = w.heap[k]?
theorem Only.refl (g : Nat) (w : World) : Only g w w := ⟨rfl, rfl, rfl, rfl, fun _ _ => rfl⟩
theorem Only.trans {g : Nat} {a b c : World} (h : Only g a b) (k : Only g b c) : Only g a c :=
  ⟨k.os.trans h.os, k.tape.trans h.tape, k.output.trans h.output, k.size.trans h.size, fun i hi => (k.block i hi).trans (h.block i hi)⟩
theorem Only.set (w : World) (g i : Nat) (v : Value) : Only g w (w.setCell ⟨g, i, none⟩ v) :=
  ⟨rfl, rfl, rfl, by simp, fun k hk => Below.heap_setCell w ⟨g, i, none⟩ v k hk⟩
theorem Only.below {g B : Nat} {w w' : World} (h : Only g w w') (hB : B ≤ g) : Below B w w' :=
  ⟨h.os, h.tape, h.output, Nat.le_of_eq h.size.symm, fun k hk => h.block k (by omega)⟩
theorem Only.cell {g : Nat} {w w' : World} (h : Only g w w') {p : Addr} (hp : p.block ≠ g) : w'.cell? p = w.cell? p := World.cell?_of_block (w := w) (h.block p.block hp)
theorem Nums.only {k : IntKind} {w w' : World} {g b off n c : Nat} {xs : List Nat} (h : Nums k w (some ⟨b, off, none⟩) n c xs) (ho : Only g w w') (hb : b ≠ g) : Nums k w' (some ⟨b, off, none⟩) n c xs := by
  refine ⟨h.1, h.2.1, h.2.2.1, fun hn => ?_⟩
  obtain ⟨b', off', e, hlt, hc⟩ := h.2.2.2 hn
  have e' := e
  injection e' with e'
  injection e' with e1 e2
  subst e1; subst e2
  exact ⟨_, _, rfl, by rw [ho.size]; exact hlt, fun j hj => by rw [ho.cell (by exact hb)]; exact hc j hj⟩

/-- the place behind some bytes, as a value -/
def PA (pre : List Nat) : Value := PV (atN pre).1 (atN pre).2

set_option maxHeartbeats 1000000 in
theorem lx_pass (g b off n c m : Nat) (bs pre : List Nat) (w : World) (hg : Blk w g 63 #[.slice (some ⟨b, off, none⟩) n c, PA pre]) (h : Nums .u8 w (some ⟨b, off, none⟩) n c bs) (hbg : b ≠ g) (hm : m ≤ n) (hn : pre.length + n ≤ 100000) (h0 : 0 < n) :
    Calls Try.prog 24 #[.pointer (some ⟨g, 0, none⟩), .int .i64 (m : Int)] w fun e w' => e = .returned undef ∧
      Blk w' g 63 #[.slice (if m = c then (some ⟨b, off, none⟩) else some ⟨b, off + m, none⟩) (n - m) (c - m), PA (pre ++ bs.take m)] ∧ Only g w w' := by
  obtain rfl := h.len
  have hcap := h.cap
  obtain ⟨b', off', he, hbl, hcell⟩ := h.at_ h0
  injection he with he
  injection he with e1 e2
  subst e1; subst e2
  have Hc := Lib.hid hcell
  clear hcell
  have Hg := Lib.hid hg
  have k0 := hg.cell 0
  have k1 := hg.cell 1
  simp only [List.getElem?_toArray, List.getElem?_cons_zero, List.getElem?_cons_succ] at k0 k1
  obtain ⟨A', HA⟩ : ∃ A' : Option Addr, Hid ((if m = c then (some ⟨b, off, none⟩ : Option Addr) else some ⟨b, off + m, none⟩) = A') := ⟨_, Lib.hid rfl⟩
  rw [HA.out]
  have gm : (m : Int) ≤ (bs.length : Int) := by omega
  have gm2 : (m : Int) ≤ (c : Int) := by omega
  clear hg
  go_enter Try.func24, Try.ntmps24
  go_wp2
  go_loopw [13] (fun i wr => ∃ k : Nat, k ≤ m ∧ i = .int .i64 (k : Int) ∧ Only g w wr ∧ Hid (Blk wr g 63 #[.slice (some ⟨b, off, none⟩) bs.length c, PA (pre ++ bs.take k)])) (fun i _ => m - (intOf i).toNat)
  case atStart => exact ⟨0, Nat.zero_le _, rfl, Only.refl _ _, Lib.hid (by rw [List.take_zero, List.append_nil]; exact Hg.out)⟩
  case round =>
    obtain ⟨k, hk, rfl, hO, HB⟩ := hrel
    clear k0 k1
    have k0 := HB.out.cell 0
    have k1 := HB.out.cell 1
    simp only [List.getElem?_toArray, List.getElem?_cons_zero, List.getElem?_cons_succ] at k0 k1
    have fz0 := HB.out.frozen 0
    have fz1 := HB.out.frozen 1
    by_cases hlt : k < m
    · have ck := Hc.out k (by omega)
      rw [← hO.cell (p := ⟨b, off + k, none⟩) hbg] at ck
      obtain ⟨d1, d2, d3, d4⟩ := atN_bd (pre ++ bs.take k)
      have hlen : (pre ++ bs.take k).length ≤ pre.length + bs.length := by rw [List.length_append, List.length_take]; omega
      have hok := okP_of d1 (by omega) d3 (by omega)
      have hst := pl_step (atN (pre ++ bs.take k)).1 (atN (pre ++ bs.take k)).2 (bs.getD k 0) wr (by omega) (by omega) hok
      have hnx : pre ++ bs.take (k + 1) = (pre ++ bs.take k) ++ [bs.getD k 0] := by
        rw [List.take_add_one, List.append_assoc, List.getD_eq_getElem?_getD, List.getElem?_eq_getElem (by omega)]
        rfl
      have hnx2 : atN (pre ++ bs.take (k + 1)) = stepP ((atN (pre ++ bs.take k)).1, (atN (pre ++ bs.take k)).2) (bs.getD k 0) := by
        rw [hnx]; exact atN_snoc _ _
      obtain ⟨d5, d6, d7, d8⟩ := atN_bd (pre ++ bs.take (k + 1))
      have hlen2 : (pre ++ bs.take (k + 1)).length ≤ pre.length + bs.length := by rw [List.length_append, List.length_take]; omega
      have hok2 := okP_of d5 (by omega) d7 (by omega)
      rw [← hnx2, keptP_of hok2] at hst
      have hset := fun v => HB.out.set 1 v
      unfold PA at k1
      unfold PV at k1 hst
      have hPA : PA (pre ++ bs.take (k + 1)) = .complex .f64 (fN (atN (pre ++ bs.take (k + 1))).1) (fN (atN (pre ++ bs.take (k + 1))).2) := rfl
      generalize fN (atN (pre ++ bs.take k)).1 = u at *
      generalize fN (atN (pre ++ bs.take k)).2 = v at *
      generalize fN (atN (pre ++ bs.take (k + 1))).1 = u2 at *
      generalize fN (atN (pre ++ bs.take (k + 1))).2 = v2 at *
      generalize bs.getD k 0 = x at *
      have Hst := Lib.hid hst
      have Hset := Lib.hid hset
      have HPA := Lib.hid hPA
      clear hst hok hok2 hnx hnx2 d1 d2 d3 d4 d5 d6 d7 d8 hlen hlen2 hset hPA
      have ksc : ∀ (w : World) (a : Addr) (k : FloatKind) (x y : Nat) (m : Mode), (store a (.complex k x y) m).run Try.prog w = stored Try.prog w a (.complex k x y) m := fun w a k x y m => run_store Try.prog w a _ m rfl
      go_wp2_with (go_at_call 46; (with_reducible refine Hst.out.mono ?_); rintro e w' ⟨rfl, rfl⟩)
      go_roundw
      case rel =>
        refine ⟨k + 1, by omega, by go_num, hO.trans (Only.set _ _ _ _), Lib.hid ?_⟩
        rw [HPA.out]
        exact Hset.out _
      case measure => simp [intOf]; omega
    · obtain rfl : k = m := by omega
      clear hlt
      have hset := fun v => HB.out.set 0 v
      have Hset := Lib.hid hset
      clear hset fz1 k1
      by_cases hc0 : k = c
      · have HA2 : Hid (some ⟨b, off, none⟩ = A') := Lib.hid (by rw [← HA.out, if_pos hc0])
        have e1 : bs.length - k = 0 := by omega
        have e2 : c - k = 0 := by omega
        have He1 := Lib.hid e1
        have He2 := Lib.hid e2
        clear e1 e2
        go_wp2
        go_end0
        refine ⟨rfl, ?_, hO.trans (Only.set _ _ _ _)⟩
        rw [← HA2.out, He1.out, He2.out]
        exact Hset.out _
      · have HA2 : Hid (some ⟨b, off + k, none⟩ = A') := Lib.hid (by rw [← HA.out, if_neg hc0])
        go_wp2
        go_end0
        refine ⟨rfl, ?_, hO.trans (Only.set _ _ _ _)⟩
        rw [← HA2.out]
        exact Hset.out _
end Go.Proofs.Ytdeiipbnaknedaa
