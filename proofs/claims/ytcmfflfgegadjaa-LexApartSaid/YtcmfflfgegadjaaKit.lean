/- Words for slices that read as lists: no program in sight. -/
import Derived.WalkKit
import Derived.WalkSpells
import Derived.WalkLawsBesides
import Derived.Lib.Hide
import Derived.IntWalk
import Derived.Below
import Derived.Laws.OwnMore
import Derived.Deep.Draws
namespace Go.Proofs.Ytcmfflfgegadjaa
open Go.RowKit
set_option linter.unusedVariables false
set_option linter.unusedSimpArgs false

/-- the cells of a row, from an address on -/
def Arr (w : World) (A : Option Addr) (xs : List Value) : Prop :=
  0 < xs.length → ∃ b off, A = some ⟨b, off, none⟩ ∧ b < w.heap.size ∧ ∀ j, j < xs.length → w.cell? ⟨b, off + j, none⟩ = xs[j]?

/-- a slice value that reads as a list of one-cell values -/
def Sl (w : World) (A : Option Addr) (n c : Nat) (xs : List Value) : Prop :=
  xs.length = n ∧ n ≤ c ∧ c ≤ 9223372036854775807 ∧ Arr w A xs

theorem Arr.nil (w : World) (A : Option Addr) : Arr w A [] := fun h => absurd h (by simp)

theorem Arr.keep {w w' : World} {A : Option Addr} {xs : List Value} (h : Arr w A xs) (hs : w.heap.size ≤ w'.heap.size)
    (hk : ∀ b off, b < w.heap.size → w'.cell? ⟨b, off, none⟩ = w.cell? ⟨b, off, none⟩) : Arr w' A xs := fun hn => by
  obtain ⟨b, off, e, hb, hc⟩ := h hn
  exact ⟨b, off, e, by omega, fun j hj => (hk b _ hb).trans (hc j hj)⟩

theorem Arr.below {w w' : World} {A : Option Addr} {xs : List Value} (h : Arr w A xs) (hb : Below w.heap.size w w') : Arr w' A xs :=
  h.keep hb.size fun _ _ hp => hb.cell hp

theorem Sl.below {w w' : World} {A : Option Addr} {n c : Nat} {xs : List Value} (h : Sl w A n c xs) (hb : Below w.heap.size w w') : Sl w' A n c xs :=
  ⟨h.1, h.2.1, h.2.2.1, h.2.2.2.below hb⟩

theorem Sl.nil (w : World) (A : Option Addr) (c : Nat) (h : c ≤ 9223372036854775807) : Sl w A 0 c [] := ⟨rfl, Nat.zero_le _, h, Arr.nil _ _⟩

/-- numbers as cells -/
def nums (k : IntKind) (xs : List Nat) : List Value := xs.map fun (x : Nat) => Value.int k ((x : Int))
theorem nums_length (k : IntKind) (xs : List Nat) : (nums k xs).length = xs.length := by simp [nums]

/-- a slice that reads as numbers of kind k -/
def Nums (k : IntKind) (w : World) (A : Option Addr) (n c : Nat) (xs : List Nat) : Prop := Sl w A n c (nums k xs)

theorem Nums.len {k : IntKind} {w : World} {A : Option Addr} {n c : Nat} {xs : List Nat} (h : Nums k w A n c xs) : xs.length = n := by
  have := h.1; rwa [nums_length] at this
theorem Nums.cap {k : IntKind} {w : World} {A : Option Addr} {n c : Nat} {xs : List Nat} (h : Nums k w A n c xs) : n ≤ c ∧ c ≤ 9223372036854775807 := ⟨h.2.1, h.2.2.1⟩
theorem Nums.at_ {k : IntKind} {w : World} {A : Option Addr} {n c : Nat} {xs : List Nat} (h : Nums k w A n c xs) (hn : 0 < n) :
    ∃ b off, A = some ⟨b, off, none⟩ ∧ b < w.heap.size ∧ ∀ j, j < n → w.cell? ⟨b, off + j, none⟩ = some (.int k ((xs.getD j 0 : Nat) : Int)) := by
  have hl := h.len
  obtain ⟨b, off, e, hb, hc⟩ := h.2.2.2 (by rw [nums_length, hl]; exact hn)
  refine ⟨b, off, e, hb, fun j hj => ?_⟩
  rw [hc j (by rw [nums_length, hl]; exact hj)]
  simp only [nums, List.getElem?_map]
  rw [List.getElem?_eq_getElem (by omega)]
  simp [List.getElem?_eq_getElem (show j < xs.length by omega)]
theorem Nums.below {k : IntKind} {w w' : World} {A : Option Addr} {n c : Nat} {xs : List Nat} (h : Nums k w A n c xs) (hb : Below w.heap.size w w') : Nums k w' A n c xs := Sl.below h hb
theorem Nums.nil (k : IntKind) (w : World) (A : Option Addr) (c : Nat) (h : c ≤ 9223372036854775807) : Nums k w A 0 c [] := Sl.nil w A c h


/-- one number read: where it lies, and its value under a name of its own -/
theorem Nums.get {k : IntKind} {w : World} {A : Option Addr} {n c : Nat} {xs : List Nat} (h : Nums k w A n c xs) {j : Nat} (hj : j < n) :
    ∃ b off x, A = some ⟨b, off, none⟩ ∧ b < w.heap.size ∧ Hid (xs[j]? = some x) ∧ w.cell? ⟨b, off + j, none⟩ = some (.int k ((x : Int))) := by
  obtain ⟨b, off, e, hb, hc⟩ := h.at_ (by omega)
  have hl := h.len
  exact ⟨b, off, xs[j]'(by omega), e, hb, Lib.hid (List.getElem?_eq_getElem (by omega)), by rw [hc j hj]; simp [List.getElem?_eq_getElem (show j < xs.length by omega)]⟩

theorem Nums.take {k : IntKind} {w : World} {A : Option Addr} {n c : Nat} {xs : List Nat} (h : Nums k w A n c xs) (m c' : Nat) (hm : m ≤ n) (hc : m ≤ c') (hc' : c' ≤ 9223372036854775807) :
    Nums k w A m c' (xs.take m) := by
  have hl := h.len
  refine ⟨by simp [nums]; omega, hc, hc', fun hn => ?_⟩
  simp [nums] at hn
  obtain ⟨b, off, e, hb, hcell⟩ := h.2.2.2 (by rw [nums_length]; omega)
  refine ⟨b, off, e, hb, fun j hj => ?_⟩
  simp [nums] at hj
  rw [hcell j (by rw [nums_length]; omega)]
  simp [nums, List.getElem?_take]
  intro; omega

theorem cast_beq0 (a : Nat) : ((a : Int) == 0) = (a == 0) := by rw [Bool.eq_iff_iff]; simp
theorem cast_bne0 (a : Nat) : ((a : Int) != 0) = (a != 0) := by rw [Bool.eq_iff_iff]; simp [bne_iff_ne]

/-- a block of the call's own, known whole: numbers of kind k -/
def Own (w : World) (g : Nat) (t : TypeId) (k : IntKind) (zs : List Nat) : Prop := w.heap[g]? = some (.cells (nums k zs).toArray t (0, 0))

theorem Own.lt {w : World} {g : Nat} {t : TypeId} {k : IntKind} {zs : List Nat} (h : Own w g t k zs) : g < w.heap.size := by
  rcases Nat.lt_or_ge g w.heap.size with hlt | hge
  · exact hlt
  · unfold Own at h; rw [Array.getElem?_eq_none hge] at h; cases h
theorem Own.cell {w : World} {g : Nat} {t : TypeId} {k : IntKind} {zs : List Nat} (h : Own w g t k zs) {i : Nat} (hi : i < zs.length) :
    ∃ x, Hid (zs[i]? = some x) ∧ w.cell? ⟨g, i, none⟩ = some (.int k (x : Int)) := by
  refine ⟨zs[i], Lib.hid (List.getElem?_eq_getElem hi), ?_⟩
  unfold Own at h
  simp [World.cell?, h, nums, List.getElem?_eq_getElem hi]
theorem Own.frozen {w : World} {g : Nat} {t : TypeId} {k : IntKind} {zs : List Nat} (h : Own w g t k zs) (i : Nat) : w.frozen? ⟨g, i, none⟩ = false := by
  unfold Own at h
  simp [World.frozen?, h]
theorem Own.drew {w : World} {g : Nat} {t : TypeId} {k : IntKind} {zs : List Nat} (h : Own w g t k zs) : Own w.drew g t k zs := h
theorem Own.drewN {w : World} {g : Nat} {t : TypeId} {k : IntKind} {zs : List Nat} (h : Own w g t k zs) (n : Nat) : Own (w.drewN n) g t k zs := h
theorem Own.alloc {w : World} {g : Nat} {t : TypeId} {k : IntKind} {zs : List Nat} (h : Own w g t k zs) (o : Obj) : Own (w.alloc o) g t k zs :=
  (Below.heap_alloc w o g h.lt).trans h
theorem Own.set_ {w : World} {g : Nat} {t : TypeId} {k : IntKind} {zs : List Nat} (h : Own w g t k zs) (i x : Nat) :
    Own (w.setCell ⟨g, i, none⟩ (.int k (x : Int))) g t k (zs.set i x) := by
  unfold Own at h ⊢
  simp [World.setCell, Array.getElem?_modify, h, nums, List.map_set]
theorem Own.far {w : World} {g : Nat} {t : TypeId} {k : IntKind} {zs : List Nat} (h : Own w g t k zs) {p : Addr} (hp : g ≠ p.block) (u : Value) : Own (w.setCell p u) g t k zs :=
  (Below.heap_setCell w p u g hp).trans h
theorem Own.below {w w' : World} {B g : Nat} {t : TypeId} {k : IntKind} {zs : List Nat} (h : Own w g t k zs) (hb : Below B w w') (hg : g < B) : Own w' g t k zs := (hb.block g hg).trans h
theorem Own.nums {w : World} {g : Nat} {t : TypeId} {k : IntKind} {zs : List Nat} (h : Own w g t k zs) {n c : Nat} (hn : zs.length = n) (hc : n ≤ c) (hc' : c ≤ 9223372036854775807) :
    Nums k w (some ⟨g, 0, none⟩) n c zs := by
  refine ⟨by rw [nums_length]; exact hn, hc, hc', fun _ => ⟨g, 0, rfl, h.lt, fun j hj => ?_⟩⟩
  unfold Own at h
  rw [nums_length] at hj
  simp [World.cell?, h, Go.Proofs.Ytcmfflfgegadjaa.nums]
theorem Own.new (w : World) (t : TypeId) (k : IntKind) (zs : List Nat) : Own (w.alloc (.cells (Go.Proofs.Ytcmfflfgegadjaa.nums k zs).toArray t)) w.heap.size t k zs := heap_alloc_new w _

theorem Nums.drew {k : IntKind} {w : World} {A : Option Addr} {n c : Nat} {xs : List Nat} (h : Nums k w A n c xs) : Nums k w.drew A n c xs := h
theorem Nums.drewN {k : IntKind} {w : World} {A : Option Addr} {n c : Nat} {xs : List Nat} (h : Nums k w A n c xs) (m : Nat) : Nums k (w.drewN m) A n c xs := h
theorem Nums.ext {k : IntKind} {w : World} {A : Option Addr} {n c : Nat} {xs : List Nat} (h : Nums k w A n c xs) {B : Nat} {w' : World} (hB : w.heap.size ≤ B) (hb : Below B w w') : Nums k w' A n c xs := h.below (hb.mono hB)

/-- a made row of noughts -/
theorem made_nums (k : IntKind) (n : Nat) : madeCells #[Value.int k 0] n = (nums k (List.replicate n 0)).toArray := by
  apply Array.ext
  · simp [madeCells, nums]
  · intro j h1 h2
    simp [madeCells, nums, Nat.mod_one]

/-- 'make' of a slice of numbers -/
theorem run_make_nums {P : Program} (t e : TypeId) (k : IntKind) (bytes : Nat) (ht : P.underlying t = some (.slice e))
    (hi : (P.info? e).map (fun i => (i.zero, i.size, i.bytes)) = some (some (.int k 0), 1, bytes)) (n : Nat) (hb : bytes * n ≤ 281474976710656) (hn : n ≤ 9223372036854775807) (w : World) :
    (Instr.makeSlice t (.int .i64 (n : Int)) (.int .i64 (n : Int))).run P w = .ok (.slice (some ⟨w.heap.size, 0, none⟩) n n) (w.alloc (.cells (nums k (List.replicate n 0)).toArray e)) := by
  obtain ⟨i, hi', hz, hs, hby⟩ := info_parts hi
  have hb' : (i.bytes : Int) * (n : Int) ≤ 281474976710656 := by
    rw [hby]
    have h : ((bytes * n : Nat) : Int) ≤ 281474976710656 := by omega
    rwa [Int.natCast_mul] at h
  have hr := run_make (P := P) w t e i (.int k 0) ht hi' hz .i64 .i64 n n (by omega) (by omega) hb' (by omega)
  simp only [Int.toNat_natCast] at hr
  rw [hr, hs, Nat.mul_one]
  simp only [Value.cells, made_nums]

theorem below_tail {w w1 w2 : World} (h : Below w.heap.size w w1) (h2 : Below w1.heap.size w1 w2) : Below w.heap.size w w2 := h.trans (h2.mono h.size)
theorem below_drewN {B : Nat} {a w : World} (h : Below B a w) (n : Nat) : Below B a (w.drewN n) := ⟨h.os, h.tape, h.output, h.size, h.block⟩

/-- the length in a slot: for a loop's measure -/
def lenOf : Value → Nat
  | .slice _ n _ => n
  | _ => 0

/-- no block has turned: at most something was drawn -/
def Same (w w' : World) : Prop := ∃ m, w' = w.drewN m
theorem Same.refl (w : World) : Same w w := ⟨0, rfl⟩
theorem Same.drewN {a w : World} (h : Same a w) (n : Nat) : Same a (w.drewN n) := by
  obtain ⟨m, rfl⟩ := h
  exact ⟨m + n, by rw [World.drewN_drewN]⟩
theorem Same.trans {a b c : World} (h : Same a b) (h' : Same b c) : Same a c := by
  obtain ⟨m, rfl⟩ := h'
  exact h.drewN m
theorem Same.drew {a w : World} (h : Same a w) : Same a w.drew := h.drewN 1
theorem Same.below {w w' : World} (h : Same w w') (B : Nat) : Below B w w' := by
  obtain ⟨m, rfl⟩ := h
  exact below_drewN (Below.refl _ _) m
theorem Same.size {w w' : World} (h : Same w w') : w'.heap.size = w.heap.size := by
  obtain ⟨m, rfl⟩ := h
  rfl
theorem Nums.same {k : IntKind} {w w' : World} {A : Option Addr} {n c : Nat} {xs : List Nat} (h : Nums k w A n c xs) (hs : Same w w') : Nums k w' A n c xs := h.below (hs.below _)
theorem Sl.same {w w' : World} {A : Option Addr} {n c : Nat} {xs : List Value} (h : Sl w A n c xs) (hs : Same w w') : Sl w' A n c xs := h.below (hs.below _)

end Go.Proofs.Ytcmfflfgegadjaa
