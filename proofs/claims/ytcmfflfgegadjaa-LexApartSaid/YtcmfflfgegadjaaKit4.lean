/- Words for slices that read as integers of a kind. -/
import Derived.Test.YtcmfflfgegadjaaKit2
namespace Go.Proofs.Ytcmfflfgegadjaa
open Go.RowKit
set_option linter.unusedVariables false
set_option linter.unusedSimpArgs false

/-- integers as cells -/
def ints (k : IntKind) (zs : List Int) : List Value := zs.map (Value.int k)
theorem ints_length (k : IntKind) (zs : List Int) : (ints k zs).length = zs.length := by simp [ints]
/-- a slice that reads as integers of kind k -/
def Ints (k : IntKind) (w : World) (A : Option Addr) (n c : Nat) (zs : List Int) : Prop := Sl w A n c (ints k zs)
theorem Ints.len {k : IntKind} {w : World} {A : Option Addr} {n c : Nat} {zs : List Int} (h : Ints k w A n c zs) : zs.length = n := by
  have := h.1; rwa [ints_length] at this
theorem Ints.cap {k : IntKind} {w : World} {A : Option Addr} {n c : Nat} {zs : List Int} (h : Ints k w A n c zs) : n ≤ c ∧ c ≤ 9223372036854775807 := ⟨h.2.1, h.2.2.1⟩
theorem Ints.below {k : IntKind} {w w' : World} {A : Option Addr} {n c : Nat} {zs : List Int} (h : Ints k w A n c zs) (hb : Below w.heap.size w w') : Ints k w' A n c zs := Sl.below h hb
theorem Ints.same {k : IntKind} {w w' : World} {A : Option Addr} {n c : Nat} {zs : List Int} (h : Ints k w A n c zs) (hs : Same w w') : Ints k w' A n c zs := h.below (hs.below _)
theorem Ints.drew {k : IntKind} {w : World} {A : Option Addr} {n c : Nat} {zs : List Int} (h : Ints k w A n c zs) : Ints k w.drew A n c zs := h
theorem Ints.drewN {k : IntKind} {w : World} {A : Option Addr} {n c : Nat} {zs : List Int} (h : Ints k w A n c zs) (m : Nat) : Ints k (w.drewN m) A n c zs := h
theorem Ints.ext {k : IntKind} {w : World} {A : Option Addr} {n c : Nat} {zs : List Int} (h : Ints k w A n c zs) {B : Nat} {w' : World} (hB : w.heap.size ≤ B) (hb : Below B w w') : Ints k w' A n c zs := h.below (hb.mono hB)
theorem Ints.nil (k : IntKind) (w : World) (A : Option Addr) (c : Nat) (h : c ≤ 9223372036854775807) : Ints k w A 0 c [] := Sl.nil w A c h
theorem Ints.sl {k : IntKind} {w : World} {A : Option Addr} {n c : Nat} {zs : List Int} (h : Ints k w A n c zs) : Sl w A n c (ints k zs) := h
theorem Ints.get {k : IntKind} {w : World} {A : Option Addr} {n c : Nat} {zs : List Int} (h : Ints k w A n c zs) {j : Nat} (hj : j < n) :
    ∃ b off x, A = some ⟨b, off, none⟩ ∧ b < w.heap.size ∧ Hid (zs[j]? = some x) ∧ w.cell? ⟨b, off + j, none⟩ = some (.int k x) := by
  have hl := h.len
  obtain ⟨b, off, e, hb, hc⟩ := h.2.2.2 (by rw [ints_length]; omega)
  refine ⟨b, off, zs[j]'(by omega), e, hb, Lib.hid (List.getElem?_eq_getElem (by omega)), ?_⟩
  rw [hc j (by rw [ints_length]; omega)]
  simp [ints, List.getElem?_eq_getElem (show j < zs.length by omega)]
theorem Ints.part {k : IntKind} {w : World} {b off n c : Nat} {zs : List Int} (h : Ints k w (some ⟨b, off, none⟩) n c zs) (i m c' : Nat) (hm : i + m ≤ n) (hc : m ≤ c') (hc' : c' ≤ 9223372036854775807) :
    Ints k w (some ⟨b, off + i, none⟩) m c' ((zs.drop i).take m) := by
  have hl := h.len
  refine ⟨by simp [ints]; omega, hc, hc', fun hn => ?_⟩
  simp [ints] at hn
  obtain ⟨b', off', e, hb, hcell⟩ := h.2.2.2 (by rw [ints_length]; omega)
  injection e with e
  injection e with e1 e2
  subst e1; subst e2
  refine ⟨b, off + i, rfl, hb, fun j hj => ?_⟩
  simp [ints] at hj
  rw [Nat.add_assoc, hcell (i + j) (by rw [ints_length]; omega)]
  simp [ints, List.getElem?_take, List.getElem?_drop]
  intro; omega
theorem Ints.take {k : IntKind} {w : World} {A : Option Addr} {n c : Nat} {zs : List Int} (h : Ints k w A n c zs) (m c' : Nat) (hm : m ≤ n) (hc : m ≤ c') (hc' : c' ≤ 9223372036854775807) :
    Ints k w A m c' (zs.take m) := by
  have hl := h.len
  refine ⟨by simp [ints]; omega, hc, hc', fun hn => ?_⟩
  simp [ints] at hn
  obtain ⟨b, off, e, hb, hcell⟩ := h.2.2.2 (by rw [ints_length]; omega)
  refine ⟨b, off, e, hb, fun j hj => ?_⟩
  simp [ints] at hj
  rw [hcell j (by rw [ints_length]; omega)]
  simp [ints, List.getElem?_take]
  intro; omega
theorem ints_append (k : IntKind) (xs ys : List Int) : ints k (xs ++ ys) = ints k xs ++ ints k ys := by simp [ints]
theorem ints_snoc (k : IntKind) (xs : List Int) (x : Int) : ints k (xs ++ [x]) = ints k xs ++ [.int k x] := by simp [ints]
theorem ints_set (k : IntKind) (xs : List Int) (j : Nat) (x : Int) : ints k (xs.set j x) = (ints k xs).set j (.int k x) := by simp [ints, List.map_set]
theorem ints_get (k : IntKind) (xs : List Int) (j : Nat) (u : Value) (h : (ints k xs)[j]? = some u) : ∃ x, xs[j]? = some x ∧ u = .int k x := by
  simp only [ints, List.getElem?_map, Option.map_eq_some_iff] at h
  obtain ⟨x, hx, rfl⟩ := h
  exact ⟨x, hx, rfl⟩
theorem ints_one (k : IntKind) (xs : List Int) : ∀ u ∈ ints k xs, u.oneCell' = true := by
  intro u hu
  simp only [ints, List.mem_map] at hu
  obtain ⟨x, _, rfl⟩ := hu
  rfl
/-- a list of integers comes back -/
def RetInts (k : IntKind) (w : World) (zs : List Int) (e : Ending) (w' : World) : Prop :=
  ∃ A c, e = .returned (.slice A zs.length c) ∧ Ints k w' A zs.length c zs ∧ Below w.heap.size w w'

/-- a block that a literal has laid -/
theorem lit_sl (w : World) (t : TypeId) (vs : List Value) (n : Nat) (arr : Array Value) (h : arr = vs.toArray) (hn : vs.length = n) (hs : n ≤ 1000000) : Sl (w.alloc (.cells arr t)) (some ⟨w.heap.size, 0, none⟩) n n vs := by
  subst h
  have := World.ownsRow_lit (base := w.heap.size) (e := t) (size := 1) w vs.toArray n (Nat.le_refl _) (by simp [maxLen]; omega) (by simp [hn])
  simpa using own_sl this
end Go.Proofs.Ytcmfflfgegadjaa
