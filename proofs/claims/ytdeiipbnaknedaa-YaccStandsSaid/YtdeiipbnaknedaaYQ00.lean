/- Natural numbers as 64-bit floats: plain. -/
import Ieee.Arith
import Derived.Laws.FloatArith
import Derived.WalkKit
import Derived.WalkSpells
import Derived.WalkLawsBesides
import Derived.Lib.Hide
import Derived.IntWalk
import Derived.Below
import Derived.Laws.OwnMore
import Derived.Deep.Draws
namespace Go.Proofs.Ytdeiipbnaknedaa
open Ieee
set_option linter.unusedVariables false
set_option linter.unusedSimpArgs false

/-- the word of a natural number -/
def fN (n : Nat) : Nat := Ieee.double.nearest false n 0
/-- the rung of a number -/
def rungN (n : Nat) : Nat := (n.log2 + 1022) * 4503599627370496 + n * 2 ^ (52 - n.log2)
/-- a datum that stands for a natural number -/
def IsN (d : Datum) (n : Nat) : Prop := ∃ k : Nat, d = .number false (n * 2 ^ k) (-(k : Int))
theorem IsN.zero (k : Nat) : IsN (.number false 0 (-(k : Int))) 0 := ⟨k, by rw [Nat.zero_mul]⟩

theorem dbl_least : Ieee.double.leastPlace = -1074 := by decide
theorem dbl_binade : Ieee.double.binade = 4503599627370496 := by decide
theorem dbl_inf : Ieee.double.infRung = 9218868437227405312 := by decide
theorem dbl_sign : Ieee.double.signWeight = 9223372036854775808 := by decide

theorem mag_in (n : Nat) (h0 : 0 < n) (h : n < 9007199254740992) : n.log2 ≤ 52 ∧ 4503599627370496 ≤ n * 2 ^ (52 - n.log2) ∧ n * 2 ^ (52 - n.log2) < 9007199254740992 := by
  have hl : n.log2 ≤ 52 := by
    have := (Nat.log2_lt (by omega)).2 (show n < 2 ^ 53 by simpa using h)
    omega
  have h1 : 2 ^ n.log2 ≤ n := Nat.log2_self_le (by omega)
  have h2 : n < 2 ^ (n.log2 + 1) := Nat.lt_log2_self
  have e1 : 2 ^ n.log2 * 2 ^ (52 - n.log2) = 4503599627370496 := by rw [← Nat.pow_add, show n.log2 + (52 - n.log2) = 52 by omega]
  have e2 : 2 ^ (n.log2 + 1) * 2 ^ (52 - n.log2) = 9007199254740992 := by rw [← Nat.pow_add, show n.log2 + 1 + (52 - n.log2) = 53 by omega]
  have hp := Nat.two_pow_pos (52 - n.log2)
  exact ⟨hl, by rw [← e1]; exact Nat.mul_le_mul_right _ h1, by rw [← e2]; exact Nat.mul_lt_mul_of_pos_right h2 hp⟩

theorem log2_mul_pow (n k : Nat) (h : 0 < n) : (n * 2 ^ k).log2 = n.log2 + k := by
  have hp := Nat.two_pow_pos k
  have hne : n * 2 ^ k ≠ 0 := Nat.ne_of_gt (Nat.mul_pos h hp)
  refine (Nat.log2_eq_iff hne).2 ⟨?_, ?_⟩
  · rw [Nat.pow_add]; exact Nat.mul_le_mul_right _ (Nat.log2_self_le (by omega))
  · rw [show n.log2 + k + 1 = (n.log2 + 1) + k by omega, Nat.pow_add]; exact Nat.mul_lt_mul_of_pos_right Nat.lt_log2_self hp

/-- however a number is written, its word is the same -/
theorem nearest_scale (n k : Nat) (h0 : 0 < n) (h : n < 9007199254740992) : Ieee.double.nearest false (n * 2 ^ k) (-(k : Int)) = rungN n := by
  obtain ⟨hl, hm1, hm2⟩ := mag_in n h0 h
  have hp := Nat.two_pow_pos k
  have hne : n * 2 ^ k ≠ 0 := Nat.ne_of_gt (Nat.mul_pos h0 hp)
  unfold Format.nearest
  rw [if_neg hne]
  simp only [log2_mul_pow n k h0, dbl_least, dbl_binade, dbl_inf]
  have hlast : max (-(k : Int) + ((n.log2 + k : Nat) : Int) - (Ieee.double.fractionBits : Int)) (-1074) = (n.log2 : Int) - 52 := by
    have : (Ieee.double.fractionBits : Int) = 52 := rfl
    rw [this]; omega
  rw [hlast]
  have hcut : Toward.even.cut false ((n * 2 ^ k) <<< (-(k : Int) - ((n.log2 : Int) - 52)).toNat) ((n.log2 : Int) - 52 - -(k : Int)).toNat = n * 2 ^ (52 - n.log2) := by
    by_cases hd : k + n.log2 ≤ 52
    · have e1 : (-(k : Int) - ((n.log2 : Int) - 52)).toNat = 52 - n.log2 - k := by omega
      have e2 : ((n.log2 : Int) - 52 - -(k : Int)).toNat = 0 := by omega
      rw [e1, e2, Nat.shiftLeft_eq, Nat.mul_assoc, ← Nat.pow_add, show k + (52 - n.log2 - k) = 52 - n.log2 by omega]
      unfold Toward.cut
      simp [Nat.mod_one]
    · obtain ⟨d, hd2⟩ : ∃ d, d = k + n.log2 - 52 := ⟨_, rfl⟩
      have e1 : (-(k : Int) - ((n.log2 : Int) - 52)).toNat = 0 := by omega
      have e2 : ((n.log2 : Int) - 52 - -(k : Int)).toNat = d := by omega
      have e3 : n * 2 ^ k = n * 2 ^ (52 - n.log2) * 2 ^ d := by rw [Nat.mul_assoc, ← Nat.pow_add, show 52 - n.log2 + d = k by omega]
      rw [e1, e2, Nat.shiftLeft_zero, e3]
      unfold Toward.cut
      have hlg : (n * 2 ^ (52 - n.log2) * 2 ^ d).log2 = n.log2 + k := by rw [← e3]; exact log2_mul_pow n k h0
      rw [hlg, Nat.min_eq_left (by omega)]
      have hpd := Nat.two_pow_pos d
      simp only [Nat.shiftLeft_eq, Nat.one_mul, Nat.mul_mod_left, Nat.mul_div_cancel _ hpd, Nat.mul_zero]
      simp
  rw [hcut]
  have e4 : ((n.log2 : Int) - 52 - -1074).toNat = n.log2 + 1022 := by omega
  rw [e4, Nat.min_eq_left (by omega)]
  rfl

theorem fN_rung (n : Nat) (h0 : 0 < n) (h : n < 9007199254740992) : fN n = rungN n := by
  have := nearest_scale n 0 h0 h
  simpa [fN] using this
theorem fN_zero : fN 0 = 0 := by decide

theorem read_rung (n : Nat) (h0 : 0 < n) (h : n < 9007199254740992) : Ieee.double.read (rungN n) = .number false (n * 2 ^ (52 - n.log2)) (-((52 - n.log2 : Nat) : Int)) := by
  obtain ⟨hl, hm1, hm2⟩ := mag_in n h0 h
  unfold Format.read rungN
  generalize n * 2 ^ (52 - n.log2) = M at *
  simp only [dbl_sign, dbl_binade, dbl_inf, dbl_least]
  have a1 : ((n.log2 + 1022) * 4503599627370496 + M) / 9223372036854775808 % 2 = 0 := by omega
  have a2 : ((n.log2 + 1022) * 4503599627370496 + M) % 9223372036854775808 = (n.log2 + 1022) * 4503599627370496 + M := by omega
  rw [a1, a2, if_neg (by omega), if_pos (by omega)]
  have a3 : ((n.log2 + 1022) * 4503599627370496 + M) % 4503599627370496 = M - 4503599627370496 := by omega
  have a4 : ((n.log2 + 1022) * 4503599627370496 + M) / 4503599627370496 = n.log2 + 1023 := by omega
  rw [a3, a4]
  have a5 : 4503599627370496 + (M - 4503599627370496) = M := by omega
  have a6 : (-1074 : Int) + ((n.log2 + 1023 - 1 : Nat) : Int) = -((52 - n.log2 : Nat) : Int) := by omega
  rw [a5, a6]
  rfl

theorem read_fN (n : Nat) (h : n < 9007199254740992) : IsN (Ieee.double.read (fN n)) n := by
  rcases Nat.eq_zero_or_pos n with h0 | h0
  · subst h0
    rw [fN_zero, show Ieee.double.read 0 = .number false 0 (-((1074 : Nat) : Int)) from by decide]
    exact IsN.zero _
  · rw [fN_rung n h0 h, read_rung n h0 h]
    exact ⟨_, rfl⟩

theorem IsN.order {d e : Datum} {n m : Nat} (h : IsN d n) (k : IsN e m) : d.order e = some (compare n m) := by
  obtain ⟨a, rfl⟩ := h
  obtain ⟨b, rfl⟩ := k
  simp only [Datum.order, Ieee.signed, Bool.false_eq_true, if_false, Nat.shiftLeft_eq, Option.some.injEq]
  have e1 : ∀ (x a : Nat) (t : Int), t ≤ -(a : Int) → x * 2 ^ a * 2 ^ (-(a : Int) - t).toNat = x * 2 ^ (-t).toNat := fun x a t ht => by
    rw [Nat.mul_assoc, ← Nat.pow_add]
    congr 2
    omega
  rw [e1 n a _ (Int.min_le_left _ _), e1 m b _ (Int.min_le_right _ _)]
  have hp := Nat.two_pow_pos (-(min (-(a : Int)) (-(b : Int)))).toNat
  generalize 2 ^ (-(min (-(a : Int)) (-(b : Int)))).toNat = P at *
  have hc : ∀ x y : Nat, (x * P < y * P ↔ x < y) := fun x y => Nat.mul_lt_mul_right hp
  have he : ∀ x y : Nat, (x * P = y * P ↔ x = y) := fun x y => Nat.mul_right_cancel_iff hp
  simp only [compare, compareOfLessAndEq, Int.ofNat_lt, Int.ofNat_inj, hc, he]

theorem IsN.toInt {d : Datum} {n : Nat} (h : IsN d n) : d.toInt .zero = some (n : Int) := by
  obtain ⟨a, rfl⟩ := h
  have hp := Nat.two_pow_pos a
  simp only [Datum.toInt, Datum.integral, Ieee.signed, Bool.false_eq_true, if_false]
  have e1 : (-(a : Int)).toNat = 0 := by omega
  have e2 : (- -(a : Int)).toNat = a := by omega
  rw [e1, e2, Nat.shiftLeft_zero, Nat.shiftLeft_zero]
  unfold Toward.cut
  simp only [Bool.toNat_false, Nat.add_zero]
  rcases Nat.eq_zero_or_pos n with h0 | h0
  · subst h0; simp
  · rw [log2_mul_pow n a h0, Nat.min_eq_left (by omega), Nat.shiftLeft_eq, Nat.one_mul, Nat.mul_div_cancel _ hp]

theorem IsN.sum {d e : Datum} {n m : Nat} (h : IsN d n) (k : IsN e m) : ∃ f, d.sum e = some f ∧ IsN f (n + m) := by
  obtain ⟨a, rfl⟩ := h
  obtain ⟨b, rfl⟩ := k
  simp only [Datum.sum, Ieee.signed, Bool.false_eq_true, if_false, Nat.shiftLeft_eq, Bool.and_self, Option.some.injEq]
  have e1 : ∀ (x a : Nat) (t : Int), t ≤ -(a : Int) → x * 2 ^ a * 2 ^ (-(a : Int) - t).toNat = x * 2 ^ (-t).toNat := fun x a t ht => by
    rw [Nat.mul_assoc, ← Nat.pow_add]
    congr 2
    omega
  rw [e1 n a _ (Int.min_le_left _ _), e1 m b _ (Int.min_le_right _ _)]
  refine ⟨_, rfl, (-(min (-(a : Int)) (-(b : Int)))).toNat, ?_⟩
  generalize hP : 2 ^ (-(min (-(a : Int)) (-(b : Int)))).toNat = P
  have e2 : ((n * P : Nat) : Int) + ((m * P : Nat) : Int) = (((n + m) * P : Nat) : Int) := by rw [Nat.add_mul]; omega
  rw [e2, Int.natAbs_natCast]
  have e3 : (if (((n + m) * P : Nat) : Int) = 0 then false else decide ((((n + m) * P : Nat) : Int) < 0)) = false := by
    split
    · rfl
    · exact decide_eq_false (by have := Int.natCast_nonneg ((n + m) * P); omega)
  rw [e3]
  congr 1
  omega

/-- what is added is the sum's word -/
theorem write_isN {d : Datum} {n k : Nat} (hd : d = .number false (n * 2 ^ k) (-(k : Int))) (h : n < 9007199254740992) : Ieee.double.write d = fN n := by
  subst hd
  show Ieee.double.nearest false (n * 2 ^ k) (-(k : Int)) = fN n
  rcases Nat.eq_zero_or_pos n with h0 | h0
  · subst h0
    rw [Nat.zero_mul, fN_zero]
    unfold Format.nearest
    simp
    decide
  · rw [nearest_scale n k h0 h, fN_rung n h0 h]
end Go.Proofs.Ytdeiipbnaknedaa
/- Words for slices that read as lists: no program in sight. -/
namespace Go.Proofs.Ytdeiipbnaknedaa
open Go.RowKit
set_option linter.unusedVariables false
set_option linter.unusedSimpArgs false

/-- the cells of a row, from an address on -/
def Arr (w : World) (A : Option Addr) (xs : List Value) : Prop :=
  0 < xs.length → ∃ b off, A = some ⟨b, off, none⟩ ∧ b < w.heap.size ∧ ∀ j, j < xs.length → w.cell? ⟨b, off + j, none⟩ = xs[j]?

/-- a slice value that reads as a list of one-cell values -/
def Sl (w : World) (A : Option Addr) (n c : Nat) (xs : List Value) : Prop :=
  xs.length = n ∧ n ≤ c ∧ c ≤ 9223372036854775807 ∧ Arr w A xs

theorem Arr.nil (w : World) (A : Option Addr) : Arr w A [] := fun h => absurd h (by simp)

theorem Arr.keep {w w' : World} {A : Option Addr} {xs : List Value} (h : Arr w A xs) (hs : w.heap.size ≤ w'.heap.size)
    (hk : ∀ b off, b < w.heap.size → w'.cell? ⟨b, off, none⟩ = w.cell? ⟨b, off, none⟩) : Arr w' A xs := fun hn => by
  obtain ⟨b, off, e, hb, hc⟩ := h hn
  exact ⟨b, off, e, by omega, fun j hj => (hk b _ hb).trans (hc j hj)⟩

theorem Arr.below {w w' : World} {A : Option Addr} {xs : List Value} (h : Arr w A xs) (hb : Below w.heap.size w w') : Arr w' A xs :=
  h.keep hb.size fun _ _ hp => hb.cell hp

theorem Sl.below {w w' : World} {A : Option Addr} {n c : Nat} {xs : List Value} (h : Sl w A n c xs) (hb : Below w.heap.size w w') : Sl w' A n c xs :=
  ⟨h.1, h.2.1, h.2.2.1, h.2.2.2.below hb⟩

theorem Sl.nil (w : World) (A : Option Addr) (c : Nat) (h : c ≤ 9223372036854775807) : Sl w A 0 c [] := ⟨rfl, Nat.zero_le _, h, Arr.nil _ _⟩

/-- numbers as cells -/
def nums (k : IntKind) (xs : List Nat) : List Value := xs.map fun (x : Nat) => Value.int k ((x : Int))
theorem nums_length (k : IntKind) (xs : List Nat) : (nums k xs).length = xs.length := by simp [nums]

/-- a slice that reads as numbers of kind k -/
def Nums (k : IntKind) (w : World) (A : Option Addr) (n c : Nat) (xs : List Nat) : Prop := Sl w A n c (nums k xs)

theorem Nums.len {k : IntKind} {w : World} {A : Option Addr} {n c : Nat} {xs : List Nat} (h : Nums k w A n c xs) : xs.length = n := by
  have := h.1; rwa [nums_length] at this
theorem Nums.cap {k : IntKind} {w : World} {A : Option Addr} {n c : Nat} {xs : List Nat} (h : Nums k w A n c xs) : n ≤ c ∧ c ≤ 9223372036854775807 := ⟨h.2.1, h.2.2.1⟩
theorem Nums.at_ {k : IntKind} {w : World} {A : Option Addr} {n c : Nat} {xs : List Nat} (h : Nums k w A n c xs) (hn : 0 < n) :
    ∃ b off, A = some ⟨b, off, none⟩ ∧ b < w.heap.size ∧ ∀ j, j < n → w.cell? ⟨b, off + j, none⟩ = some (.int k ((xs.getD j 0 : Nat) : Int)) := by
  have hl := h.len
  obtain ⟨b, off, e, hb, hc⟩ := h.2.2.2 (by rw [nums_length, hl]; exact hn)
  refine ⟨b, off, e, hb, fun j hj => ?_⟩
  rw [hc j (by rw [nums_length, hl]; exact hj)]
  simp only [nums, List.getElem?_map]
  rw [List.getElem?_eq_getElem (by omega)]
  simp [List.getElem?_eq_getElem (show j < xs.length by omega)]
theorem Nums.below {k : IntKind} {w w' : World} {A : Option Addr} {n c : Nat} {xs : List Nat} (h : Nums k w A n c xs) (hb : Below w.heap.size w w') : Nums k w' A n c xs := Sl.below h hb
theorem Nums.nil (k : IntKind) (w : World) (A : Option Addr) (c : Nat) (h : c ≤ 9223372036854775807) : Nums k w A 0 c [] := Sl.nil w A c h


/-- one number read: where it lies, and its value under a name of its own -/
theorem Nums.get {k : IntKind} {w : World} {A : Option Addr} {n c : Nat} {xs : List Nat} (h : Nums k w A n c xs) {j : Nat} (hj : j < n) :
    ∃ b off x, A = some ⟨b, off, none⟩ ∧ b < w.heap.size ∧ Hid (xs[j]? = some x) ∧ w.cell? ⟨b, off + j, none⟩ = some (.int k ((x : Int))) := by
  obtain ⟨b, off, e, hb, hc⟩ := h.at_ (by omega)
  have hl := h.len
  exact ⟨b, off, xs[j]'(by omega), e, hb, Lib.hid (List.getElem?_eq_getElem (by omega)), by rw [hc j hj]; simp [List.getElem?_eq_getElem (show j < xs.length by omega)]⟩

theorem Nums.take {k : IntKind} {w : World} {A : Option Addr} {n c : Nat} {xs : List Nat} (h : Nums k w A n c xs) (m c' : Nat) (hm : m ≤ n) (hc : m ≤ c') (hc' : c' ≤ 9223372036854775807) :
    Nums k w A m c' (xs.take m) := by
  have hl := h.len
  refine ⟨by simp [nums]; omega, hc, hc', fun hn => ?_⟩
  simp [nums] at hn
  obtain ⟨b, off, e, hb, hcell⟩ := h.2.2.2 (by rw [nums_length]; omega)
  refine ⟨b, off, e, hb, fun j hj => ?_⟩
  simp [nums] at hj
  rw [hcell j (by rw [nums_length]; omega)]
  simp [nums, List.getElem?_take]
  intro; omega

theorem cast_beq0 (a : Nat) : ((a : Int) == 0) = (a == 0) := by rw [Bool.eq_iff_iff]; simp
theorem cast_bne0 (a : Nat) : ((a : Int) != 0) = (a != 0) := by rw [Bool.eq_iff_iff]; simp [bne_iff_ne]

/-- a block of the call's own, known whole: numbers of kind k -/
def Own (w : World) (g : Nat) (t : TypeId) (k : IntKind) (zs : List Nat) : Prop := w.heap[g]? = some (.cells (nums k zs).toArray t (0, 0))

theorem Own.lt {w : World} {g : Nat} {t : TypeId} {k : IntKind} {zs : List Nat} (h : Own w g t k zs) : g < w.heap.size := by
  rcases Nat.lt_or_ge g w.heap.size with hlt | hge
  · exact hlt
  · unfold Own at h; rw [Array.getElem?_eq_none hge] at h; cases h
theorem Own.cell {w : World} {g : Nat} {t : TypeId} {k : IntKind} {zs : List Nat} (h : Own w g t k zs) {i : Nat} (hi : i < zs.length) :
    ∃ x, Hid (zs[i]? = some x) ∧ w.cell? ⟨g, i, none⟩ = some (.int k (x : Int)) := by
  refine ⟨zs[i], Lib.hid (List.getElem?_eq_getElem hi), ?_⟩
  unfold Own at h
  simp [World.cell?, h, nums, List.getElem?_eq_getElem hi]
theorem Own.frozen {w : World} {g : Nat} {t : TypeId} {k : IntKind} {zs : List Nat} (h : Own w g t k zs) (i : Nat) : w.frozen? ⟨g, i, none⟩ = false := by
  unfold Own at h
  simp [World.frozen?, h]
theorem Own.drew {w : World} {g : Nat} {t : TypeId} {k : IntKind} {zs : List Nat} (h : Own w g t k zs) : Own w.drew g t k zs := h
theorem Own.drewN {w : World} {g : Nat} {t : TypeId} {k : IntKind} {zs : List Nat} (h : Own w g t k zs) (n : Nat) : Own (w.drewN n) g t k zs := h
theorem Own.alloc {w : World} {g : Nat} {t : TypeId} {k : IntKind} {zs : List Nat} (h : Own w g t k zs) (o : Obj) : Own (w.alloc o) g t k zs :=
  (Below.heap_alloc w o g h.lt).trans h
theorem Own.set_ {w : World} {g : Nat} {t : TypeId} {k : IntKind} {zs : List Nat} (h : Own w g t k zs) (i x : Nat) :
    Own (w.setCell ⟨g, i, none⟩ (.int k (x : Int))) g t k (zs.set i x) := by
  unfold Own at h ⊢
  simp [World.setCell, Array.getElem?_modify, h, nums, List.map_set]
theorem Own.far {w : World} {g : Nat} {t : TypeId} {k : IntKind} {zs : List Nat} (h : Own w g t k zs) {p : Addr} (hp : g ≠ p.block) (u : Value) : Own (w.setCell p u) g t k zs :=
  (Below.heap_setCell w p u g hp).trans h
theorem Own.below {w w' : World} {B g : Nat} {t : TypeId} {k : IntKind} {zs : List Nat} (h : Own w g t k zs) (hb : Below B w w') (hg : g < B) : Own w' g t k zs := (hb.block g hg).trans h
theorem Own.nums {w : World} {g : Nat} {t : TypeId} {k : IntKind} {zs : List Nat} (h : Own w g t k zs) {n c : Nat} (hn : zs.length = n) (hc : n ≤ c) (hc' : c ≤ 9223372036854775807) :
    Nums k w (some ⟨g, 0, none⟩) n c zs := by
  refine ⟨by rw [nums_length]; exact hn, hc, hc', fun _ => ⟨g, 0, rfl, h.lt, fun j hj => ?_⟩⟩
  unfold Own at h
  rw [nums_length] at hj
  simp [World.cell?, h, Go.Proofs.Ytdeiipbnaknedaa.nums]
theorem Own.new (w : World) (t : TypeId) (k : IntKind) (zs : List Nat) : Own (w.alloc (.cells (Go.Proofs.Ytdeiipbnaknedaa.nums k zs).toArray t)) w.heap.size t k zs := heap_alloc_new w _

theorem Nums.drew {k : IntKind} {w : World} {A : Option Addr} {n c : Nat} {xs : List Nat} (h : Nums k w A n c xs) : Nums k w.drew A n c xs := h
theorem Nums.drewN {k : IntKind} {w : World} {A : Option Addr} {n c : Nat} {xs : List Nat} (h : Nums k w A n c xs) (m : Nat) : Nums k (w.drewN m) A n c xs := h
theorem Nums.ext {k : IntKind} {w : World} {A : Option Addr} {n c : Nat} {xs : List Nat} (h : Nums k w A n c xs) {B : Nat} {w' : World} (hB : w.heap.size ≤ B) (hb : Below B w w') : Nums k w' A n c xs := h.below (hb.mono hB)

/-- a made row of noughts -/
theorem made_nums (k : IntKind) (n : Nat) : madeCells #[Value.int k 0] n = (nums k (List.replicate n 0)).toArray := by
  apply Array.ext
  · simp [madeCells, nums]
  · intro j h1 h2
    simp [madeCells, nums, Nat.mod_one]

/-- 'make' of a slice of numbers -/
theorem run_make_nums {P : Program} (t e : TypeId) (k : IntKind) (bytes : Nat) (ht : P.underlying t = some (.slice e))
    (hi : (P.info? e).map (fun i => (i.zero, i.size, i.bytes)) = some (some (.int k 0), 1, bytes)) (n : Nat) (hb : bytes * n ≤ 281474976710656) (hn : n ≤ 9223372036854775807) (w : World) :
    (Instr.makeSlice t (.int .i64 (n : Int)) (.int .i64 (n : Int))).run P w = .ok (.slice (some ⟨w.heap.size, 0, none⟩) n n) (w.alloc (.cells (nums k (List.replicate n 0)).toArray e)) := by
  obtain ⟨i, hi', hz, hs, hby⟩ := info_parts hi
  have hb' : (i.bytes : Int) * (n : Int) ≤ 281474976710656 := by
    rw [hby]
    have h : ((bytes * n : Nat) : Int) ≤ 281474976710656 := by omega
    rwa [Int.natCast_mul] at h
  have hr := run_make (P := P) w t e i (.int k 0) ht hi' hz .i64 .i64 n n (by omega) (by omega) hb' (by omega)
  simp only [Int.toNat_natCast] at hr
  rw [hr, hs, Nat.mul_one]
  simp only [Value.cells, made_nums]

theorem below_tail {w w1 w2 : World} (h : Below w.heap.size w w1) (h2 : Below w1.heap.size w1 w2) : Below w.heap.size w w2 := h.trans (h2.mono h.size)
theorem below_drewN {B : Nat} {a w : World} (h : Below B a w) (n : Nat) : Below B a (w.drewN n) := ⟨h.os, h.tape, h.output, h.size, h.block⟩

/-- the length in a slot: for a loop's measure -/
def lenOf : Value → Nat
  | .slice _ n _ => n
  | _ => 0

/-- no block has turned: at most something was drawn -/
def Same (w w' : World) : Prop := ∃ m, w' = w.drewN m
theorem Same.refl (w : World) : Same w w := ⟨0, rfl⟩
theorem Same.drewN {a w : World} (h : Same a w) (n : Nat) : Same a (w.drewN n) := by
  obtain ⟨m, rfl⟩ := h
  exact ⟨m + n, by rw [World.drewN_drewN]⟩
theorem Same.trans {a b c : World} (h : Same a b) (h' : Same b c) : Same a c := by
  obtain ⟨m, rfl⟩ := h'
  exact h.drewN m
theorem Same.drew {a w : World} (h : Same a w) : Same a w.drew := h.drewN 1
theorem Same.below {w w' : World} (h : Same w w') (B : Nat) : Below B w w' := by
  obtain ⟨m, rfl⟩ := h
  exact below_drewN (Below.refl _ _) m
theorem Same.size {w w' : World} (h : Same w w') : w'.heap.size = w.heap.size := by
  obtain ⟨m, rfl⟩ := h
  rfl
theorem Nums.same {k : IntKind} {w w' : World} {A : Option Addr} {n c : Nat} {xs : List Nat} (h : Nums k w A n c xs) (hs : Same w w') : Nums k w' A n c xs := h.below (hs.below _)
theorem Sl.same {w w' : World} {A : Option Addr} {n c : Nat} {xs : List Value} (h : Sl w A n c xs) (hs : Same w w') : Sl w' A n c xs := h.below (hs.below _)

end Go.Proofs.Ytdeiipbnaknedaa
