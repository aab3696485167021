/- set: what the laws say, of plain numbers. -/
import Derived.Test.YtapnnnciaagbdaaDoorSetW3
namespace Go.Proofs.YtapnnnciaagbdaaDoor
set_option linter.unusedVariables false
set_option linter.unusedSimpArgs false

theorem ofN_test (l : List Int) (i : Nat) : (ofN l).testBit i = decide ((i : Int) ∈ l ∧ i < 32) := by
  have gen : ∀ (l : List Int) (s : Nat), (l.foldl (fun s n => s ||| bitN n) s).testBit i = (s.testBit i || decide ((i : Int) ∈ l ∧ i < 32)) := by
    intro l
    induction l with
    | nil => intro s; simp
    | cons n l ih =>
      intro s
      rw [List.foldl_cons, ih, Nat.testBit_or, Bool.or_assoc]
      congr 1
      have hb : (bitN n).testBit i = decide ((i : Int) = n ∧ i < 32) := by
        unfold bitN
        split
        · rename_i h
          rw [Nat.testBit_two_pow]
          rw [decide_eq_decide]
          omega
        · rename_i h
          simp
          omega
      rw [hb, Bool.eq_iff_iff]
      simp only [Bool.or_eq_true, decide_eq_true_eq, List.mem_cons]
      constructor
      · rintro (⟨h1, h2⟩ | ⟨h1, h2⟩)
        · exact ⟨.inl h1, h2⟩
        · exact ⟨.inr h1, h2⟩
      · rintro ⟨h1 | h1, h2⟩
        · exact .inl ⟨h1, h2⟩
        · exact .inr ⟨h1, h2⟩
  have := gen l 0
  simpa [ofN] using this

theorem mem_intsOf (l : List Nat) (i : Nat) : (i : Int) ∈ intsOf l ↔ i ∈ l := by
  simp only [intsOf, List.mem_map]
  constructor
  · rintro ⟨a, ha, e⟩
    have : a = i := by omega
    exact this ▸ ha
  · exact fun h => ⟨i, h, rfl⟩

theorem of_mems (s : Nat) (hs : s < 4294967296) : ofN (intsOf (memsN s)) = s := by
  apply Nat.eq_of_testBit_eq
  intro i
  rw [ofN_test]
  by_cases h : i < 32
  · rw [Bool.eq_iff_iff]
    simp [mem_intsOf, mems_mem, h]
  · rw [test_big s hs i (by omega)]
    simp; omega

theorem of_append (l m : List Int) : ofN (l ++ m) = ofN l ||| ofN m := by
  apply Nat.eq_of_testBit_eq
  intro i
  rw [ofN_test, Nat.testBit_or, ofN_test, ofN_test, Bool.eq_iff_iff]
  simp only [List.mem_append, decide_eq_true_eq, Bool.or_eq_true]
  constructor
  · rintro ⟨h1 | h1, h2⟩
    · exact .inl ⟨h1, h2⟩
    · exact .inr ⟨h1, h2⟩
  · rintro (⟨h1, h2⟩ | ⟨h1, h2⟩)
    · exact ⟨.inl h1, h2⟩
    · exact ⟨.inr h1, h2⟩

theorem mems_sorted (s : Nat) : (memsN s).Pairwise (· < ·) := List.Pairwise.filter _ List.pairwise_lt_range

theorem mems_lt (s : Nat) (i j x y : Nat) (hij : i < j) (hx : (memsN s)[i]? = some x) (hy : (memsN s)[j]? = some y) : x < y := by
  obtain ⟨hi, rfl⟩ := List.getElem?_eq_some_iff.1 hx
  obtain ⟨hj, rfl⟩ := List.getElem?_eq_some_iff.1 hy
  exact List.pairwise_iff_getElem.1 (mems_sorted s) i j hi hj hij

theorem has_below (n k : Int) : hasN (belowS n) k = (decide (0 ≤ k) && decide (k < 32) && decide (k < n)) := by
  unfold hasN belowS
  rw [Nat.testBit_two_pow_sub_one, Bool.eq_iff_iff]
  simp
  omega

theorem mems_below : ∀ m : Fin 33, (memsN (2 ^ m.val - 1)).length = m.val := by decide
theorem count_below (n : Int) : (countN (belowS n) : Int) = max (min n 32) 0 := by
  unfold countN belowS
  have h := mems_below ⟨(min n 32).toNat, by omega⟩
  simp only at h
  rw [h]
  omega
theorem belowS_lt (n : Int) : belowS n < 4294967296 := by
  unfold belowS
  have h : (2 : Nat) ^ (min n 32).toNat ≤ 2 ^ 32 := Nat.pow_le_pow_right (by decide) (by omega)
  have e : (2 : Nat) ^ 32 = 4294967296 := by decide
  have hp := Nat.two_pow_pos (min n 32).toNat
  omega
end Go.Proofs.YtapnnnciaagbdaaDoor
