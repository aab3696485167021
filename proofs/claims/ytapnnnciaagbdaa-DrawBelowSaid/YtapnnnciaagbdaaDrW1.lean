/- draw: how many bits and words a try has: plain words and walks. -/
import Derived.Test.YtapnnnciaagbdaaNatW13
namespace Go.Proofs.Ytapnnnciaagbdaa
open Go.RowKit
set_option linter.unusedVariables false
set_option linter.unusedSimpArgs false

/-- how many bits and words a try has -/
def sizeN (xs : List Nat) : Nat := bitsN (subN xs (limbs 1)).1
def needN (xs : List Nat) : Nat := (sizeN xs + 31) / 32

theorem bitLen_big (v : Nat) (h : v < big) : bitLen v ≤ 1024 := by
  rcases Nat.lt_or_ge 1024 (bitLen v) with h1 | h1
  · have h2 := bit_in (limbs v) (limbs_lim v) 1024 (by rw [val_limbs]; exact h1)
    have h3 : (limbs v).length ≤ 32 := right_len _ (right_of_limbs v h)
    omega
  · exact h1
theorem sizeN_le (xs : List Nat) (lx : Lim xs) : sizeN xs ≤ 1024 := by
  unfold sizeN bitsN
  split
  · unfold subN
    split
    · rename_i h
      split
      · decide
      · rw [val_limbs]
        simp at h
        have := (limbs_of_right xs lx h.1).2
        exact bitLen_big _ (by omega)
    · decide
  · omega

set_option maxHeartbeats 400000 in
theorem draw_size (A1 : Option Addr) (n c1 : Nat) (xs : List Nat) (w : World) (h1 : Nums .u32 w A1 n c1 xs) (lx : Lim xs) :
    Calls Try.prog 47 #[.slice A1 n c1] w fun e w' => e = .returned (.int .i64 (sizeN xs : Int)) ∧ Below w.heap.size w w' := by
  have hof : Calls Try.prog 38 #[.int .u64 1] w (RetLimbs w (limbs 1)) := nat_of 1 w (by decide)
  have Hof := Lib.hid hof
  have Hs : Hid (bitsN (subN xs (limbs 1)).1 = sizeN xs) := Lib.hid rfl
  have Hl := Lib.hid (limbs_lim 1)
  have Hsl := Lib.hid (subN_lim xs (limbs 1))
  clear hof
  generalize limbs 1 = os at *
  go_enter Try.func47, Try.ntmps47
  go_wp2_with (first
    | (go_at_call 38; (with_reducible refine Hof.out.mono ?_); rintro e w1 ⟨A, c, rfl, ho, hB1⟩)
    | (go_at_call 27; (with_reducible refine (nat_sub _ _ _ _ _ _ _ _ _ (h1.below hB1) ho lx Hl.out).mono ?_); rintro e w2 ⟨A', c', rfl, hs, hB2⟩)
    | (go_at_call 34; (with_reducible refine (nat_bits _ _ _ _ _ hs Hsl.out).mono ?_); rintro e w3 ⟨rfl, rfl⟩; rw [Hs.out]))
  go_ret
  exact ⟨rfl, below_tail hB1 hB2⟩

set_option maxHeartbeats 400000 in
theorem draw_need (A1 : Option Addr) (n c1 : Nat) (xs : List Nat) (w : World) (h1 : Nums .u32 w A1 n c1 xs) (lx : Lim xs) :
    Calls Try.prog 19 #[.slice A1 n c1] w fun e w' => e = .returned (.int .i64 (needN xs : Int)) ∧ Below w.heap.size w w' := by
  have hle := sizeN_le xs lx
  have Hs : Hid (((sizeN xs : Int) + 32 - 1) / 32 = (needN xs : Int)) := Lib.hid (by unfold needN; omega)
  go_enter Try.func19, Try.ntmps19
  go_wp2_with (go_at_call 47; (with_reducible refine (draw_size _ _ _ _ _ h1 lx).mono ?_); rintro e w1 ⟨rfl, hB1⟩)
  go_ret
  exact ⟨by rw [← Hs.out]; rfl, hB1⟩

set_option maxHeartbeats 400000 in
theorem ref2_bits (A1 : Option Addr) (n c1 : Nat) (xs : List Nat) (w : World) (h1 : Nums .u32 w A1 n c1 xs) (lx : Lim xs) :
    Calls Try.prog 49 #[.slice A1 n c1] w fun e w' => e = .returned (.int .i64 (sizeN xs : Int)) ∧ Below w.heap.size w w' := by
  have hsub : ∀ w' A c, Nums .u32 w' A1 n c1 xs → Nums .u32 w' A 1 c [1] → Calls Try.prog 28 #[.slice A1 n c1, .slice A 1 c] w' (RetNat w' (subN xs (limbs 1))) := by
    intro w' A c ha hb
    have := ref_sub A1 n c1 xs A 1 c [1] w' ha hb lx (Lim.mk (by decide) Lim.nil)
    rwa [limbs_one]
  have Hsub := Lib.hid hsub
  have hBa : Below w.heap.size w (w.alloc (.cells #[.int .u32 1] 34)) := (Below.refl _ _).alloc (Nat.le_refl _) _
  have Hs : Hid (bitsN (subN xs (limbs 1)).1 = sizeN xs) := Lib.hid rfl
  have Hsl := Lib.hid (subN_lim xs (limbs 1))
  have hbad : (subN xs (limbs 1)).2 ≠ 0 → (subN xs (limbs 1)).1 = [] := by
    unfold subN
    split
    · split
      · intro _; rfl
      · intro h; exact absurd rfl h
    · intro _; rfl
  generalize subN xs (limbs 1) = p at *
  obtain ⟨ps, e0⟩ := p
  simp only [] at *
  clear hsub
  by_cases he : e0 = 0
  · subst he
    clear hbad
    go_enter Try.func49, Try.ntmps49
    go_wp2_with (first
      | (go_at_call 28; (with_reducible refine (Hsub.out _ _ _ (h1.below hBa) (one_nums w)).mono ?_); rintro e w2 ⟨A', c', rfl, hs, hB2⟩)
      | (go_at_call 35; (with_reducible refine (ref_bits _ _ _ _ _ hs Hsl.out).mono ?_); rintro e w3 ⟨rfl, rfl⟩; rw [Hs.out]))
    go_ret
    exact ⟨rfl, below_tail hBa hB2⟩
  · have hne : ((e0 : Int) == 0) = false := by rw [beq_eq_false_iff_ne]; omega
    have Hs0 : Hid (sizeN xs = 0) := Lib.hid (by rw [← Hs.out, hbad he]; decide)
    clear he hbad
    go_enter Try.func49, Try.ntmps49
    go_wp2_with (go_at_call 28; (with_reducible refine (Hsub.out _ _ _ (h1.below hBa) (one_nums w)).mono ?_); rintro e w2 ⟨A', c', rfl, hs, hB2⟩)
    go_ret
    rw [Hs0.out]
    exact ⟨rfl, below_tail hBa hB2⟩

set_option maxHeartbeats 400000 in
theorem ref2_need (A1 : Option Addr) (n c1 : Nat) (xs : List Nat) (w : World) (h1 : Nums .u32 w A1 n c1 xs) (lx : Lim xs) :
    Calls Try.prog 20 #[.slice A1 n c1] w fun e w' => e = .returned (.int .i64 (needN xs : Int)) ∧ Below w.heap.size w w' := by
  have hle := sizeN_le xs lx
  have Hs : Hid (((sizeN xs : Int) + 31) / 32 = (needN xs : Int)) := Lib.hid (by unfold needN; omega)
  go_enter Try.func20, Try.ntmps20
  go_wp2_with (go_at_call 49; (with_reducible refine (ref2_bits _ _ _ _ _ h1 lx).mono ?_); rintro e w1 ⟨rfl, hB1⟩)
  go_ret
  exact ⟨by rw [← Hs.out]; rfl, hB1⟩
end Go.Proofs.Ytapnnnciaagbdaa
