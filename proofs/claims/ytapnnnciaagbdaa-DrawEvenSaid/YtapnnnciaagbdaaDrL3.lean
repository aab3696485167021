/- draw: the law DrawEven, walked. -/
import Derived.Test.YtapnnnciaagbdaaDrL1
namespace Go.Proofs.Ytapnnnciaagbdaa
open Go.RowKit
set_option linter.unusedVariables false
set_option linter.unusedSimpArgs false

theorem u16_nat {a : Int} (h : (Lit.int .u16 a).wf = true) : ∃ n : Nat, a = (n : Int) ∧ n < 65536 := by
  obtain ⟨h0, h1⟩ := bounds_u16 h
  exact ⟨a.toNat, by omega, by omega⟩

theorem lim_one (w : Nat) (h : w < 4294967296) : Lim [w] := Lim.mk h Lim.nil

/-- one word below a bound -/
theorem even_below (A1 : Option Addr) (c1 n : Nat) (w : World) (h1 : Nums .u32 w A1 (limbs n).length c1 (limbs n)) (K k : Nat) (h2 : 2 ≤ n) (hn : n ≤ 600) (hK : 2 ^ K < 2 * n) (hK2 : n ≤ 2 ^ K) (hw : k < 2 ^ K) :
    Calls Try.prog 16 #[.slice A1 (limbs n).length c1, .slice (some ⟨w.heap.size, 0, none⟩) 1 1] (w.alloc (.cells #[.int .u32 (k : Int)] 34)) fun e w' =>
      ∃ A c, e = .returned (.tuple #[.slice A (if k < n then limbs k else []).length c, .int .i64 (if k < n then 1 else 0), .int .i64 (if k < n then 0 else 12)]) ∧ Nums .u32 w' A (if k < n then limbs k else []).length c (if k < n then limbs k else []) ∧ Below w.heap.size w w' := by
  have hk : k < 4294967296 := by omega
  have h := draw_out (draw_below A1 _ c1 (limbs n) _ 1 1 [k] _ (h1.below ((Below.refl _ _).alloc (Nat.le_refl _) _)) (lit_nums w 34 [k] 1 #[.int .u32 (k : Int)] rfl rfl (by decide)) (limbs_lim n) (lim_one k hk))
  rw [below_even n K k h2 hn hK hK2 hw] at h
  refine h.mono ?_
  rintro e w' ⟨A, c, rfl, hz, hB⟩
  have hb := ((Below.refl w.heap.size w).alloc (Nat.le_refl _) _).trans (hB.mono (by simp))
  by_cases hlt : k < n
  · simp only [if_pos hlt] at hz ⊢
    exact ⟨A, c, rfl, hz, hb⟩
  · simp only [if_neg hlt] at hz ⊢
    exact ⟨A, c, rfl, hz, hb⟩

set_option maxHeartbeats 1000000 in
theorem drawEven_walk (a0 : Int) (W : World) (w0 : (Lit.int .u16 a0).wf = true) :
    Calls Try.prog 5 #[.int .u16 a0] W fun e w' => e = .returned (.bool true) ∧ Below W.heap.size W w' := by
  obtain ⟨a, rfl, ha⟩ := u16_nat w0
  clear w0
  obtain ⟨n, hn⟩ : ∃ n, a % 600 + 1 = n := ⟨_, rfl⟩
  have h1 : 1 ≤ n := by omega
  have h2 : n ≤ 600 := by omega
  have hni : (a : Int) % 600 + 1 = (n : Int) := by omega
  clear hn
  go_enter Try.func5, Try.ntmps5
  go_wp2_with (go_at_call 15; (with_reducible refine (alive02 _).mono ?_); rintro e w1 ⟨rfl, hB⟩)
  go_loop [4] (fun o => ∃ K p : Nat, o = .int .u32 (p : Int) ∧ Hid (p = 2 ^ K) ∧ p < 2 * n ∧ 0 < p) (fun o => 2 * n - (intOf o).toNat)
  case atStart => exact ⟨0, 1, rfl, Lib.hid rfl, by omega, by omega⟩
  case round =>
    obtain ⟨K, p, rfl, Hp, hp, hp0⟩ := hrel
    by_cases hlt : p < n
    · go_wp2
      go_round
      case rel => exact ⟨K + 1, 2 * p, by go_num, Lib.hid (by rw [Nat.pow_succ, Hp.out, Nat.mul_comm]), by omega, by omega⟩
      case measure => simp [intOf]; omega
    · by_cases hn1 : n = 1
      · subst hn1
        go_wp2
        go_ret
        exact ⟨rfl, hB⟩
      · have hne : ((n : Int) == 1) = false := by rw [beq_eq_false_iff_ne]; omega
        have hn2 : 2 ≤ n := by omega
        clear hn1
        go_wp2
        go_loopw [5] (fun i wr => ∃ k : Nat, k ≤ p ∧ i = .int .u32 (k : Int) ∧ Below W.heap.size W wr) (fun i _ => p - (intOf i).toNat)
        case atStart => exact ⟨0, Nat.zero_le _, rfl, hB⟩
        case round =>
          clear hB
          obtain ⟨k, hk, rfl, hB⟩ := hrel
          by_cases hkp : k < p
          · go_wp2_with fail
            refine (ref_of n wr (by omega)).mono ?_
            rintro e w2 ⟨A2, c2, rfl, h2x, hb⟩
            replace hB := below_tail hB hb
            clear hb
            go_wp2_with fail
            have hc := even_below A2 c2 n w2 h2x K k hn2 h2 (by rw [← Hp.out]; exact hp) (by rw [← Hp.out]; omega) (by rw [← Hp.out]; exact hkp)
            by_cases hkn : k < n
            · simp only [if_pos hkn] at hc
              (with_reducible refine hc.mono ?_)
              rintro e w3 ⟨A3, c3, rfl, h3, hb⟩
              clear hc
              replace hB := below_tail hB hb
              clear hb
              go_wp2_with fail
              refine (ref_of k w3 (by omega)).mono ?_
              rintro e w4 ⟨A4, c4, rfl, h4, hb⟩
              replace hB := below_tail hB hb
              replace h3 := h3.below hb
              clear hb
              go_wp2_with fail
              have hc := same_yes _ _ _ (limbs k) _ _ _ w4 h3 h4
              (with_reducible refine hc.mono ?_)
              rintro e w5 ⟨rfl, hS⟩
              clear hc
              replace hB := hB.trans (hS.below _)
              go_wp2_with fail
              go_roundw
              case rel => exact ⟨k + 1, by omega, by go_num, hB⟩
              case measure => simp [intOf]; omega
            · simp only [if_neg hkn] at hc
              (with_reducible refine hc.mono ?_)
              rintro e w3 ⟨A3, c3, rfl, h3, hb⟩
              clear hc
              replace hB := below_tail hB hb
              clear hb
              have hkn' : n ≤ k := by omega
              go_wp2_with fail
              go_roundw
              case rel => exact ⟨k + 1, by omega, by go_num, hB⟩
              case measure => simp [intOf]; omega
          · go_wp2
            go_ret
            exact ⟨rfl, hB⟩
end Go.Proofs.Ytapnnnciaagbdaa
