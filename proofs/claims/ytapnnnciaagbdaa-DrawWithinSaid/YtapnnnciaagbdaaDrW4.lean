/- draw: the reference's Below. -/
import Derived.Test.YtapnnnciaagbdaaDrW3
import Derived.Deep.RegionWith
namespace Go.Proofs.Ytapnnnciaagbdaa
open Go.RowKit
set_option linter.unusedVariables false
set_option linter.unusedSimpArgs false

/-- a number, how many words, and an error's number come back -/
@[irreducible] def RetDraw (w : World) (p : List Nat × Nat × Nat) (e : Ending) (w' : World) : Prop :=
  ∃ A c, e = .returned (.tuple #[.slice A p.1.length c, .int .i64 (p.2.1 : Int), .int .i64 (p.2.2 : Int)]) ∧ Nums .u32 w' A p.1.length c p.1 ∧ Below w.heap.size w w'

theorem one_big (k t : Nat) (hk : k ≤ 1024) : t % 2 ^ k < big := by
  have h1 := Nat.mod_lt t (Nat.two_pow_pos k)
  have h2 := Nat.pow_le_pow_right (n := 2) (by decide) (show k ≤ 1023 + 1 by omega)
  rw [← big_eq2] at h2
  exact Nat.lt_of_lt_of_le h1 h2
theorem one_cmp (xs : List Nat) (r : rightB xs = true) (t : Nat) (ht : t < big) : decide (cmpN (limbs t) xs < 0) = decide (t < val xs) := by
  rw [decide_eq_decide]
  simp only [cmpN, r, right_of_limbs t ht, Bool.and_self, if_true, val_limbs, cmpI]
  split
  · simp [*]
  · split <;> simp [*]

/-- the loop of the reference's 'Below' -/
def RBelRel (w : World) (ws : List Nat) (v k n : Nat) (p : List Nat × Nat × Nat) (i : Value) (wr : World) : Prop :=
  ∃ a f : Nat, a ≤ ws.length ∧ ws.length - a < f ∧ i = .int .i64 (a : Int) ∧ Below w.heap.size w wr ∧ Hid (drawF v k n f a (ws.drop a) = p)

set_option maxHeartbeats 1000000 in
theorem ref2_below (A1 : Option Addr) (n c1 : Nat) (xs : List Nat) (A2 : Option Addr) (m c2 : Nat) (ws : List Nat) (w : World)
    (h1 : Nums .u32 w A1 n c1 xs) (h2 : Nums .u32 w A2 m c2 ws) (lx : Lim xs) (lw : Lim ws) :
    Calls Try.prog 17 #[.slice A1 n c1, .slice A2 m c2] w (RetDraw w (belowN xs ws)) := by
  obtain rfl := h1.len
  obtain rfl := h2.len
  by_cases r1 : rightB xs = true
  case neg =>
    have r1' : rightB xs = false := by simpa using r1
    have hfin : belowN xs ws = ([], 0, 1) := by simp [belowN, r1']
    rw [hfin]
    clear hfin r1
    go_enter Try.func17, Try.ntmps17
    go_wp2_with (go_at_call 31; (with_reducible refine (ref_right _ _ _ _ _ h1).mono ?_); rintro e w' ⟨rfl, rfl⟩)
    go_ret3
    unfold RetDraw
    exact ⟨none, 0, rfl, Nums.nil _ _ _ _ (by simp), Below.refl _ _⟩
  by_cases hx0 : xs.length = 0
  · have hfin : belowN xs ws = ([], 0, 1) := by simp [belowN, hx0]
    rw [hfin]
    have hxi : ((xs.length : Int) == 0) = true := by simp [hx0]
    clear hfin hx0
    go_enter Try.func17, Try.ntmps17
    go_wp2_with (go_at_call 31; (with_reducible refine (ref_right _ _ _ _ _ h1).mono ?_); rintro e w' ⟨rfl, rfl⟩)
    go_ret3
    unfold RetDraw
    exact ⟨none, 0, rfl, Nums.nil _ _ _ _ (by simp), Below.refl _ _⟩
  have hxi : ((xs.length : Int) == 0) = false := by rw [beq_eq_false_iff_ne]; omega
  by_cases hw : 1000 < ws.length
  · have hfin : belowN xs ws = ([], 0, 5) := by simp [belowN, r1, hx0, hw]
    rw [hfin]
    clear hfin
    go_enter Try.func17, Try.ntmps17
    go_wp2_with (go_at_call 31; (with_reducible refine (ref_right _ _ _ _ _ h1).mono ?_); rintro e w' ⟨rfl, rfl⟩)
    go_ret3
    unfold RetDraw
    exact ⟨none, 0, rfl, Nums.nil _ _ _ _ (by simp), Below.refl _ _⟩
  by_cases hn0 : needN xs = 0
  · have hfin : belowN xs ws = ([], 0, 0) := by simp [belowN, r1, hx0, hw, hn0]
    rw [hfin]
    have hni : ((needN xs : Int) == 0) = true := by simp [hn0]
    clear hfin hn0
    go_enter Try.func17, Try.ntmps17
    go_wp2_with (first
      | (go_at_call 31; (with_reducible refine (ref_right _ _ _ _ _ h1).mono ?_); rintro e w' ⟨rfl, rfl⟩)
      | (go_at_call 20; (with_reducible refine (ref2_need _ _ _ _ _ h1 lx).mono ?_); rintro e w1 ⟨rfl, hB1⟩))
    go_ret3
    unfold RetDraw
    exact ⟨none, 0, rfl, Nums.nil _ _ _ _ (by simp), hB1⟩
  have hni : ((needN xs : Int) == 0) = false := by rw [beq_eq_false_iff_ne]; omega
  have hfin : belowN xs ws = drawF (val xs) (sizeN xs) (needN xs) (ws.length + 1) 0 ws := by simp [belowN, r1, hx0, hw, hn0]
  have hsz := sizeN_le xs lx
  have hnb := need_bits xs hn0
  have hnl : needN xs ≤ 32 := by omega
  obtain ⟨N, HN⟩ : ∃ N, Hid (needN xs = N) := ⟨_, Lib.hid rfl⟩
  obtain ⟨K, HK⟩ : ∃ K, Hid (sizeN xs = K) := ⟨_, Lib.hid rfl⟩
  rw [HN.out, HK.out] at hfin
  rw [HN.out] at hni hn0 hnl
  rw [HK.out] at hsz
  rw [HN.out, HK.out] at hnb
  have Hfin := Lib.hid hfin
  generalize belowN xs ws = p at *
  clear hfin
  go_enter Try.func17, Try.ntmps17
  go_wp2_with (first
    | (go_at_call 31; (with_reducible refine (ref_right _ _ _ _ _ h1).mono ?_); rintro e w' ⟨rfl, rfl⟩)
    | (go_at_call 20; (with_reducible refine (ref2_need _ _ _ _ _ h1 lx).mono ?_); rintro e w1 ⟨rfl, hB1⟩; rw [HN.out]))
  go_loopw [8] (RBelRel w ws (val xs) K N p) (fun i _ => ws.length + 1 - (intOf i).toNat)
  case atStart => exact ⟨0, ws.length + 1, Nat.zero_le _, by omega, rfl, hB1, Lib.hid (by rw [List.drop_zero]; exact Hfin.out.symm)⟩
  case round =>
    clear hB1
    obtain ⟨a, f, ha, hf, rfl, hbel, Hd⟩ := hrel
    obtain ⟨f, rfl⟩ : ∃ g, f = g + 1 := ⟨f - 1, by omega⟩
    have hd := Hd.out
    rw [drawF, List.length_drop] at hd
    by_cases hlt : a + N ≤ ws.length
    · rw [if_pos (by omega)] at hd
      obtain ⟨b2, o2, y, rfl, hb2, Hy, hc2⟩ := (h2.below hbel).get (j := a) (by omega)
      have hpart := (h2.below hbel).part a N (c2 - a) (by omega) (by have := h2.cap; omega) (by have := h2.cap; omega)
      have hpl : ((ws.drop a).take N).length = N := by rw [List.length_take, List.length_drop]; omega
      have lp : Lim ((ws.drop a).take N) := (lw.drop a).take N
      obtain ⟨ps, Hps⟩ : ∃ ps, Hid ((ws.drop a).take N = ps) := ⟨_, Lib.hid rfl⟩
      rw [Hps.out] at hd hpart hpl lp
      have h1k : K ≤ 1024 := hsz
      have Hone : Hid (oneOf K ps = limbs (val ps % 2 ^ K)) := Lib.hid rfl
      have hbt := one_big K (val ps) h1k
      have Hcm := Lib.hid (one_cmp xs r1 _ hbt)
      rw [List.drop_drop] at hd
      obtain ⟨t, Ht⟩ : ∃ t, Hid (val ps % 2 ^ K = t) := ⟨_, Lib.hid rfl⟩
      rw [Ht.out] at hd Hone Hcm
      obtain ⟨cv, Hcv⟩ : ∃ cv, Hid (cmpN (limbs t) xs = cv) := ⟨_, Lib.hid rfl⟩
      rw [Hcv.out] at Hcm
      have hcm := Hcm.out
      rw [decide_eq_decide] at hcm
      have Hd2 := Lib.hid hd
      have Hlt := Lib.hid (limbs_lim t)
      clear hbt Hcm
      clear hc2 hb2
      have e1 : IntKind.i64.wrap ((a : Int) + (N : Int)) = (a : Int) + (N : Int) := i64w (by omega) (by omega)
      have j1 : (0 : Int) ≤ (a : Int) := by omega
      have j2 : (0 : Int) ≤ (a : Int) + (N : Int) := by omega
      have j3 : (a : Int) ≤ (a : Int) + (N : Int) := by omega
      have j4 : (a : Int) + (N : Int) ≤ (c2 : Int) := by have := h2.cap; omega
      have j5 : ((a : Int) + (N : Int)).toNat = a + N := by omega
      have j6 : a + N - a = N := by omega
      go_wp2
      go_region_with (first
        | (go_at_call 49; (with_reducible refine (ref2_bits _ _ _ _ _ (h1.below hbel).drew lx).mono ?_); rintro e w2 ⟨rfl, hB2⟩; rw [HK.out])
        | (go_at_call 48; (with_reducible refine (ref2_try _ _ _ ps K _ (hpart.drew.below hB2) lp (by omega) (by omega) (by omega) (by omega)).mono ?_); rintro e w3 ⟨A3, c3, rfl, hx, hB3⟩; rw [Hone.out] at hx ⊢))
      have hB4 : Below w.heap.size w w3 := hbel.drew.trans ((below_tail hB2 hB3).mono hbel.size)
      have h1x := h1.below hB4
      clear hB2 hB3 hpart
      by_cases hts : t < val xs
      · have hneg : cv < 0 := hcm.2 hts
        rw [if_pos hts] at hd
        clear hcm
        have Hd3 := Lib.hid hd
        clear hd
        go_wp2_with (go_at_call 21; (with_reducible refine (ref_cmp _ _ _ _ _ _ _ _ _ hx h1x Hlt.out lx).mono ?_); rintro e w5 ⟨rfl, hS⟩; rw [Hcv.out])
        go_ret3
        unfold RetDraw
        rw [← Hd3.out]
        exact ⟨_, _, rfl, hx.same hS, hB4.trans (hS.below _)⟩
      · have hneg : 0 ≤ cv := by
          have := mt hcm.1 hts
          omega
        rw [if_neg hts] at hd
        clear hcm
        have Hd3 := Lib.hid hd
        clear hd
        go_wp2_with (go_at_call 21; (with_reducible refine (ref_cmp _ _ _ _ _ _ _ _ _ hx h1x Hlt.out lx).mono ?_); rintro e w5 ⟨rfl, hS⟩; rw [Hcv.out])
        go_roundw
        case rel => exact ⟨a + N, f, hlt, by omega, by go_num, hB4.trans (hS.below _), Lib.hid Hd3.out⟩
        case measure => simp [intOf]; omega
    · rw [if_neg (by omega)] at hd
      have Hd2 := Lib.hid hd
      clear hd
      go_wp2
      go_ret3
      unfold RetDraw
      rw [← Hd2.out]
      exact ⟨none, 0, rfl, Nums.nil _ _ _ _ (by simp), hbel⟩
end Go.Proofs.Ytapnnnciaagbdaa
