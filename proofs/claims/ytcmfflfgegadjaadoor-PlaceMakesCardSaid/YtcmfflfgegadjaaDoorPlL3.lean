/- place: the law of the steps, walked. -/
import Derived.Test.YtcmfflfgegadjaaDoorPlL2
namespace Go.Proofs.YtcmfflfgegadjaaDoor
open Go.RowKit
set_option linter.unusedVariables false
set_option linter.unusedSimpArgs false

theorem u16_nat {a : Int} (h : (Lit.int .u16 a).wf = true) : ∃ n : Nat, a = (n : Int) ∧ n < 65536 := by
  obtain ⟨h0, h1⟩ := Go.bounds_u16 h
  exact ⟨a.toNat, by omega, by omega⟩

/-- a place of a text, and the one behind it -/
theorem steps_plain2 (bs : List Nat) (x b : Nat) (hx : bs[x]? = some b) (hn : bs.length ≤ 2000) (u v : Nat) (he : atP bs (x : Int) = .complex .f64 u v) :
    (∀ w, Calls Tryd.prog 11 #[.complex .f64 u v] w fun e w' => e = .returned (.bool true) ∧ w = w') ∧
    ∃ s t, (∀ w, Calls Tryd.prog 12 #[.complex .f64 u v, .int .u8 (b : Int)] w fun e w' => e = .returned (.complex .f64 s t) ∧ w = w') ∧
      atP bs ((x : Int) + 1) = .complex .f64 s t ∧ FloatKind.f64.format.order s s = some .eq ∧ FloatKind.f64.format.order t t = some .eq := by
  have hlt : x < bs.length := by
    rcases Nat.lt_or_ge x bs.length with h | h
    · exact h
    · rw [List.getElem?_eq_none h] at hx; cases hx
  have e1 : atP bs (x : Int) = PV (atN (bs.take x)).1 (atN (bs.take x)).2 := by unfold atP; rw [if_pos (by omega), Int.toNat_natCast]
  have e2 : atP bs ((x : Int) + 1) = PV (atN (bs.take (x + 1))).1 (atN (bs.take (x + 1))).2 := by
    unfold atP; rw [if_pos (by omega), show ((x : Int) + 1).toNat = x + 1 from by omega]
  obtain ⟨a1, a2, a3, a4⟩ := atN_bd (bs.take x)
  obtain ⟨b1, b2, b3, b4⟩ := atN_bd (bs.take (x + 1))
  have l1 : (bs.take x).length ≤ 2000 := by rw [List.length_take]; omega
  have l2 : (bs.take (x + 1)).length ≤ 2000 := by rw [List.length_take]; omega
  rw [he] at e1
  unfold PV at e1
  injection e1 with _ e1 e3
  subst e1; subst e3
  have hok := okP_of a1 (by omega) a3 (by omega)
  have hok2 := okP_of b1 (by omega) b3 (by omega)
  refine ⟨fun w => ?_, ?_⟩
  · have := pl_right (atN (bs.take x)).1 (atN (bs.take x)).2 w (by omega) (by omega)
    rwa [hok] at this
  · obtain ⟨s, t, hs, ho1, ho2⟩ := PV_self (atN (bs.take (x + 1))).1 (atN (bs.take (x + 1))).2 (by omega) (by omega)
    refine ⟨s, t, fun w => ?_, by rw [e2, hs], ho1, ho2⟩
    have hst := pl_step (atN (bs.take x)).1 (atN (bs.take x)).2 b w (by omega) (by omega) hok
    have hnx : atN (bs.take (x + 1)) = stepP ((atN (bs.take x)).1, (atN (bs.take x)).2) b := by
      rw [List.take_add_one, hx]
      exact atN_snoc _ _
    rw [← hnx, keptP_of hok2, hs] at hst
    exact hst

set_option maxHeartbeats 1000000 in
theorem placeSteps_walk (a0 : Option Addr) (len0 cap0 : Nat) (z0 : List Int) (a1 a2 : Int) (W : World) (w0 : IsRow .u8 W a0 len0 cap0 z0) (w1 : (Lit.int .u16 a1).wf = true) (w2 : (Lit.int .u16 a2).wf = true) :
    Calls Tryd.prog 4 #[.slice a0 len0 cap0, .int .u16 a1, .int .u16 a2] W fun e w' => e = .returned (.bool true) ∧ Below W.heap.size W w' := by
  obtain ⟨bs, hb, _⟩ := row_bytes w0
  obtain ⟨i, rfl, hi⟩ := u16_nat w1
  obtain ⟨k, rfl, hk⟩ := u16_nat w2
  clear w0 w1 w2
  obtain rfl := hb.len
  by_cases hlen : bs.length ≤ 2000
  case neg =>
    have hg : (2000 : Int) < (bs.length : Int) := by omega
    go_enter Tryd.func4, Tryd.ntmps4
    go_wp2_with (go_at_call 6; (with_reducible refine (alive06 _).mono ?_); rintro e w1 ⟨rfl, hB⟩)
    go_ret
    exact ⟨rfl, hB⟩
  have hg : ¬ (2000 : Int) < (bs.length : Int) := by omega
  by_cases h0 : bs.length = 0
  · have h0' : ((bs.length : Int) == 0) = true := by rw [beq_iff_eq]; omega
    go_enter Tryd.func4, Tryd.ntmps4
    go_wp2_with (go_at_call 6; (with_reducible refine (alive06 _).mono ?_); rintro e w1 ⟨rfl, hB⟩)
    go_ret
    exact ⟨rfl, hB⟩
  have hpos : 0 < bs.length := by omega
  have h0' : ((bs.length : Int) == 0) = false := by rw [beq_eq_false_iff_ne]; omega
  have hr1 : Int.tmod (i : Int) (bs.length : Int) = ((i % bs.length : Nat) : Int) := by rw [Int.tmod_eq_emod_of_nonneg (by omega)]; omega
  have hr2 : Int.tmod (k : Int) (bs.length : Int) = ((k % bs.length : Nat) : Int) := by rw [Int.tmod_eq_emod_of_nonneg (by omega)]; omega
  have hx : i % bs.length < bs.length := Nat.mod_lt _ hpos
  have hy : k % bs.length < bs.length := Nat.mod_lt _ hpos
  generalize i % bs.length = x at *
  generalize k % bs.length = y at *
  have H0 : Hid (bs.length ≠ 0) := Lib.hid h0
  have Hlen := Lib.hid hlen
  clear h0 hlen hpos
  go_enter Tryd.func4, Tryd.ntmps4
  go_wp2_with (go_at_call 6; (with_reducible refine (alive06 _).mono ?_); rintro e w1 ⟨rfl, hB⟩)
  have hb1 := hb.below hB
  have hneg : decide ((bs.length : Int) < 0) = false := by simp
  go_quiet (fail)
  have hB2 : Below W.heap.size W (w1.drewN nq) := hB.trans (Same.below (show Same w1 (w1.drewN nq) from ⟨nq, rfl⟩) _)
  have hb2 : Nums .u8 (w1.drewN nq) a0 bs.length cap0 bs := hb1
  generalize w1.drewN nq = w2 at *
  obtain ⟨b, off, q, rfl, hbl, Hq, hcell⟩ := hb2.get hx
  obtain ⟨u, v, u2, v2, e1, e2, hbef, heq⟩ := steps_plain bs x y hx hy Hlen.out
  obtain ⟨hrt, s, t, hst, e3, o1, o2⟩ := steps_plain2 bs x q Hq.out Hlen.out u v e1
  have c1 := pl_at (some ⟨b, off, none⟩) bs.length cap0 bs (x : Int) w2 hb2 (Nat.le_trans Hlen.out (by decide))
  have c2 := pl_at (some ⟨b, off, none⟩) bs.length cap0 bs (y : Int) w2 hb2 (Nat.le_trans Hlen.out (by decide))
  have c3 := pl_at (some ⟨b, off, none⟩) bs.length cap0 bs ((x : Int) + 1) w2 hb2 (Nat.le_trans Hlen.out (by decide))
  rw [e1] at c1
  rw [e2] at c2
  rw [e3] at c3
  have c4 := hrt w2
  have c5 := hst w2
  have c6 := hbef w2
  have heql : ∀ w, (binOp .eql 24 (.complex .f64 u v) (.complex .f64 u2 v2)).run Tryd.prog w = .ok (.bool (decide (x = y))) w := fun w => by rw [run_eql_complex, heq]
  have K := Lib.hid heql
  have E1 := Lib.hid e1
  have E2 := Lib.hid e2
  have C1 := Lib.hid c1
  have C2 := Lib.hid c2
  have C3 := Lib.hid c3
  have C4 := Lib.hid c4
  have C5 := Lib.hid c5
  have C6 := Lib.hid c6
  clear c1 c2 c3 c4 c5 c6 e1 e2 e3 hbef heq hrt hst heql hr1 hr2
  rcases Nat.lt_trichotomy x y with h | h | h
  · have d1 : decide (x < y) = true := by simp; omega
    have d2 : decide (x = y) = false := by simp; omega
    have d3 : decide ((x : Int) < (y : Int)) = true := by simp; omega
    have d4 : ((x : Int) == (y : Int)) = false := by rw [beq_eq_false_iff_ne]; omega
    rw [d1] at C6
    rw [d2] at K
    have k1 := K.out
    have h2 : ¬ x = y := by omega
    clear d1 d2
    go_wp2_with (first
      | (with_reducible refine C1.out.mono ?_; rintro e w' ⟨rfl, rfl⟩)
      | (with_reducible refine C2.out.mono ?_; rintro e w' ⟨rfl, rfl⟩)
      | (with_reducible refine C3.out.mono ?_; rintro e w' ⟨rfl, rfl⟩)
      | (with_reducible refine C4.out.mono ?_; rintro e w' ⟨rfl, rfl⟩)
      | (with_reducible refine C5.out.mono ?_; rintro e w' ⟨rfl, rfl⟩)
      | (with_reducible refine C6.out.mono ?_; rintro e w' ⟨rfl, rfl⟩))
    go_ret
    exact ⟨rfl, hB2⟩
  · subst h
    have euv := E1.out.symm.trans E2.out
    injection euv with _ e1 e2
    subst e1; subst e2
    have d1 : decide (x < x) = false := by simp
    have d2 : decide (x = x) = true := by simp
    have d3 : decide ((x : Int) < (x : Int)) = false := by simp
    have d4 : ((x : Int) == (x : Int)) = true := by simp
    rw [d1] at C6
    rw [d2] at K
    have k1 := K.out
    clear d1 d2
    go_wp2_with (first
      | (with_reducible refine C1.out.mono ?_; rintro e w' ⟨rfl, rfl⟩)
      | (with_reducible refine C2.out.mono ?_; rintro e w' ⟨rfl, rfl⟩)
      | (with_reducible refine C3.out.mono ?_; rintro e w' ⟨rfl, rfl⟩)
      | (with_reducible refine C4.out.mono ?_; rintro e w' ⟨rfl, rfl⟩)
      | (with_reducible refine C5.out.mono ?_; rintro e w' ⟨rfl, rfl⟩)
      | (with_reducible refine C6.out.mono ?_; rintro e w' ⟨rfl, rfl⟩))
    go_ret
    exact ⟨by simp, hB2⟩
  · have d1 : decide (x < y) = false := by simp; omega
    have d2 : decide (x = y) = false := by simp; omega
    have d3 : decide ((x : Int) < (y : Int)) = false := by simp; omega
    have d4 : ((x : Int) == (y : Int)) = false := by rw [beq_eq_false_iff_ne]; omega
    rw [d1] at C6
    rw [d2] at K
    have k1 := K.out
    have hxy : ¬ x < y := by omega
    have h2 : ¬ x = y := by omega
    clear d1 d2
    go_wp2_with (first
      | (with_reducible refine C1.out.mono ?_; rintro e w' ⟨rfl, rfl⟩)
      | (with_reducible refine C2.out.mono ?_; rintro e w' ⟨rfl, rfl⟩)
      | (with_reducible refine C3.out.mono ?_; rintro e w' ⟨rfl, rfl⟩)
      | (with_reducible refine C4.out.mono ?_; rintro e w' ⟨rfl, rfl⟩)
      | (with_reducible refine C5.out.mono ?_; rintro e w' ⟨rfl, rfl⟩)
      | (with_reducible refine C6.out.mono ?_; rintro e w' ⟨rfl, rfl⟩))
    go_ret
    exact ⟨by simp [hxy, h2], hB2⟩
end Go.Proofs.YtcmfflfgegadjaaDoor
