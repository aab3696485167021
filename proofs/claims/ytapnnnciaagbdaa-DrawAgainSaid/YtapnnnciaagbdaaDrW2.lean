/- draw: the reference's try. -/
import Derived.Test.YtapnnnciaagbdaaDrPlain
namespace Go.Proofs.Ytapnnnciaagbdaa
open Go.RowKit
set_option linter.unusedVariables false
set_option linter.unusedSimpArgs false

/-- the loop of the reference's 'try' -/
def TryRel (w : World) (k : Nat) (ws : List Nat) (o i : Value) (wr : World) : Prop :=
  ∃ (j : Nat) (A : Option Addr) (cp : Nat), j ≤ ws.length ∧ i = .int .i64 (j : Int) ∧ o = .slice A j cp ∧
    wr.ownsRow w.heap.size 34 1 (.slice A j cp) j (nums .u32 (maskP k ws j)) ∧ Below w.heap.size w wr

set_option maxHeartbeats 1000000 in
theorem ref2_try (A1 : Option Addr) (n c1 : Nat) (ws : List Nat) (k : Nat) (w : World) (h1 : Nums .u32 w A1 n c1 ws) (lw : Lim ws)
    (h0 : 0 < ws.length) (hk1 : 32 * (ws.length - 1) < k) (hk2 : k ≤ 32 * ws.length) (hn : ws.length ≤ 40) :
    Calls Try.prog 48 #[.int .i64 (k : Int), .slice A1 n c1] w (RetLimbs w (oneOf k ws)) := by
  obtain rfl := h1.len
  have Hone := Lib.hid (oneOf_mask k ws lw h0 hk1 hk2)
  go_enter Try.func48, Try.ntmps48
  go_wp2
  go_loopw [5, 6] (TryRel w k ws) (fun _ i _ => ws.length - (intOf i).toNat)
  case atStart => exact ⟨0, none, 0, Nat.zero_le _, rfl, rfl, World.ownsRow_nil _ _ _ _, Below.refl _ _⟩
  case round =>
    obtain ⟨j, A, cp, hj, rfl, rfl, hown, hbel⟩ := hrel
    have hbs := hbel.size
    by_cases hlt : j < ws.length
    · obtain ⟨b1, o1, y, rfl, hb1, Hy, hc1⟩ := (h1.below hbel).get (j := j) hlt
      have hyl := lw.of_get Hy.out
      by_cases hm : k < 32 * j + 32
      · obtain ⟨r, hr⟩ : ∃ r, r = k - 32 * j := ⟨_, rfl⟩
        have hkr : (k : Int) - 32 * (j : Int) = (r : Int) := by omega
        have hr32 : r < 32 := by omega
        have hra : (r : Int) ≤ (k : Int) - 32 * (j : Int) := by omega
        have hrb : (k : Int) - 32 * (j : Int) ≤ (r : Int) := by omega
        have Hr := Lib.hid hr
        clear hr hkr
        go_wp2
        go_loop [9, 10] (fun o t => ∃ q : Nat, q ≤ r ∧ t = .int .i64 (q : Int) ∧ o = .int .u64 ((2 ^ q : Nat) : Int)) (fun _ t => r - (intOf t).toNat)
        case atStart => exact ⟨0, Nat.zero_le _, rfl, rfl⟩
        case round =>
          obtain ⟨q, hq, rfl, rfl⟩ := hrel
          have hp32 : 2 ^ q ≤ 4294967296 := by
            have := Nat.pow_le_pow_right (n := 2) (by decide) (show q ≤ 32 by omega)
            simpa using this
          have hpos : 0 < 2 ^ q := Nat.two_pow_pos q
          have Hpw : Hid ((2 : Nat) ^ (q + 1) = 2 * 2 ^ q) := Lib.hid (by rw [Nat.pow_succ, Nat.mul_comm])
          generalize hpw : (2 : Nat) ^ q = pw at *
          have Hpw0 := Lib.hid hpw
          clear hpw
          by_cases hq2 : q < r
          · go_wp2
            go_round
            case rel => exact ⟨q + 1, by omega, by go_num, by rw [Hpw.out]; go_num⟩
            case measure => simp [intOf]; omega
          · have hqr : q = r := by omega
            have hmod : (y : Int) % (pw : Int) = ((y % pw : Nat) : Int) := by simp
            have hpz : ((pw : Int) == 0) = false := by rw [beq_eq_false_iff_ne]; omega
            have hyl2 : y % pw < 4294967296 := Nat.lt_of_le_of_lt (Nat.mod_le _ _) hyl
            have Hst : Hid (maskP k ws (j + 1) = maskP k ws j ++ [y % pw]) := Lib.hid (by
              rw [maskP, if_pos hm, getD_of_get Hy.out, ← Hr.out, ← hqr, Hpw0.out])
            generalize y % pw = m at *
            clear hqr
            go_wp2_with (at_builtin; refine wpl_append1 (w := wr) rfl _ _ 23 rfl w.heap.size 34 (.int .u32 0) 4 Try.underlying23 Try.info34 rfl _ j _ _ rfl hown (.int .u32 ((m : Int))) rfl rfl (by omega) (by omega) (by omega) ?_; intro A4 c4 w2 ho hg)
            go_roundw
            case rel => exact ⟨j + 1, A4, c4, by omega, by go_num, rfl, by rw [Hst.out, nums_snoc]; exact ho, below_append hbel hg hown hbs⟩
            case measure => simp [intOf]; omega
      · have Hst : Hid (maskP k ws (j + 1) = maskP k ws j ++ [y]) := Lib.hid (by rw [maskP, if_neg hm, getD_of_get Hy.out])
        go_wp2_with (at_builtin; refine wpl_append1 (w := wr) rfl _ _ 23 rfl w.heap.size 34 (.int .u32 0) 4 Try.underlying23 Try.info34 rfl _ j _ _ rfl hown (.int .u32 ((y : Int))) rfl rfl (by omega) (by omega) (by omega) ?_; intro A4 c4 w2 ho hg)
        go_roundw
        case rel => exact ⟨j + 1, A4, c4, by omega, by go_num, rfl, by rw [Hst.out, nums_snoc]; exact ho, below_append hbel hg hown hbs⟩
        case measure => simp [intOf]; omega
    · obtain rfl : j = ws.length := by omega
      have h : Nums .u32 wr A ws.length cp (maskP k ws ws.length) := own_sl hown
      have hcap := h.cap
      clear hown
      generalize hxs : maskP k ws ws.length = xs at *
      have hl := h.len
      clear hxs
      go_wp2
      go_loop [5] (fun v => ∃ q : Nat, q ≤ ws.length ∧ v = .slice A q cp ∧ neatL xs = neatL (xs.take q)) (fun v => lenOf v)
      case atStart => exact ⟨ws.length, Nat.le_refl _, rfl, by rw [List.take_of_length_le (by omega)]⟩
      case round =>
        obtain ⟨q, hq, rfl, hrel⟩ := hrel
        have Hrel := Lib.hid hrel
        clear hrel
        by_cases hlt2 : 0 < q
        · obtain ⟨b, off, x, rfl, hb, Hx, hc⟩ := h.get (j := q - 1) (by omega)
          by_cases hx0 : x = 0
          · subst hx0
            go_wp2
            go_round
            case rel =>
              refine ⟨q - 1, by omega, by go_num, ?_⟩
              rw [Hrel.out]
              have := neatL_step xs (q - 1) (by omega) (by simp [Hx.out])
              rw [← this, show q - 1 + 1 = q from by omega]
            case measure => simp [lenOf]; omega
          · have ht : ((x : Int) == 0) = false := by simp [hx0]
            have hfin := neatL_stop xs (q - 1) (by omega) (by simpa [Hx.out] using hx0)
            rw [show q - 1 + 1 = q from by omega, ← Hrel.out] at hfin
            have hfin2 : (neatL xs).length = q := by rw [hfin]; simp; omega
            have Hf := Lib.hid hfin
            have Hf2 := Lib.hid hfin2
            clear hfin hfin2
            go_wp2
            go_ret
            rw [← Hone.out]
            refine ⟨some ⟨b, off, none⟩, cp, by rw [Hf2.out]; rfl, ?_, hbel⟩
            rw [Hf2.out, Hf.out]
            exact h.take q cp hq (by omega) (by omega)
        · have hfin : neatL xs = [] := by rw [Hrel.out, show q = 0 from by omega]; simp [neatL]
          have Hf := Lib.hid hfin
          clear hfin
          obtain rfl : q = 0 := by omega
          go_wp2
          go_ret
          rw [← Hone.out, Hf.out]
          exact ⟨_, _, rfl, Nums.nil _ _ _ _ (by omega), hbel⟩
end Go.Proofs.Ytapnnnciaagbdaa
