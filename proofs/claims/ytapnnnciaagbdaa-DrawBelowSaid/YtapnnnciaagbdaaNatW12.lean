/- Walks: the reference's below, less. -/
import Derived.Test.YtapnnnciaagbdaaNatW11
import Derived.Test.YtapnnnciaagbdaaNatR3
namespace Go.Proofs.Ytapnnnciaagbdaa
open Go.RowKit
set_option linter.unusedVariables false
set_option linter.unusedSimpArgs false

set_option maxHeartbeats 1000000 in
theorem ref_below (A1 : Option Addr) (n c1 : Nat) (xs : List Nat) (A2 : Option Addr) (m c2 : Nat) (ys : List Nat) (w : World)
    (h1 : Nums .u32 w A1 n c1 xs) (h2 : Nums .u32 w A2 m c2 ys) (lx : Lim xs) (ly : Lim ys) (hn33 : xs.length ≤ 33) (hm33 : ys.length ≤ 33) :
    Calls Try.prog 65 #[.slice A1 n c1, .slice A2 m c2] w fun e w' => e = .returned (.bool (decide (cmpI (val xs) (val ys) = -1))) ∧ w = w' := by
  go_enter Try.func65, Try.ntmps65
  go_wp2
  go_loop [5] (fun i => ∃ k : Nat, k ≤ 33 ∧ i = .int .i64 ((k : Int) - 1) ∧ cmpI (val xs) (val ys) = cmpI (val (xs.take k)) (val (ys.take k))) (fun i => (intOf i + 1).toNat)
  case atStart => exact ⟨33, Nat.le_refl _, rfl, by rw [List.take_of_length_le hn33, List.take_of_length_le hm33]⟩
  case round =>
    obtain ⟨k, hk, rfl, hrel⟩ := hrel
    have Hrel := Lib.hid hrel
    clear hrel
    by_cases hlt : 0 < k
    · have hst := cmpI_step xs ys lx ly (k - 1)
      rw [show k - 1 + 1 = k from by omega, ← Hrel.out] at hst
      have Hst := Lib.hid hst
      clear hst
      have e1 : ((k : Int) - 1) = ((k - 1 : Nat) : Int) := by omega
      rw [e1]
      generalize hj : k - 1 = j at *
      have Hj := Lib.hid hj
      have hj32 : j < 33 := by omega
      clear hj e1
      obtain ⟨x, Hx⟩ : ∃ x, Hid (xs.getD j 0 = x) := ⟨_, Lib.hid rfl⟩
      obtain ⟨y, Hy⟩ : ∃ y, Hid (ys.getD j 0 = y) := ⟨_, Lib.hid rfl⟩
      have hl1 := ref_limb A1 n c1 xs j w h1 lx
      have hl2 := ref_limb A2 m c2 ys j w h2 ly
      rw [Hx.out] at hl1
      rw [Hy.out] at hl2
      have hst := Hst.out
      rw [Hx.out, Hy.out] at hst
      have Hl1 := Lib.hid hl1
      have Hl2 := Lib.hid hl2
      have Hst2 := Lib.hid hst
      clear hl1 hl2 hst Hst
      by_cases hxy : x < y
      · have hne : ((x : Int) == (y : Int)) = false := by rw [beq_eq_false_iff_ne]; omega
        have hfin : decide (cmpI (val xs) (val ys) = -1) = true := by rw [Hst2.out, if_pos hxy]; rfl
        have Hfin := Lib.hid hfin
        clear hfin
        go_wp2_with (first
          | (go_at_call 50; (with_reducible refine Hl1.out.mono ?_); rintro e w' ⟨rfl, rfl⟩)
          | (go_at_call 50; (with_reducible refine Hl2.out.mono ?_); rintro e w' ⟨rfl, rfl⟩))
        go_ret
        rw [Hfin.out]
        exact ⟨by simp, rfl⟩
      · by_cases hyx : y < x
        · have hne : ((x : Int) == (y : Int)) = false := by rw [beq_eq_false_iff_ne]; omega
          have hfin : decide (cmpI (val xs) (val ys) = -1) = false := by rw [Hst2.out, if_neg hxy, if_pos hyx]; rfl
          have Hfin := Lib.hid hfin
          clear hfin
          go_wp2_with (first
            | (go_at_call 50; (with_reducible refine Hl1.out.mono ?_); rintro e w' ⟨rfl, rfl⟩)
            | (go_at_call 50; (with_reducible refine Hl2.out.mono ?_); rintro e w' ⟨rfl, rfl⟩))
          go_ret
          rw [Hfin.out]
          exact ⟨by simp, rfl⟩
        · obtain rfl : x = y := by omega
          go_wp2_with (first
            | (go_at_call 50; (with_reducible refine Hl1.out.mono ?_); rintro e w' ⟨rfl, rfl⟩)
            | (go_at_call 50; (with_reducible refine Hl2.out.mono ?_); rintro e w' ⟨rfl, rfl⟩))
          go_round
          case rel => exact ⟨j, by have := Hj.out; omega, rfl, by rw [Hst2.out, if_neg hxy, if_neg hyx]⟩
          case measure => simp [intOf] <;> omega
    · obtain rfl : k = 0 := by omega
      have hfin : decide (cmpI (val xs) (val ys) = -1) = false := by rw [Hrel.out]; simp [cmpI, val]
      have Hf := Lib.hid hfin
      clear hfin
      go_wp2
      go_ret
      rw [Hf.out]
      exact ⟨rfl, rfl⟩

/-- the loop of the reference's 'less' -/
def RLessRel (w : World) (xs ys : List Nat) (o c i : Value) (wr : World) : Prop :=
  ∃ (k : Nat) (A : Option Addr) (cp : Nat), k ≤ 33 ∧ i = .int .i64 (k : Int) ∧ c = .int .u64 ((subP xs ys k).2 : Int) ∧ o = .slice A k cp ∧
    wr.ownsRow w.heap.size 34 1 (.slice A k cp) k (nums .u32 (subP xs ys k).1) ∧ Below w.heap.size w wr

set_option maxHeartbeats 1000000 in
theorem ref_less (A1 : Option Addr) (n c1 : Nat) (xs : List Nat) (A2 : Option Addr) (m c2 : Nat) (ys : List Nat) (w : World)
    (h1 : Nums .u32 w A1 n c1 xs) (h2 : Nums .u32 w A2 m c2 ys) (lx : Lim xs) (ly : Lim ys) (hn33 : xs.length ≤ 33) (hm33 : ys.length ≤ 33) (hge : val ys ≤ val xs) :
    Calls Try.prog 66 #[.slice A1 n c1, .slice A2 m c2] w (RetLimbs w (limbs (val xs - val ys))) := by
  go_enter Try.func66, Try.ntmps66
  go_wp2
  go_loopw [5, 6, 7] (RLessRel w xs ys) (fun _ _ i _ => (33 - intOf i).toNat)
  case atStart => exact ⟨0, none, 0, Nat.zero_le _, rfl, rfl, rfl, World.ownsRow_nil _ _ _ _, Below.refl _ _⟩
  case round =>
    obtain ⟨k, A, cp, hk, rfl, rfl, rfl, hown, hbel⟩ := hrel
    have hbor := subP_borrow xs ys k
    have hbs := hbel.size
    by_cases hlt : k < 33
    · have hxl := lx.getD k
      have hyl := ly.getD k
      obtain ⟨x, Hx⟩ : ∃ x, Hid (xs.getD k 0 = x) := ⟨_, Lib.hid rfl⟩
      obtain ⟨y, Hy⟩ : ∃ y, Hid (ys.getD k 0 = y) := ⟨_, Lib.hid rfl⟩
      have hl1 := ref_limb A1 n c1 xs k wr (h1.below hbel) lx
      have hl2 := ref_limb A2 m c2 ys k wr (h2.below hbel) ly
      rw [Hx.out] at hl1 hxl
      rw [Hy.out] at hl2 hyl
      have Hl1 := Lib.hid hl1
      have Hl2 := Lib.hid hl2
      have Hsub : Hid (4294967296 + (x : Int) - (y : Int) - ((subP xs ys k).2 : Int) = ((4294967296 + x - y - (subP xs ys k).2 : Nat) : Int)) := Lib.hid (by omega)
      clear hl1 hl2
      go_wp2_with (first
        | (go_at_call 50; (with_reducible refine Hl1.out.mono ?_); rintro e w' ⟨rfl, rfl⟩)
        | (go_at_call 50; (with_reducible refine Hl2.out.mono ?_); rintro e w' ⟨rfl, rfl⟩)
        | (at_builtin; refine wpl_append1 (w := wr) rfl _ _ 23 rfl w.heap.size 34 (.int .u32 0) 4 Try.underlying23 Try.info34 rfl _ k _ _ rfl hown (.int .u32 ((4294967296 + (x : Int) - (y : Int) - ((subP xs ys k).2 : Int)) % 4294967296)) rfl rfl (by omega) (by omega) (by omega) ?_; intro A4 c4 w2 ho hg))
      go_roundw
      case rel =>
        refine ⟨k + 1, A4, c4, by omega, by go_num, ?_, rfl, ?_, below_append hbel hg hown hbs⟩
        · simp only [subP, Hx.out, Hy.out]; rw [Hsub.out]; go_num
        · rw [Hsub.out] at ho
          simp only [subP, Hx.out, Hy.out, nums_snoc]
          simpa using ho
      case measure => simp [intOf]; omega
    · obtain rfl : k = 33 := by omega
      have hval := subP_eq xs ys lx ly 33 hn33 hm33 hge
      have hnums : Nums .u32 wr A 33 cp (subP xs ys 33).1 := own_sl hown
      have Hfin := Lib.hid (neatL_limbs _ (subP_lim xs ys 33))
      rw [hval] at Hfin
      clear hval
      go_wp2_with (go_at_call 51; (with_reducible refine (ref_neat _ _ _ _ _ hnums).mono ?_); rintro e w' ⟨rfl, hN, rfl⟩)
      go_ret
      rw [Hfin.out] at hN ⊢
      exact ⟨_, _, rfl, hN, hbel⟩
end Go.Proofs.Ytapnnnciaagbdaa
