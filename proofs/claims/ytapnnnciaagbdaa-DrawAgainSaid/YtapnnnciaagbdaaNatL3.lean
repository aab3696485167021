/- Walks: the law NatSums. -/
import Derived.Test.YtapnnnciaagbdaaNatR1
import Derived.Test.YtapnnnciaagbdaaEntry
namespace Go.Proofs.Ytapnnnciaagbdaa
open Go.RowKit
set_option linter.unusedVariables false
set_option linter.unusedSimpArgs false

theorem beq_list (xs : List Nat) : (xs == xs) = true := by simp

/-- an owned row reads as numbers -/
theorem own_nums {w : World} {base e : Nat} {A : Option Addr} {n c : Nat} {k : IntKind} {xs : List Nat} (h : w.ownsRow base e 1 (.slice A n c) n (nums k xs)) : Nums k w A n c xs := own_sl h

set_option maxHeartbeats 1000000 in
theorem natSums_walk (a0 : Option Addr) (len0 cap0 : Nat) (z0 : List Int) (a1 : Option Addr) (len1 cap1 : Nat) (z1 : List Int) (W : World)
    (w0 : IsRow .u32 W a0 len0 cap0 z0) (w1 : IsRow .u32 W a1 len1 cap1 z1) :
    Calls Try.prog 7 #[.slice a0 len0 cap0, .slice a1 len1 cap1] W fun e w' => e = .returned (.bool true) ∧ Below W.heap.size W w' := by
  obtain ⟨xs, hx, lx⟩ := w0.limbs
  obtain ⟨ys, hy, ly⟩ := w1.limbs
  clear w0 w1
  obtain rfl := hx.len
  obtain rfl := hy.len
  by_cases hl : xs.length ≤ 40 ∧ ys.length ≤ 40
  case neg =>
    have hways : (40 : Int) < (xs.length : Int) ∨ (¬ (40 : Int) < (xs.length : Int) ∧ (40 : Int) < (ys.length : Int)) := by omega
    clear hl
    rcases hways with h1 | ⟨h1, h2⟩
    all_goals
      go_enter Try.func7, Try.ntmps7
      go_wp2_with (go_at_call 23; (with_reducible refine (alive01 _).mono ?_); rintro e w1 ⟨rfl, hb1⟩)
      go_ret
      exact ⟨rfl, hb1⟩
  obtain ⟨hl1, hl2⟩ := hl
  have h1 : ¬ (40 : Int) < (xs.length : Int) := by omega
  have h2 : ¬ (40 : Int) < (ys.length : Int) := by omega
  go_enter Try.func7, Try.ntmps7
  go_wp2_with fail
  have hcall := alive01 W
  refine hcall.mono ?_
  rintro e u1 ⟨rfl, hb1⟩
  clear hcall
  replace hx := hx.below hb1
  replace hy := hy.below hb1
  have hB := hb1
  go_wp2_with fail
  have hcall := ref_copy a0 _ cap0 xs u1 hx (by omega)
  refine hcall.mono ?_
  rintro e u2 ⟨Ao, co, rfl, ho, hb2⟩
  clear hcall
  replace hx := hx.below hb2
  replace hy := hy.below hb2
  replace hB := below_tail hB hb2
  clear hb2
  replace ho := own_nums ho
  go_wp2_with fail
  have hcall := ref_copy a1 _ cap1 ys u2 hy (by omega)
  refine hcall.mono ?_
  rintro e u3 ⟨Am, cm, rfl, hm, hb3⟩
  clear hcall
  replace hx := hx.below hb3
  replace hy := hy.below hb3
  replace ho := ho.below hb3
  replace hB := below_tail hB hb3
  clear hb3
  replace hm := own_nums hm
  go_wp2_with fail
  have hcall := nat_add Ao _ co xs Am _ cm ys u3 ho hm lx ly
  refine hcall.mono ?_
  rintro e u4 ⟨Ap, cp, rfl, hp, hb4⟩
  clear hcall
  replace hx := hx.below hb4
  replace hy := hy.below hb4
  replace ho := ho.below hb4
  replace hm := hm.below hb4
  replace hB := below_tail hB hb4
  clear hb4
  go_wp2_with fail
  have hcall := ref_add a0 _ cap0 xs a1 _ cap1 ys u4 hx hy lx ly
  refine hcall.mono ?_
  rintro e u5 ⟨Aq, cq, rfl, hq, hb5⟩
  clear hcall
  replace hx := hx.below hb5
  replace hy := hy.below hb5
  replace ho := ho.below hb5
  replace hm := hm.below hb5
  replace hp := hp.below hb5
  replace hB := below_tail hB hb5
  clear hb5
  go_wp2_with fail
  have hcall := nat_sub Ao _ co xs Am _ cm ys u5 ho hm lx ly
  refine hcall.mono ?_
  rintro e u6 ⟨Ar, cr, rfl, hr, hb6⟩
  clear hcall
  replace hx := hx.below hb6
  replace hy := hy.below hb6
  replace ho := ho.below hb6
  replace hm := hm.below hb6
  replace hp := hp.below hb6
  replace hq := hq.below hb6
  replace hB := below_tail hB hb6
  clear hb6
  go_wp2_with fail
  have hcall := ref_sub a0 _ cap0 xs a1 _ cap1 ys u6 hx hy lx ly
  refine hcall.mono ?_
  rintro e u7 ⟨As, cs, rfl, hs, hb7⟩
  clear hcall
  replace hx := hx.below hb7
  replace hy := hy.below hb7
  replace ho := ho.below hb7
  replace hm := hm.below hb7
  replace hp := hp.below hb7
  replace hq := hq.below hb7
  replace hr := hr.below hb7
  replace hB := below_tail hB hb7
  clear hb7
  generalize addN xs ys = p at *
  generalize subN xs ys = q at *
  go_wp2_with fail
  have hcall := ref_same Ap _ cp _ Aq _ cq _ u7 hp hq
  rw [beq_list] at hcall
  refine hcall.mono ?_
  rintro e u8 ⟨rfl, hb8⟩
  clear hcall
  replace hx := hx.same hb8
  replace hy := hy.same hb8
  replace ho := ho.same hb8
  replace hm := hm.same hb8
  replace hr := hr.same hb8
  replace hs := hs.same hb8
  replace hB := hB.trans (hb8.below _)
  go_wp2_with fail
  have hcall := ref_same Ar _ cr _ As _ cs _ u8 hr hs
  rw [beq_list] at hcall
  refine hcall.mono ?_
  rintro e u9 ⟨rfl, hb9⟩
  clear hcall
  replace hx := hx.same hb9
  replace hy := hy.same hb9
  replace ho := ho.same hb9
  replace hm := hm.same hb9
  replace hB := hB.trans (hb9.below _)
  go_wp2_with fail
  have hcall := nat_cmp a0 _ cap0 xs a1 _ cap1 ys u9 hx hy lx ly
  refine hcall.mono ?_
  rintro e u10 ⟨rfl, hb10⟩
  clear hcall
  replace hx := hx.same hb10
  replace hy := hy.same hb10
  replace ho := ho.same hb10
  replace hm := hm.same hb10
  replace hB := hB.trans (hb10.below _)
  go_wp2_with fail
  have hcall := ref_cmp a0 _ cap0 xs a1 _ cap1 ys u10 hx hy lx ly
  refine hcall.mono ?_
  rintro e u11 ⟨rfl, hb11⟩
  clear hcall
  replace hx := hx.same hb11
  replace hy := hy.same hb11
  replace ho := ho.same hb11
  replace hm := hm.same hb11
  replace hB := hB.trans (hb11.below _)
  go_wp2_with fail
  have hcall := nat_right a0 _ cap0 xs u11 hx
  refine hcall.mono ?_
  rintro e u12 ⟨rfl, rfl⟩
  clear hcall
  go_wp2_with fail
  have hcall := ref_right a0 _ cap0 xs u11 hx
  refine hcall.mono ?_
  rintro e u13 ⟨rfl, rfl⟩
  clear hcall
  go_wp2_with fail
  have hcall := ref_same Ao _ co _ a0 _ cap0 _ u11 ho hx
  rw [beq_list] at hcall
  refine hcall.mono ?_
  rintro e u14 ⟨rfl, hb14⟩
  clear hcall
  replace hx := hx.same hb14
  replace hy := hy.same hb14
  replace ho := ho.same hb14
  replace hm := hm.same hb14
  replace hB := hB.trans (hb14.below _)
  go_wp2_with fail
  have hcall := ref_same Am _ cm _ a1 _ cap1 _ u14 hm hy
  rw [beq_list] at hcall
  refine hcall.mono ?_
  rintro e u15 ⟨rfl, hb15⟩
  clear hcall
  replace hx := hx.same hb15
  replace hy := hy.same hb15
  replace ho := ho.same hb15
  replace hm := hm.same hb15
  replace hB := hB.trans (hb15.below _)
  go_wp2_with fail
  go_ret
  exact ⟨rfl, hB⟩
end Go.Proofs.Ytapnnnciaagbdaa
