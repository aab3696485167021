/- Walks: the laws NatProducts, NatDivides, NatTexts. -/
import Derived.Test.YtapnnnciaagbdaaNatR3
import Derived.Test.YtapnnnciaagbdaaNatL3
namespace Go.Proofs.Ytapnnnciaagbdaa
open Go.RowKit
set_option linter.unusedVariables false
set_option linter.unusedSimpArgs false

set_option maxHeartbeats 1000000 in
theorem natProducts_walk (a0 : Option Addr) (len0 cap0 : Nat) (z0 : List Int) (a1 : Option Addr) (len1 cap1 : Nat) (z1 : List Int) (W : World)
    (w0 : IsRow .u32 W a0 len0 cap0 z0) (w1 : IsRow .u32 W a1 len1 cap1 z1) :
    Calls Try.prog 8 #[.slice a0 len0 cap0, .slice a1 len1 cap1] W fun e w' => e = .returned (.bool true) ∧ Below W.heap.size W w' := by
  obtain ⟨xs, hx, lx⟩ := w0.limbs
  obtain ⟨ys, hy, ly⟩ := w1.limbs
  clear w0 w1
  obtain rfl := hx.len
  obtain rfl := hy.len
  by_cases hl : xs.length ≤ 40 ∧ ys.length ≤ 40
  case neg =>
    have hways : (40 : Int) < (xs.length : Int) ∨ (¬ (40 : Int) < (xs.length : Int) ∧ (40 : Int) < (ys.length : Int)) := by omega
    clear hl
    rcases hways with h1 | ⟨h1, h2⟩
    all_goals
      go_enter Try.func8, Try.ntmps8
      go_wp2_with (go_at_call 23; (with_reducible refine (alive01 _).mono ?_); rintro e w1 ⟨rfl, hb1⟩)
      go_ret
      exact ⟨rfl, hb1⟩
  obtain ⟨hl1, hl2⟩ := hl
  have h1 : ¬ (40 : Int) < (xs.length : Int) := by omega
  have h2 : ¬ (40 : Int) < (ys.length : Int) := by omega
  go_enter Try.func8, Try.ntmps8
  go_wp2_with fail
  have hcall := alive01 W
  refine hcall.mono ?_
  rintro e u1 ⟨rfl, hb1⟩
  clear hcall
  replace hx := hx.below hb1
  replace hy := hy.below hb1
  have hB := hb1
  go_wp2_with fail
  have hcall := ref_copy a0 _ cap0 xs u1 hx (by omega)
  refine hcall.mono ?_
  rintro e u2 ⟨Ao, co, rfl, ho, hb2⟩
  clear hcall
  replace hx := hx.below hb2
  replace hy := hy.below hb2
  replace hB := below_tail hB hb2
  clear hb2
  replace ho := own_nums ho
  go_wp2_with fail
  have hcall := ref_copy a1 _ cap1 ys u2 hy (by omega)
  refine hcall.mono ?_
  rintro e u3 ⟨Am, cm, rfl, hm, hb3⟩
  clear hcall
  replace hx := hx.below hb3
  replace hy := hy.below hb3
  replace ho := ho.below hb3
  replace hB := below_tail hB hb3
  clear hb3
  replace hm := own_nums hm
  go_wp2_with fail
  have hcall := nat_mul Ao _ co xs Am _ cm ys u3 ho hm lx ly
  refine hcall.mono ?_
  rintro e u4 ⟨Ap, cp, rfl, hp, hb4⟩
  clear hcall
  replace hx := hx.below hb4
  replace hy := hy.below hb4
  replace ho := ho.below hb4
  replace hm := hm.below hb4
  replace hB := below_tail hB hb4
  clear hb4
  go_wp2_with fail
  have hcall := ref_mul a0 _ cap0 xs a1 _ cap1 ys u4 hx hy lx ly
  refine hcall.mono ?_
  rintro e u5 ⟨Aq, cq, rfl, hq, hb5⟩
  clear hcall
  replace hx := hx.below hb5
  replace hy := hy.below hb5
  replace ho := ho.below hb5
  replace hm := hm.below hb5
  replace hp := hp.below hb5
  replace hB := below_tail hB hb5
  clear hb5
  generalize mulN xs ys = p at *
  go_wp2_with fail
  have hcall := ref_same Ap _ cp _ Aq _ cq _ u5 hp hq
  rw [beq_list] at hcall
  refine hcall.mono ?_
  rintro e u6 ⟨rfl, hb6⟩
  clear hcall
  replace hx := hx.same hb6
  replace hy := hy.same hb6
  replace ho := ho.same hb6
  replace hm := hm.same hb6
  replace hB := hB.trans (hb6.below _)
  go_wp2_with fail
  have hcall := nat_bits a0 _ cap0 xs u6 hx lx
  refine hcall.mono ?_
  rintro e u7 ⟨rfl, rfl⟩
  clear hcall
  go_wp2_with fail
  have hcall := ref_bits a0 _ cap0 xs u6 hx lx
  refine hcall.mono ?_
  rintro e u8 ⟨rfl, rfl⟩
  clear hcall
  go_wp2_with fail
  have hcall := ref_same Ao _ co _ a0 _ cap0 _ u6 ho hx
  rw [beq_list] at hcall
  refine hcall.mono ?_
  rintro e u9 ⟨rfl, hb9⟩
  clear hcall
  replace hx := hx.same hb9
  replace hy := hy.same hb9
  replace ho := ho.same hb9
  replace hm := hm.same hb9
  replace hB := hB.trans (hb9.below _)
  go_wp2_with fail
  have hcall := ref_same Am _ cm _ a1 _ cap1 _ u9 hm hy
  rw [beq_list] at hcall
  refine hcall.mono ?_
  rintro e u10 ⟨rfl, hb10⟩
  clear hcall
  replace hx := hx.same hb10
  replace hy := hy.same hb10
  replace ho := ho.same hb10
  replace hm := hm.same hb10
  replace hB := hB.trans (hb10.below _)
  go_wp2_with fail
  go_ret
  exact ⟨rfl, hB⟩

set_option maxHeartbeats 1000000 in
theorem natDivides_walk (a0 : Option Addr) (len0 cap0 : Nat) (z0 : List Int) (a1 a2 : Int) (W : World)
    (w0 : IsRow .u32 W a0 len0 cap0 z0) (w1 : (Lit.int .u32 a1).wf = true) (w2 : (Lit.int .u64 a2).wf = true) :
    Calls Try.prog 9 #[.slice a0 len0 cap0, .int .u32 a1, .int .u64 a2] W fun e w' => e = .returned (.bool true) ∧ Below W.heap.size W w' := by
  obtain ⟨xs, hx, lx⟩ := w0.limbs
  obtain ⟨d, rfl, hd⟩ := u32_nat w1
  obtain ⟨v, rfl, hv⟩ := u64_nat w2
  clear w0 w1 w2
  obtain rfl := hx.len
  by_cases hl : xs.length ≤ 40
  case neg =>
    have h1 : (40 : Int) < (xs.length : Int) := by omega
    clear hl
    go_enter Try.func9, Try.ntmps9
    go_wp2_with (go_at_call 23; (with_reducible refine (alive01 _).mono ?_); rintro e w1 ⟨rfl, hb1⟩)
    go_ret
    exact ⟨rfl, hb1⟩
  have h1 : ¬ (40 : Int) < (xs.length : Int) := by omega
  go_enter Try.func9, Try.ntmps9
  go_wp2_with fail
  have hcall := alive01 W
  refine hcall.mono ?_
  rintro e u1 ⟨rfl, hb1⟩
  clear hcall
  replace hx := hx.below hb1
  have hB := hb1
  go_wp2_with fail
  have hcall := ref_copy a0 _ cap0 xs u1 hx (by omega)
  refine hcall.mono ?_
  rintro e u2 ⟨Ao, co, rfl, ho, hb2⟩
  clear hcall
  replace hx := hx.below hb2
  replace hB := below_tail hB hb2
  clear hb2
  replace ho := own_nums ho
  go_wp2_with fail
  have hcall := nat_div Ao _ co xs d u2 ho lx hd
  refine hcall.mono ?_
  rintro e u3 ⟨Ap, cp, rfl, hp, hb3, _⟩
  clear hcall
  replace hx := hx.below hb3
  replace ho := ho.below hb3
  replace hB := below_tail hB hb3
  clear hb3
  go_wp2_with fail
  have hcall := ref_div a0 _ cap0 xs d u3 hx lx hd
  refine hcall.mono ?_
  rintro e u4 ⟨Aq, cq, rfl, hq, hb4, _⟩
  clear hcall
  replace hx := hx.below hb4
  replace ho := ho.below hb4
  replace hp := hp.below hb4
  replace hB := below_tail hB hb4
  clear hb4
  generalize divN xs d = p at *
  go_wp2_with fail
  have hcall := ref_same Ap _ cp _ Aq _ cq _ u4 hp hq
  rw [beq_list] at hcall
  refine hcall.mono ?_
  rintro e u5 ⟨rfl, hb5⟩
  clear hcall
  replace hx := hx.same hb5
  replace ho := ho.same hb5
  replace hB := hB.trans (hb5.below _)
  go_wp2_with fail
  have hcall := ref_same Ao _ co _ a0 _ cap0 _ u5 ho hx
  rw [beq_list] at hcall
  refine hcall.mono ?_
  rintro e u6 ⟨rfl, hb6⟩
  clear hcall
  replace hx := hx.same hb6
  replace ho := ho.same hb6
  replace hB := hB.trans (hb6.below _)
  go_wp2_with fail
  have hcall := nat_of v u6 hv
  refine hcall.mono ?_
  rintro e u7 ⟨As, cs, rfl, hs, hb7⟩
  clear hcall
  replace hx := hx.below hb7
  replace ho := ho.below hb7
  replace hB := below_tail hB hb7
  clear hb7
  go_wp2_with fail
  have hcall := ref_of v u7 hv
  refine hcall.mono ?_
  rintro e u8 ⟨At, ct, rfl, ht, hb8⟩
  clear hcall
  replace hx := hx.below hb8
  replace ho := ho.below hb8
  replace hs := hs.below hb8
  replace hB := below_tail hB hb8
  clear hb8
  go_wp2_with fail
  have hcall := ref_same As _ cs _ At _ ct _ u8 hs ht
  rw [beq_list] at hcall
  refine hcall.mono ?_
  rintro e u9 ⟨rfl, hb9⟩
  clear hcall
  replace hx := hx.same hb9
  replace ho := ho.same hb9
  replace hs := hs.same hb9
  replace ht := ht.same hb9
  replace hB := hB.trans (hb9.below _)
  go_wp2_with fail
  go_ret
  exact ⟨rfl, hB⟩

set_option maxHeartbeats 1000000 in
theorem natTexts_walk (a0 : Option Addr) (len0 cap0 : Nat) (z0 : List Int) (s1 : ByteArray) (W : World)
    (w0 : IsRow .u32 W a0 len0 cap0 z0) (w1 : s1.size ≤ maxLen) :
    Calls Try.prog 10 #[.slice a0 len0 cap0, .string s1] W fun e w' => e = .returned (.bool true) ∧ Below W.heap.size W w' := by
  obtain ⟨xs, hx, lx⟩ := w0.limbs
  unfold maxLen at w1
  clear w0
  obtain rfl := hx.len
  by_cases hl : xs.length ≤ 40 ∧ s1.size ≤ 400
  case neg =>
    have hways : (40 : Int) < (xs.length : Int) ∨ (¬ (40 : Int) < (xs.length : Int) ∧ (400 : Int) < (s1.size : Int)) := by omega
    clear hl
    rcases hways with h1 | ⟨h1, h2⟩
    all_goals
      go_enter Try.func10, Try.ntmps10
      go_wp2_with (go_at_call 23; (with_reducible refine (alive01 _).mono ?_); rintro e w1 ⟨rfl, hb1⟩)
      go_ret
      exact ⟨rfl, hb1⟩
  obtain ⟨hl1, hl2⟩ := hl
  have h1 : ¬ (40 : Int) < (xs.length : Int) := by omega
  have h2 : ¬ (400 : Int) < (s1.size : Int) := by omega
  go_enter Try.func10, Try.ntmps10
  go_wp2_with fail
  have hcall := alive01 W
  refine hcall.mono ?_
  rintro e u1 ⟨rfl, hb1⟩
  clear hcall
  replace hx := hx.below hb1
  have hB := hb1
  go_wp2_with fail
  have hcall := nat_parse s1 u1 (by omega)
  refine hcall.mono ?_
  rintro e u2 ⟨Ap, cp, rfl, hp, hb2⟩
  clear hcall
  replace hx := hx.below hb2
  replace hB := below_tail hB hb2
  clear hb2
  go_wp2_with fail
  have hcall := ref_parse s1 u2 (by omega)
  refine hcall.mono ?_
  rintro e u3 ⟨Aq, cq, rfl, hq, hb3⟩
  clear hcall
  replace hx := hx.below hb3
  replace hp := hp.below hb3
  replace hB := below_tail hB hb3
  clear hb3
  generalize parseN (bytesOf s1) = p at *
  go_wp2_with fail
  have hcall := nat_text a0 _ cap0 xs u3 hx lx
  refine hcall.mono ?_
  rintro e u4 ⟨rfl, hb4⟩
  clear hcall
  replace hx := hx.below hb4
  replace hp := hp.below hb4
  replace hq := hq.below hb4
  replace hB := below_tail hB hb4
  clear hb4
  go_wp2_with fail
  have hcall := ref_text a0 _ cap0 xs u4 hx lx
  refine hcall.mono ?_
  rintro e u5 ⟨rfl, hb5⟩
  clear hcall
  replace hx := hx.below hb5
  replace hp := hp.below hb5
  replace hq := hq.below hb5
  replace hB := below_tail hB hb5
  clear hb5
  go_wp2_with fail
  have hcall := ref_same Ap _ cp _ Aq _ cq _ u5 hp hq
  rw [beq_list] at hcall
  refine hcall.mono ?_
  rintro e u6 ⟨rfl, hb6⟩
  clear hcall
  replace hx := hx.same hb6
  replace hp := hp.same hb6
  replace hq := hq.same hb6
  replace hB := hB.trans (hb6.below _)
  go_wp2_with fail
  go_ret
  exact ⟨rfl, hB⟩
end Go.Proofs.Ytapnnnciaagbdaa
