/- Walks: the laws NatParts, NatLaws, NatBack. -/
import Derived.Test.YtapnnnciaagbdaaNatW9
import Derived.Test.YtapnnnciaagbdaaEntry
namespace Go.Proofs.Ytapnnnciaagbdaa
open Go.RowKit
set_option linter.unusedVariables false
set_option linter.unusedSimpArgs false

set_option maxHeartbeats 2000000 in
theorem natParts_walk (a0 : Option Addr) (len0 cap0 : Nat) (z0 : List Int) (a1 : Int) (W : World) (w0 : IsRow .u32 W a0 len0 cap0 z0) (w1 : (Lit.int .u32 a1).wf = true) :
    Calls Try.prog 12 #[.slice a0 len0 cap0, .int .u32 a1] W fun e w' => e = .returned (.bool true) ∧ Below W.heap.size W w' := by
  obtain ⟨xs, hx, lx⟩ := w0.limbs
  obtain ⟨d, rfl, hd⟩ := u32_nat w1
  clear w0 w1
  by_cases hr : rightB xs = true
  case neg =>
    have hr' : rightB xs = false := by simpa using hr
    clear hr
    go_enter Try.func12, Try.ntmps12
    go_wp2_with (first
      | (go_at_call 23; (with_reducible refine (alive01 _).mono ?_); rintro e w1 ⟨rfl, hb1⟩)
      | (go_at_call 31; (with_reducible refine (ref_right _ _ _ _ _ (hx.below hb1)).mono ?_); rintro e w2 ⟨rfl, rfl⟩))
    go_ret
    exact ⟨rfl, hb1⟩
  by_cases hd0 : d = 0
  · subst hd0
    go_enter Try.func12, Try.ntmps12
    go_wp2_with (first
      | (go_at_call 23; (with_reducible refine (alive01 _).mono ?_); rintro e w1 ⟨rfl, hb1⟩)
      | (go_at_call 31; (with_reducible refine (ref_right _ _ _ _ _ (hx.below hb1)).mono ?_); rintro e w2 ⟨rfl, rfl⟩))
    go_ret
    exact ⟨rfl, hb1⟩
  obtain ⟨hxv, hv⟩ := limbs_of_right xs lx hr
  generalize val xs = v at *
  subst hxv
  have hdne : ((d : Int) == 0) = false := by simp [hd0]
  have hv1 : v / d * d < big := by have := Nat.div_mul_le_self v d; omega
  have hq : v / d < big := by have := Nat.div_le_self v d; omega
  have hm : v % d < d := Nat.mod_lt _ (by omega)
  have hsum : v / d * d + v % d = v := by rw [Nat.mul_comm]; exact Nat.div_add_mod v d
  have hdb := small_big d (by omega)
  have hmb := small_big (v % d) (by omega)
  have Hsum := Lib.hid hsum
  clear hsum
  go_enter Try.func12, Try.ntmps12
  go_wp2_with (first
    | (go_at_call 23; (with_reducible refine (alive01 _).mono ?_); rintro e w1 ⟨rfl, hb1⟩)
    | (go_at_call 31; (with_reducible refine (ref_right _ _ _ _ _ (hx.below hb1)).mono ?_); rintro e w2 ⟨rfl, rfl⟩))
  have h := nat_div a0 _ cap0 _ d w1 (hx.below hb1) lx hd
  rw [divN_limbs v d hv hd0] at h
  refine h.mono ?_
  rintro e w2 ⟨Aq, cq, rfl, hqn, hb2, _⟩
  clear h
  go_wp2_with fail
  refine (nat_of d _ (by omega)).mono ?_
  rintro e w3 ⟨A3, c3, rfl, h3, hb3⟩
  go_wp2_with fail
  have h := nat_mul_l Aq cq (v / d) A3 c3 d w3 (hqn.below hb3) h3 hq hdb
  rw [fitN_ok hv1] at h
  refine h.mono ?_
  rintro e w4 ⟨A4, c4, rfl, h4, hb4⟩
  clear h
  go_wp2_with fail
  have hcast : ((v : Int) % (d : Int)) = ((v % d : Nat) : Int) := by rw [Int.natCast_emod]
  have h := nat_of (v % d) w4 (by omega)
  rw [← hcast] at h
  have Hcast := Lib.hid hcast
  clear hcast
  refine h.mono ?_
  rintro e w5 ⟨A5, c5, rfl, h5, hb5⟩
  clear h
  go_wp2_with fail
  have h := nat_add_l A4 c4 (v / d * d) A5 c5 (v % d) w5 (h4.below hb5) h5 hv1 hmb
  rw [Hsum.out, fitN_ok hv] at h
  refine h.mono ?_
  rintro e w6 ⟨A6, c6, rfl, h6, hb6⟩
  clear h
  have hB : Below W.heap.size W w6 := below_tail (below_tail (below_tail (below_tail (below_tail hb1 hb2) hb3) hb4) hb5) hb6
  have hlt : (v : Int) % (d : Int) < (d : Int) := by rw [Hcast.out]; omega
  go_wp2_with fail
  have h := ref_same A6 _ c6 _ a0 _ cap0 _ w6 h6 (hx.below hB)
  rw [show (limbs v == limbs v) = true from by simp] at h
  refine h.mono ?_
  rintro e w7 ⟨rfl, hs7⟩
  clear h
  go_wp2_with fail
  go_ret
  exact ⟨rfl, hB.trans (hs7.below _)⟩
end Go.Proofs.Ytapnnnciaagbdaa
