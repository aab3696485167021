/- set: SetBack, walked. -/
import Derived.Test.YtapnnnciaagbdaaDoorSetL2
namespace Go.Proofs.YtapnnnciaagbdaaDoor
open Go.RowKit
set_option linter.unusedVariables false
set_option linter.unusedSimpArgs false

set_option maxHeartbeats 2000000 in
theorem setBack_walk (a0 a1 : Int) (W : World) (w0 : (Lit.int .u32 a0).wf = true) (w1 : (Lit.int .u32 a1).wf = true) (hT : TabAt W) :
    Calls Tryd.prog 4 #[.int .u32 a0, .int .u32 a1] W fun e w' => e = .returned (.bool true) ∧ Below W.heap.size W w' := by
  obtain ⟨s, rfl, hs⟩ := u32_nat w0
  obtain ⟨t, rfl, ht⟩ := u32_nat w1
  clear w0 w1
  have hml := mems_len s
  have htl := mems_len t
  have hmem : ∀ (i x : Nat), (memsN s)[i]? = some x → x < 32 ∧ hasN s (x : Int) = true := fun i x h => by
    obtain ⟨h1, h2⟩ := (mems_mem s x).1 (List.mem_of_getElem? h)
    exact ⟨h1, by simp [hasN, h2]; omega⟩
  have hlt := fun (i x y : Nat) (hx : (memsN s)[i]? = some x) (hy : (memsN s)[i + 1]? = some y) => mems_lt s i (i + 1) x y (by omega) hx hy
  have hof := of_mems s hs
  have hoft := of_mems t ht
  have hboth : ofN (intsOf (memsN s) ++ intsOf (memsN t)) = s ||| t := by rw [of_append, hof, hoft]
  have hcnt : countN s = (memsN s).length := rfl
  have hlst : ∀ (x : Nat), (memsN s)[0]? = some x → leastN s = (x : Int) := fun x h => by
    unfold leastN
    cases hm : memsN s with
    | nil => rw [hm] at h; cases h
    | cons m l => rw [hm] at h; simp at h; rw [h]
  obtain ⟨ms, Hms⟩ : ∃ ms, Hid (memsN s = ms) := ⟨_, Lib.hid rfl⟩
  obtain ⟨ts, Hts⟩ : ∃ ts, Hid (memsN t = ts) := ⟨_, Lib.hid rfl⟩
  rw [Hms.out] at hml hmem hlt hof hboth hcnt hlst
  rw [Hts.out] at htl hboth
  have Hmem := Lib.hid hmem
  have Hlt := Lib.hid hlt
  have Hof := Lib.hid hof
  have Hboth := Lib.hid hboth
  have Hcnt := Lib.hid hcnt
  have Hlst := Lib.hid hlst
  clear hmem hlt hof hoft hboth hcnt hlst
  go_enter Tryd.func4, Tryd.ntmps4
  go_wp2_with (go_at_call 6; (with_reducible refine (alive03 _ hT).mono ?_); rintro e w1 ⟨rfl, hB⟩)
  have hc := set_members s w1 hs (hT.below hB)
  rw [Hms.out] at hc
  (with_reducible refine hc.mono ?_)
  rintro e w2 ⟨A, c, rfl, hz, hb⟩
  clear hc
  replace hB := below_tail hB hb
  clear hb
  rw [intsOf_length] at hz ⊢
  go_wp2_with fail
  go_loopw [6] (fun i wr => ∃ k : Nat, k ≤ ms.length ∧ i = .int .i64 (k : Int) ∧ Same w2 wr) (fun i _ => ms.length - (intOf i).toNat)
  case atStart => exact ⟨0, Nat.zero_le _, rfl, Same.refl _⟩
  case round =>
    obtain ⟨k, hk, rfl, hS⟩ := hrel
    by_cases hkl : k < ms.length
    · obtain ⟨b1, o1, x, rfl, hb1, Hx, hc1⟩ := (hz.same hS).get (j := k) hkl
      obtain ⟨x, rfl, hxm⟩ : ∃ y : Nat, x = (y : Int) ∧ ms[k]? = some y := by
        have := Hx.out
        simp only [intsOf, List.getElem?_map, Option.map_eq_some_iff] at this
        obtain ⟨y, h1, h2⟩ := this
        exact ⟨y, h2.symm, h1⟩
      obtain ⟨hx32, hhas⟩ := Hmem.out k x hxm
      have hcall := fun w => set_has s (x : Int) w hs
      rw [hhas] at hcall
      have Hcall := Lib.hid hcall
      have g0 : (0 : Int) ≤ (k : Int) := by omega
      have g1 : (k : Int) < (ms.length : Int) := by omega
      have g2 : decide ((x : Int) < 0) = false := by simp
      have g3 : decide ((31 : Int) < (x : Int)) = false := by simp; omega
      clear hhas hcall
      by_cases hk0 : 0 < k
      · obtain ⟨j, Hj⟩ : ∃ j, Hid (k = j + 1) := ⟨k - 1, Lib.hid (by omega)⟩
        have hjk := Hj.out
        obtain ⟨b2, o2, y, heq, hb2, Hy, hc2⟩ := (hz.same hS).get (j := j) (by omega)
        injection heq with heq
        injection heq with e1 e2
        subst e1; subst e2
        obtain ⟨y, rfl, hym⟩ : ∃ z : Nat, y = (z : Int) ∧ ms[j]? = some z := by
          have := Hy.out
          simp only [intsOf, List.getElem?_map, Option.map_eq_some_iff] at this
          obtain ⟨y, h1, h2⟩ := this
          exact ⟨y, h2.symm, h1⟩
        have hyx := Hlt.out j y x hym (by rw [← hjk]; exact hxm)
        have g4 : decide ((x : Int) ≤ (y : Int)) = false := by simp; omega
        have g5 : (0 : Int) < (k : Int) := by omega
        have g7 : IntKind.i64.wrap ((k : Int) - 1) = (j : Int) := by rw [show (k : Int) - 1 = (j : Int) by omega]; exact IntWalk.i64_in _ (by omega)
        have g8 : (0 : Int) ≤ (j : Int) := by omega
        have g9 : (j : Int) < (ms.length : Int) := by omega
        clear hxm hym hjk
        go_wp2_with fail
        go_quiet ((go_at_call 9; exact quiet_eq (Hcall.out _)))
        go_wp2_with fail
        go_roundw
        case rel => exact ⟨k + 1, by omega, by go_num, hS.drewN _⟩
        case measure => simp [intOf]; omega
      · obtain rfl : k = 0 := by omega
        rw [Nat.add_zero] at hc1
        clear hk0 hxm
        go_wp2_with fail
        go_quiet ((go_at_call 9; exact quiet_eq (Hcall.out _)))
        go_wp2_with fail
        go_roundw
        case rel => exact ⟨1, by omega, by go_num, hS.drewN _⟩
        case measure => simp [intOf]; omega
    · have hzr := hz.same hS
      have hBr := hB.trans (hS.below _)
      have hzr0 := hzr
      have hBr0 := hBr
      have hown := own_made wr 3 0 [] rfl (by omega)
      have hs0 : Sl (wr.alloc (.cells #[] 3)) A ms.length c (ints .i64 (intsOf ms)) := hzr.below ((Below.refl _ _).alloc (Nat.le_refl _) _)
      clear hS
      go_wp2_with (at_builtin; refine wpl_append rfl _ _ 23 rfl wr.heap.size 3 (.int .i64 0) 8 Tryd.underlying23 Tryd.infoInt rfl _ 0 0 [] rfl hown _ ms.length c (ints .i64 (intsOf ms)) rfl hs0 (ints_one _ _) (by omega) (by omega) (by simp) ?_; intro A' c' w3 ho hg)
      simp only [Nat.zero_add, List.nil_append] at ho ⊢
      have hb := below_append ((Below.refl _ _).alloc (Nat.le_refl _) _) hg hown (by simp)
      have hb0 := hb.size
      replace hzr := hzr.below hb
      replace hBr := below_tail hBr hb
      clear hown hs0 hg
      have hc := set_members t w3 ht (hT.below hBr)
      rw [Hts.out] at hc
      (with_reducible refine hc.mono ?_)
      rintro e w4 ⟨A4, c4, rfl, hz4, hb4⟩
      clear hc
      replace ho := own_below ho hb4
      replace hzr := hzr.below hb4
      replace hBr := below_tail hBr hb4
      have hb1 := Nat.le_trans hb0 hb4.size
      have hBk : Below wr.heap.size wr w4 := below_tail hb hb4
      clear hb hb0 hb4
      rw [intsOf_length] at hz4 ⊢
      go_wp2_with (at_builtin; refine wpl_append rfl _ _ 23 rfl wr.heap.size 3 (.int .i64 0) 8 Tryd.underlying23 Tryd.infoInt rfl _ ms.length c' (ints .i64 (intsOf ms)) rfl ho _ ts.length c4 (ints .i64 (intsOf ts)) rfl hz4 (ints_one _ _) (by omega) (by omega) hb1 ?_; intro A5 c5 w5 ho5 hg5)
      have hb5 := below_append hBk hg5 ho hb1
      rw [← ints_append] at ho5
      have h5 : Ints .i64 w5 A5 (ms.length + ts.length) c5 (intsOf ms ++ intsOf ts) := own_sl ho5
      have hz5 := hzr0.below hb5
      have hB5 := below_tail hBr0 hb5
      clear ho5 ho hg5 hb1 hBk hzr hBr hz4 hzr0 hBr0 hb5 hz hB
      have hor := or32 s t hs ht
      have h1 : ∀ m, Calls Tryd.prog 7 #[.slice A ms.length c] (w5.drewN m) fun e w' => e = .returned (.int .u32 (s : Int)) ∧ w5.drewN m = w' := fun m => by
        have := set_of A ms.length c (intsOf ms) (w5.drewN m) (hz5.drewN m)
        rwa [Hof.out] at this
      have h2 : ∀ m, Calls Tryd.prog 14 #[.int .u32 (s : Int)] (w5.drewN m) fun e w' => e = .returned (.int .i64 (ms.length : Int)) ∧ Same (w5.drewN m) w' := fun m => by
        have := set_count s (w5.drewN m) hs
        rwa [Hcnt.out] at this
      have h3 : ∀ m, Calls Tryd.prog 7 #[.slice A5 (ms.length + ts.length) c5] (w5.drewN m) fun e w' => e = .returned (.int .u32 ((s ||| t : Nat) : Int)) ∧ w5.drewN m = w' := fun m => by
        have := set_of A5 _ c5 _ (w5.drewN m) (h5.drewN m)
        rwa [Hboth.out] at this
      have H1 := Lib.hid h1
      have H2 := Lib.hid h2
      have H3 := Lib.hid h3
      generalize s ||| t = st at *
      clear h1 h2 h3
      by_cases hm0 : ms.length = 0
      · have hm1 : ((ms.length : Int) == 0) = true := by simp [hm0]
        clear hm0
        go_quiet ((first
          | (go_at_call 7; (with_reducible exact quiet_eq (H1.out _)))
          | (go_at_call 7; (with_reducible exact quiet_eq (H3.out _)))
          | (go_at_call 14; (with_reducible exact quiet_same (H2.out _)))))
        go_wp2_with fail
        go_ret
        exact ⟨by simp, below_drewN hB5 _⟩
      · have hm1 : ((ms.length : Int) == 0) = false := by rw [beq_eq_false_iff_ne]; omega
        obtain ⟨b1, o1, x, rfl, hb1, Hx, hc1⟩ := hz5.get (j := 0) (by omega)
        rw [Nat.add_zero] at hc1
        obtain ⟨x, rfl, hxm⟩ : ∃ y : Nat, x = (y : Int) ∧ ms[0]? = some y := by
          have := Hx.out
          simp only [intsOf, List.getElem?_map, Option.map_eq_some_iff] at this
          obtain ⟨y, h1, h2⟩ := this
          exact ⟨y, h2.symm, h1⟩
        have h4 : ∀ m, Calls Tryd.prog 16 #[.int .u32 (s : Int)] (w5.drewN m) fun e w' => e = .returned (.int .i64 (x : Int)) ∧ w5.drewN m = w' := fun m => by
          have := set_least s (w5.drewN m) hs (hT.below (below_drewN hB5 m))
          rwa [Hlst.out x hxm] at this
        have H4 := Lib.hid h4
        have g0 : (0 : Int) < (ms.length : Int) := by omega
        clear h4 hxm hm0
        go_quiet ((first
          | (go_at_call 7; (with_reducible exact quiet_eq (H1.out _)))
          | (go_at_call 7; (with_reducible exact quiet_eq (H3.out _)))
          | (go_at_call 16; (with_reducible exact quiet_eq (H4.out _)))
          | (go_at_call 14; (with_reducible exact quiet_same (H2.out _)))))
        go_wp2_with fail
        go_ret
        exact ⟨by simp, below_drewN hB5 _⟩
end Go.Proofs.YtapnnnciaagbdaaDoor
