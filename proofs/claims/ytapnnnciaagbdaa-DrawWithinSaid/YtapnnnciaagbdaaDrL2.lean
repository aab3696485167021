/- draw: the laws, walked. -/
import Derived.Test.YtapnnnciaagbdaaDrL1
namespace Go.Proofs.Ytapnnnciaagbdaa
open Go.RowKit
set_option linter.unusedVariables false
set_option linter.unusedSimpArgs false

set_option maxHeartbeats 1000000 in
theorem drawBelow_walk (a0 : Option Addr) (len0 cap0 : Nat) (z0 : List Int) (a1 : Option Addr) (len1 cap1 : Nat) (z1 : List Int) (W : World)
    (w0 : IsRow .u32 W a0 len0 cap0 z0) (w1 : IsRow .u32 W a1 len1 cap1 z1) :
    Calls Try.prog 3 #[.slice a0 len0 cap0, .slice a1 len1 cap1] W fun e w' => e = .returned (.bool true) ∧ Below W.heap.size W w' := by
  obtain ⟨xs, hx, lx⟩ := w0.limbs
  obtain ⟨ws, hw, lw⟩ := w1.limbs
  clear w0 w1
  obtain rfl := hx.len
  obtain rfl := hw.len
  by_cases hl : xs.length ≤ 40 ∧ ws.length ≤ 1100
  case neg =>
    have hways : (40 : Int) < (xs.length : Int) ∨ (¬ (40 : Int) < (xs.length : Int) ∧ (1100 : Int) < (ws.length : Int)) := by omega
    clear hl
    rcases hways with h1 | ⟨h1, h2⟩
    all_goals
      go_enter Try.func3, Try.ntmps3
      go_wp2_with (go_at_call 15; (with_reducible refine (alive02 _).mono ?_); rintro e w1 ⟨rfl, hb1⟩)
      go_ret
      exact ⟨rfl, hb1⟩
  obtain ⟨hl1, hl2⟩ := hl
  go_enter Try.func3, Try.ntmps3
  go_wp2_with (first
    | (go_at_call 15; (with_reducible refine (alive02 _).mono ?_); rintro e w1 ⟨rfl, hB⟩; have hown := own_made w1 34 0 [] rfl (by omega); have hs : Sl (w1.alloc (.cells #[] 34)) a1 ws.length cap1 (nums .u32 ws) := (hw.below (hB.alloc hB.size _)))
    | (at_builtin; refine wpl_append rfl _ _ 22 rfl w1.heap.size 34 (.int .u32 0) 4 Try.underlying22 Try.info34 rfl _ 0 0 [] rfl hown _ ws.length cap1 (nums .u32 ws) rfl hs (nums_one _ _) (by omega) (by omega) (by simp) ?_; intro A' c' w2 ho hg))
  simp only [Nat.zero_add, List.nil_append] at ho
  have hb := below_append ((Below.refl _ _).alloc (Nat.le_refl _) _) hg hown (by simp)
  have ho2 : Nums .u32 w2 A' ws.length c' ws := own_sl ho
  clear hown hs ho hg
  replace hB := below_tail hB hb
  clear hb
  obtain ⟨p, Hp⟩ : ∃ p, Hid (belowN xs ws = p) := ⟨_, Lib.hid rfl⟩
  obtain ⟨zs, k, e0⟩ := p
  have hc := draw_out (draw_below a0 _ cap0 xs A' _ c' ws w2 (hx.below hB) ho2 lx lw)
  rw [Hp.out] at hc
  (with_reducible refine hc.mono ?_)
  rintro e w3 ⟨A3, c3, rfl, h3, hb⟩
  clear hc
  replace hB := below_tail hB hb
  replace ho2 := ho2.below hb
  clear hb
  dsimp only at h3
  go_wp2_with fail
  have hc := draw_out (ref2_below a0 _ cap0 xs a1 _ cap1 ws w3 (hx.below hB) (hw.below hB) lx lw)
  rw [Hp.out] at hc
  (with_reducible refine hc.mono ?_)
  rintro e w4 ⟨A4, c4, rfl, h4, hb⟩
  clear hc
  replace hB := below_tail hB hb
  replace ho2 := ho2.below hb
  replace h3 := h3.below hb
  clear hb
  dsimp only at h4
  go_wp2_with fail
  have hc := same_yes _ _ _ zs _ _ _ w4 h3 h4
  (with_reducible refine hc.mono ?_)
  rintro e w5 ⟨rfl, hS⟩
  clear hc h3 h4
  replace hB := hB.trans (hS.below _)
  replace ho2 := ho2.same hS
  clear hS
  go_wp2_with fail
  have hc := draw_need a0 _ cap0 xs w5 (hx.below hB) lx
  (with_reducible refine hc.mono ?_)
  rintro e w6 ⟨rfl, hb⟩
  clear hc
  replace hB := below_tail hB hb
  replace ho2 := ho2.below hb
  clear hb
  go_wp2_with fail
  have hc := ref2_need a0 _ cap0 xs w6 (hx.below hB) lx
  (with_reducible refine hc.mono ?_)
  rintro e w7 ⟨rfl, hb⟩
  clear hc
  replace hB := below_tail hB hb
  replace ho2 := ho2.below hb
  clear hb
  go_wp2_with fail
  have hc := same_yes _ _ _ ws _ _ _ w7 ho2 (hw.below hB)
  (with_reducible refine hc.mono ?_)
  rintro e w8 ⟨rfl, hS⟩
  clear hc
  go_wp2_with fail
  go_ret
  exact ⟨rfl, hB.trans (hS.below _)⟩

theorem fit_le {a b : Nat} : ((a : Int) ≤ (b : Int)) ↔ a ≤ b := by omega

set_option maxHeartbeats 1000000 in
theorem drawWithin_walk (a0 : Option Addr) (len0 cap0 : Nat) (z0 : List Int) (a1 : Option Addr) (len1 cap1 : Nat) (z1 : List Int) (a2 : Option Addr) (len2 cap2 : Nat) (z2 : List Int) (W : World)
    (w0 : IsRow .u32 W a0 len0 cap0 z0) (w1 : IsRow .u32 W a1 len1 cap1 z1) (w2 : IsRow .u32 W a2 len2 cap2 z2) :
    Calls Try.prog 4 #[.slice a0 len0 cap0, .slice a1 len1 cap1, .slice a2 len2 cap2] W fun e w' => e = .returned (.bool true) ∧ Below W.heap.size W w' := by
  obtain ⟨xs, hx, lx⟩ := w0.limbs
  obtain ⟨ws, hw, lw⟩ := w1.limbs
  obtain ⟨ms, hm, lm⟩ := w2.limbs
  clear w0 w1 w2
  obtain rfl := hx.len
  obtain rfl := hw.len
  obtain rfl := hm.len
  by_cases hl : ws.length ≤ 500 ∧ ms.length ≤ 500
  case neg =>
    have hways : (500 : Int) < (ws.length : Int) ∨ (¬ (500 : Int) < (ws.length : Int) ∧ (500 : Int) < (ms.length : Int)) := by omega
    clear hl
    rcases hways with h1 | ⟨h1, h2⟩
    all_goals
      go_enter Try.func4, Try.ntmps4
      go_wp2_with (go_at_call 15; (with_reducible refine (alive02 _).mono ?_); rintro e w1 ⟨rfl, hb1⟩)
      go_ret
      exact ⟨rfl, hb1⟩
  obtain ⟨hl1, hl2⟩ := hl
  rcases below_res xs ws lx with ⟨e0, he0, hp⟩ | ⟨t, n, hp, r1, hx0, ht, hn⟩
  · have Hp := Lib.hid hp
    have hne : ((e0 : Int) != 0) = true := by rw [bne_iff_ne]; omega
    clear hp he0
    go_enter Try.func4, Try.ntmps4
    go_wp2_with (go_at_call 15; (with_reducible refine (alive02 _).mono ?_); rintro e w1 ⟨rfl, hB⟩)
    have hc := draw_out (draw_below a0 _ cap0 xs a1 _ cap1 ws w1 (hx.below hB) (hw.below hB) lx lw)
    rw [Hp.out] at hc
    (with_reducible refine hc.mono ?_)
    rintro e w2 ⟨A3, c3, rfl, h3, hb⟩
    clear hc
    replace hB := below_tail hB hb
    go_wp2_with fail
    go_ret
    exact ⟨rfl, hB⟩
  · have hmore := below_more xs ws ms (limbs t) n hp (by omega)
    have Hp := Lib.hid hp
    have Hm := Lib.hid hmore
    have htb : t < big := by have := (limbs_of_right xs lx r1).2; omega
    have hcm : cmpN (limbs t) xs < 0 := by
      have := one_cmp xs r1 t htb
      rw [decide_eq_decide] at this
      exact this.2 ht
    obtain ⟨cv, Hcv⟩ : ∃ cv, Hid (cmpN (limbs t) xs = cv) := ⟨_, Lib.hid rfl⟩
    rw [Hcv.out] at hcm
    have Hlt := Lib.hid (limbs_lim t)
    have Hlm : Hid (Lim (ws ++ ms)) := Lib.hid (lw.append lm)
    generalize limbs t = ts at *
    clear hp hmore ht htb
    go_enter Try.func4, Try.ntmps4
    go_wp2_with (go_at_call 15; (with_reducible refine (alive02 _).mono ?_); rintro e w1 ⟨rfl, hB⟩)
    have hc := draw_out (draw_below a0 _ cap0 xs a1 _ cap1 ws w1 (hx.below hB) (hw.below hB) lx lw)
    rw [Hp.out] at hc
    (with_reducible refine hc.mono ?_)
    rintro e w2 ⟨A3, c3, rfl, h3, hb⟩
    clear hc
    replace hB := below_tail hB hb
    clear hb
    dsimp only at h3
    have hown := own_made w2 34 0 [] rfl (by omega)
    have hs : Sl (w2.alloc (.cells #[] 34)) a1 ws.length cap1 (nums .u32 ws) := (hw.below (hB.alloc hB.size _))
    go_wp2_with (first
      | (at_builtin; refine wpl_append rfl _ _ 22 rfl w2.heap.size 34 (.int .u32 0) 4 Try.underlying22 Try.info34 rfl _ 0 0 [] rfl hown _ ws.length cap1 (nums .u32 ws) rfl hs (nums_one _ _) (by omega) (by omega) (by simp) ?_; intro A' c' w3 ho hg; simp only [Nat.zero_add, List.nil_append] at ho ⊢; have hb := below_append ((Below.refl _ _).alloc (Nat.le_refl _) _) hg hown (by simp); have hb0 := hb.size; have hsm : Sl w3 a2 ms.length cap2 (nums .u32 ms) := hm.below (below_tail hB hb); clear hown hs)
      | (at_builtin; refine wpl_append rfl _ _ 22 rfl w2.heap.size 34 (.int .u32 0) 4 Try.underlying22 Try.info34 rfl _ ws.length c' (nums .u32 ws) rfl ho _ ms.length cap2 (nums .u32 ms) rfl hsm (nums_one _ _) (by omega) (by omega) hb0 ?_; intro A5 c5 w5 ho5 hg5; have hb5 := below_append hb hg5 ho hb0; clear ho hsm hb hb0 hg hg5))
    rw [← nums_append] at ho5
    have h5 : Nums .u32 w5 A5 (ws.length + ms.length) c5 (ws ++ ms) := own_sl ho5
    clear ho5
    replace hB := below_tail hB hb5
    replace h3 := h3.below hb5
    clear hb5
    have hc := draw_out (draw_below a0 _ cap0 xs A5 _ c5 (ws ++ ms) w5 (hx.below hB) h5 lx Hlm.out)
    rw [Hm.out] at hc
    (with_reducible refine hc.mono ?_)
    rintro e w6 ⟨A6, c6, rfl, h6, hb⟩
    clear hc h5
    replace hB := below_tail hB hb
    replace h3 := h3.below hb
    clear hb
    dsimp only at h6
    go_wp2_with fail
    have hc := ref_cmp A3 _ c3 ts a0 _ cap0 xs w6 h3 (hx.below hB) Hlt.out lx
    rw [Hcv.out] at hc
    (with_reducible refine hc.mono ?_)
    rintro e w7 ⟨rfl, hS⟩
    clear hc
    replace hB := hB.trans (hS.below _)
    replace h3 := h3.same hS
    replace h6 := h6.same hS
    clear hS
    go_wp2_with fail
    have hc := same_yes _ _ _ ts _ _ _ w7 h3 h6
    (with_reducible refine hc.mono ?_)
    rintro e w8 ⟨rfl, hS⟩
    clear hc
    replace hB := hB.trans (hS.below _)
    go_wp2_with fail
    go_ret
    exact ⟨rfl, hB⟩

set_option maxHeartbeats 2000000 in
theorem drawAgain_walk (a0 : Option Addr) (len0 cap0 : Nat) (z0 : List Int) (a1 : Option Addr) (len1 cap1 : Nat) (z1 : List Int) (a2 : Option Addr) (len2 cap2 : Nat) (z2 : List Int) (W : World)
    (w0 : IsRow .u32 W a0 len0 cap0 z0) (w1 : IsRow .u32 W a1 len1 cap1 z1) (w2 : IsRow .u32 W a2 len2 cap2 z2) :
    Calls Try.prog 6 #[.slice a0 len0 cap0, .slice a1 len1 cap1, .slice a2 len2 cap2] W fun e w' => e = .returned (.bool true) ∧ Below W.heap.size W w' := by
  obtain ⟨xs, hx, lx⟩ := w0.limbs
  obtain ⟨ws, hw, lw⟩ := w1.limbs
  obtain ⟨ms, hm, lm⟩ := w2.limbs
  clear w0 w1 w2
  obtain rfl := hx.len
  obtain rfl := hw.len
  obtain rfl := hm.len
  have hnd : needN xs ≤ 1000 := by have := sizeN_le xs lx; unfold needN; omega
  by_cases hl : ms.length ≤ 500 ∧ ws.length ≤ 40 ∧ ws.length = needN xs ∧ needN xs ≠ 0
  case neg =>
    have hways : (500 : Int) < (ms.length : Int) ∨ (¬ (500 : Int) < (ms.length : Int) ∧ (40 : Int) < (ws.length : Int)) ∨
        (¬ (500 : Int) < (ms.length : Int) ∧ ¬ (40 : Int) < (ws.length : Int) ∧ ((ws.length : Int) != (needN xs : Int)) = true) ∨
        (¬ (500 : Int) < (ms.length : Int) ∧ ¬ (40 : Int) < (ws.length : Int) ∧ ((ws.length : Int) != (needN xs : Int)) = false ∧ ((needN xs : Int) == 0) = true) := by
      by_cases h1 : ws.length = needN xs
      · by_cases h2 : needN xs = 0
        · simp [h1, h2]
          omega
        · have e1 : ((ws.length : Int) != (needN xs : Int)) = false := by rw [bne_eq_false_iff_eq]; omega
          have e2 : ((needN xs : Int) == 0) = false := by rw [beq_eq_false_iff_ne]; omega
          rw [e1, e2]
          simp
          omega
      · have e1 : ((ws.length : Int) != (needN xs : Int)) = true := by rw [bne_iff_ne]; omega
        rw [e1]
        simp
        omega
    clear hl
    obtain ⟨N, HN⟩ : ∃ N, Hid (needN xs = N) := ⟨_, Lib.hid rfl⟩
    rw [HN.out] at hways hnd
    rcases hways with h1 | ⟨h1, h2⟩ | ⟨h1, h2, h3⟩ | ⟨h1, h2, h3, h4⟩
    all_goals
      go_enter Try.func6, Try.ntmps6
      go_wp2_with (first
        | (go_at_call 15; (with_reducible refine (alive02 _).mono ?_); rintro e w1 ⟨rfl, hb1⟩)
        | (go_at_call 19; (with_reducible refine (draw_need _ _ _ _ _ (hx.below hb1) lx).mono ?_); rintro e w2 ⟨rfl, hb2⟩; rw [HN.out]))
      go_ret
      exact ⟨rfl, below_tail hb1 hb2⟩
  obtain ⟨hl1, hl2, hl3, hl4⟩ := hl
  have hag := below_again xs ws ms hl3 hl4
  obtain ⟨N, HN⟩ : ∃ N, Hid (needN xs = N) := ⟨_, Lib.hid rfl⟩
  rw [HN.out] at hl3 hl4 hnd hag
  have e1 : ((ws.length : Int) != (N : Int)) = false := by rw [bne_eq_false_iff_eq]; omega
  have e2 : ((N : Int) == 0) = false := by rw [beq_eq_false_iff_ne]; omega
  clear hl3 hl4
  by_cases h12 : (belowN xs ws).2.2 = 12
  case neg =>
    obtain ⟨p, Hp⟩ : ∃ p, Hid (belowN xs ws = p) := ⟨_, Lib.hid rfl⟩
    rw [Hp.out] at h12
    obtain ⟨zs, k, e0⟩ := p
    have hne : ((e0 : Int) != 12) = true := by rw [bne_iff_ne]; simp only [] at h12; omega
    clear h12 hag
    go_enter Try.func6, Try.ntmps6
    go_wp2_with (first
      | (go_at_call 15; (with_reducible refine (alive02 _).mono ?_); rintro e w1 ⟨rfl, hB⟩)
      | (go_at_call 19; (with_reducible refine (draw_need _ _ _ _ _ (hx.below hB) lx).mono ?_); rintro e w2 ⟨rfl, hb2⟩; replace hB := below_tail hB hb2; clear hb2; rw [HN.out]))
    have hc := draw_out (draw_below a0 _ cap0 xs a1 _ cap1 ws w2 (hx.below hB) (hw.below hB) lx lw)
    rw [Hp.out] at hc
    (with_reducible refine hc.mono ?_)
    rintro e w3 ⟨A3, c3, rfl, h3, hb⟩
    clear hc
    replace hB := below_tail hB hb
    go_wp2_with fail
    go_ret
    exact ⟨rfl, hB⟩
  have hag := hag h12 hl1 hl2
  obtain ⟨p, Hp⟩ : ∃ p, Hid (belowN xs ws = p) := ⟨_, Lib.hid rfl⟩
  rw [Hp.out] at h12
  obtain ⟨zs, k, e0⟩ := p
  obtain rfl : e0 = 12 := h12
  have Hlm : Hid (Lim (ws ++ ms)) := Lib.hid (lw.append lm)
  obtain ⟨q, Hq⟩ : ∃ q, Hid (belowN xs ms = q) := ⟨_, Lib.hid rfl⟩
  have hres := below_res xs ms lx
  rw [Hq.out] at hag hres
  obtain ⟨ts, k2, e2'⟩ := q
  simp only [] at hag
  have Hag := Lib.hid hag
  clear hag
  have hk2 : k2 ≤ 1000 := by
    rcases hres with ⟨e, _, h⟩ | ⟨t, n, h, _, _, _, h2⟩
    · simp at h; omega
    · simp at h; omega
  clear hres
  go_enter Try.func6, Try.ntmps6
  go_wp2_with (first
    | (go_at_call 15; (with_reducible refine (alive02 _).mono ?_); rintro e w1 ⟨rfl, hB⟩)
    | (go_at_call 19; (with_reducible refine (draw_need _ _ _ _ _ (hx.below hB) lx).mono ?_); rintro e w2 ⟨rfl, hb2⟩; replace hB := below_tail hB hb2; clear hb2; rw [HN.out]))
  have hc := draw_out (draw_below a0 _ cap0 xs a1 _ cap1 ws w2 (hx.below hB) (hw.below hB) lx lw)
  rw [Hp.out] at hc
  (with_reducible refine hc.mono ?_)
  rintro e w3 ⟨A3, c3, rfl, h3, hb⟩
  clear hc h3
  replace hB := below_tail hB hb
  clear hb
  go_wp2_with fail
  have hc := draw_out (draw_below a0 _ cap0 xs a2 _ cap2 ms w3 (hx.below hB) (hm.below hB) lx lm)
  rw [Hq.out] at hc
  (with_reducible refine hc.mono ?_)
  rintro e w4 ⟨A4, c4, rfl, h4, hb⟩
  clear hc
  replace hB := below_tail hB hb
  clear hb
  dsimp only at h4
  have hown := own_made w4 34 0 [] rfl (by omega)
  have hs : Sl (w4.alloc (.cells #[] 34)) a1 ws.length cap1 (nums .u32 ws) := (hw.below (hB.alloc hB.size _))
  go_wp2_with (first
    | (at_builtin; refine wpl_append rfl _ _ 22 rfl w4.heap.size 34 (.int .u32 0) 4 Try.underlying22 Try.info34 rfl _ 0 0 [] rfl hown _ ws.length cap1 (nums .u32 ws) rfl hs (nums_one _ _) (by omega) (by omega) (by simp) ?_; intro A' c' w6 ho hg; simp only [Nat.zero_add, List.nil_append] at ho ⊢; have hb := below_append ((Below.refl _ _).alloc (Nat.le_refl _) _) hg hown (by simp); have hb0 := hb.size; have hsm : Sl w6 a2 ms.length cap2 (nums .u32 ms) := hm.below (below_tail hB hb); clear hown hs)
    | (at_builtin; refine wpl_append rfl _ _ 22 rfl w4.heap.size 34 (.int .u32 0) 4 Try.underlying22 Try.info34 rfl _ ws.length c' (nums .u32 ws) rfl ho _ ms.length cap2 (nums .u32 ms) rfl hsm (nums_one _ _) (by omega) (by omega) hb0 ?_; intro A5 c5 w7 ho5 hg5; have hb5 := below_append hb hg5 ho hb0; clear ho hsm hb hb0 hg hg5))
  rw [← nums_append] at ho5
  have h5 : Nums .u32 w7 A5 (ws.length + ms.length) c5 (ws ++ ms) := own_sl ho5
  clear ho5
  replace hB := below_tail hB hb5
  replace h4 := h4.below hb5
  clear hb5
  have hc := draw_out (draw_below a0 _ cap0 xs A5 _ c5 (ws ++ ms) w7 (hx.below hB) h5 lx Hlm.out)
  rw [Hag.out] at hc
  by_cases he : e2' = 0
  · subst he
    rw [if_pos rfl] at hc
    (with_reducible refine hc.mono ?_)
    rintro e w8 ⟨A8, c8, rfl, h8, hb⟩
    clear hc h5
    replace hB := below_tail hB hb
    replace h4 := h4.below hb
    clear hb
    dsimp only at h8
    go_wp2_with fail
    have hc := same_yes _ _ _ ts _ _ _ w8 h4 h8
    (with_reducible refine hc.mono ?_)
    rintro e w9 ⟨rfl, hS⟩
    clear hc
    replace hB := hB.trans (hS.below _)
    go_wp2_with fail
    go_ret
    exact ⟨by simp, hB⟩
  · rw [if_neg he] at hc
    have hne : ((e2' : Int) != 0) = true := by rw [bne_iff_ne]; omega
    clear he
    (with_reducible refine hc.mono ?_)
    rintro e w8 ⟨A8, c8, rfl, h8, hb⟩
    clear hc h5
    replace hB := below_tail hB hb
    go_wp2_with fail
    go_ret
    exact ⟨by simp, hB⟩
end Go.Proofs.Ytapnnnciaagbdaa
