/- trees: the reference's Of, walked. -/
import Derived.Test.YtfdbpafenhdkbaaGreatQTrR4
import Derived.Test.YtfdbpafenhdkbaaGreatQTrB
namespace Go.Proofs.YtfdbpafenhdkbaaGreat
open Go.RowKit
set_option linter.unusedVariables false
set_option linter.unusedSimpArgs false

set_option maxRecDepth 20000 in
set_option maxHeartbeats 4000000 in
theorem rf21_Of (h : GH) (G : Gr) (At : Option Addr) (n c : Nat) (l : List Int) (w : World) (hg : GrAt w h G) (ht : Ints .i64 w At n c l) (hn2 : n ≤ 400) (h1 : h.n1 ≤ 100) (h2 : h.n2 ≤ 100) (h3 : h.n3 ≤ 100) :
    Calls Tryz.prog 35 #[GV h G.start, .slice At n c] w fun e w' => Below w.heap.size w w' ∧
      ((ofT G l = none ∧ e = .returned (.tuple #[.slice none 0 0, .int .i64 (ofE G)])) ∨ (∃ t A c', ofT G l = some t ∧ e = .returned (.tuple #[.slice A t.length c', .int .i64 0]) ∧ Ints .i64 w' A t.length c' t)) := by
  obtain rfl := ht.len
  have hcap := ht.cap
  obtain ⟨a1, n1, c1, a2, n2, c2, a3, n3, c3⟩ := h
  simp only [] at h1 h2 h3
  have hB0 := alloc_below w (.cells #[.slice a1 n1 c1, .slice a2 n2 c2, .slice a3 n3 c3, .int .i64 G.start] 26)
  have hbox := GBox.new w 26 ⟨a1, n1, c1, a2, n2, c2, a3, n3, c3⟩ G.start
  have e3 : G.rules.length = n3 := hg.rules.len
  have k3 := hg.rules.cap
  simp only [] at k3
  have Hg := Lib.hid hg
  have Ht := Lib.hid ht
  have CR := Lib.hid (rf_right9 ⟨a1, n1, c1, a2, n2, c2, a3, n3, c3⟩ G _ (hg.below hB0) (by simp only []; omega) (by simp only []; omega) (by simp only []; omega))
  clear hg ht
  go_enter Tryz.func35, Tryz.ntmps35
  go_wp2_with fail
  generalize w.alloc (.cells #[.slice a1 n1 c1, .slice a2 n2 c2, .slice a3 n3 c3, .int .i64 G.start] 26) = W0 at *
  (with_reducible refine CR.out.mono ?_)
  rintro e W1 ⟨rfl, hb1⟩
  have hB1 := below_tail hB0 hb1
  have hbx1 := hbox.below hb1
  rcases hrt : G.right with _ | _
  · have Hn : Hid (ofT G l = none) := Lib.hid (by unfold ofT; rw [hrt]; rfl)
    have HE : Hid (ofE G = 1) := Lib.hid (by unfold ofE; rw [hrt]; rfl)
    clear hrt
    go_wp2_with fail
    refine bodyPost_ret (results_tmp2 rfl _ _ _) rfl ?_
    exact ⟨hB1, .inl ⟨Hn.out, by rw [HE.out]; rfl⟩⟩
  have HE : Hid (ofE G = 3) := Lib.hid (by unfold ofE; rw [hrt]; rfl)
  by_cases h300 : (300 : Int) < (l.length : Int)
  · have Hn : Hid (ofT G l = none) := Lib.hid (by unfold ofT; rw [hrt, show decide (l.length ≤ 300) = false by rw [decide_eq_false_iff_not]; omega]; rfl)
    clear hrt
    go_wp2_with fail
    refine bodyPost_ret (results_tmp2 rfl _ _ _) rfl ?_
    exact ⟨hB1, .inl ⟨Hn.out, by rw [HE.out]; rfl⟩⟩
  have Hd : Hid (ofT G l = match ofGo G l [] with | some [t] => if (readT G t).isSome then some t else none | _ => none) := Lib.hid (by
    unfold ofT
    rw [hrt, show decide (l.length ≤ 300) = true by rw [decide_eq_true_iff]; omega]
    rfl)
  have hfit := Gr.fits hrt
  have Hfit := Lib.hid hfit
  have HB1 := Lib.hid hB1
  have Hbx1 := Lib.hid hbx1
  clear hrt hfit hB1 hbx1 hbox hB0 hb1
  go_wp2_with fail
  go_loopw [6, 7] (fun v i wr => ∃ (k d cT : Nat) (A : Option Addr) (th : List (List Int)) (cs : List Value), v = .slice A d cT ∧ i = .int .i64 (k : Int) ∧ k ≤ l.length ∧ d ≤ k ∧ (d = 0 → A = none ∧ cT = 0) ∧ Hid (th.length = d) ∧ Hid (lenS th = k) ∧
      Hid (wr.ownsRow W1.heap.size 32 1 (.slice A d cT) d cs) ∧ Hid (LsCs wr (fun b => W1.heap.size ≤ b ∧ (Value.slice A d cT).ownBlock ≠ some b) cs th) ∧ Hid (ofGo G l [] = ofGo G (l.drop k) th) ∧ Hid (Below W1.heap.size W1 wr)) (fun _ i _ => l.length - (intOf i).toNat)
  case atStart => exact ⟨0, 0, 0, none, [], [], rfl, rfl, Nat.zero_le _, Nat.zero_le _, fun _ => ⟨rfl, rfl⟩, Lib.hid rfl, Lib.hid rfl, Lib.hid (World.ownsRow_nil _ _ _ _), Lib.hid (LsCs.nil _ _), Lib.hid rfl, Lib.hid (Below.refl _ _)⟩
  case round =>
    obtain ⟨k, d, cT, A, th, cs, rfl, rfl, hk, hdk, hd0, Hth, Hlen, Ho, Hc, Hgo, HB⟩ := hrel
    have HBw := Lib.hid (below_tail HB1.out HB.out)
    have ⟨z5, z0, z1, z2, z3⟩ := Hbx1.out.below HB.out
    simp only [] at z0 z1 z2 z3
    have hsz : W1.heap.size ≤ wr.heap.size := HB.out.size
    by_cases hkl : k < l.length
    case neg =>
      have hkk : k = l.length := by omega
      have hgo : ofGo G l [] = some th := by
        rw [Hgo.out, List.drop_eq_nil_of_le (by omega)]
        rfl
      have hthl := Hth.out
      by_cases hd1 : d = 1
      case neg =>
        have Hn : Hid (ofT G l = none) := Lib.hid (by
          rw [Hd.out, hgo]
          match th, hthl with
          | [], _ => rfl
          | [t], hthl => exact absurd hthl.symm hd1
          | t :: u :: v, _ => rfl)
        have hne : ((d : Int) != 1) = true := by rw [bne_iff_ne]; omega
        clear hgo hthl
        go_wp2_with fail
        refine wp_region_below (by kernel_rfl) (by kernel_rfl) ?_
        repeat (go_big_quiet_step (fail))
        refine wpQuiet_nil ?_
        rintro _ ⟨x, rfl⟩
        have HBx := Lib.hid (below_tail HBw.out (bl_below wr x))
        go_wp2_with fail
        refine bodyPost_ret (results_tmp2 rfl _ _ _) rfl ?_
        exact ⟨HBx.out, .inl ⟨Hn.out, by rw [HE.out]; rfl⟩⟩
      case pos =>
        subst hd1
        obtain ⟨t, rfl⟩ : ∃ t, th = [t] := by
          match th, hthl with
          | [t], _ => exact ⟨t, rfl⟩
        obtain ⟨gT, gOff, t', At', ct, hA, hgT, Ht', qT, hti⟩ := (own_lss Ho.out Hc.out).get (j := 0) (by omega)
        obtain rfl : t = t' := by have := Ht'.out; simpa using this
        subst hA
        rw [Nat.add_zero] at qT
        have htl : t.length ≤ 300 := by
          have h1 := Hlen.out
          have h2 : lenS [t] = t.length := by unfold lenS; simp
          omega
        have cT' := fun x : Ext wr => (rf21_Right ⟨a1, n1, c1, a2, n2, c2, a3, n3, c3⟩ G At' t.length ct t (bl wr x) ((Hg.out.below HBw.out).below (bl_below wr x)) (hti.below (bl_below wr x)) (by omega) (by simp only []; omega) (by simp only []; omega) (by simp only []; omega)).mono fun e w' hh => And.intro hh.2 hh.1
        have Hti := Lib.hid hti
        have hcc : 1 ≤ cT := (own_sl Ho.out).2.1
        have bc := bl_cell wr
        clear hgo hthl hti Ht'
        rcases hrd : (readT G t).isSome with _ | _
        · rw [hrd] at cT'
          have CT := Lib.hid cT'
          have Hn : Hid (ofT G l = none) := Lib.hid (by
            rw [Hd.out, Hgo.out, List.drop_eq_nil_of_le (by omega)]
            show (if (readT G t).isSome then some t else none) = none
            rw [hrd]
            rfl)
          clear hrd cT'
          go_wp2_with fail
          refine wp_region_below (by kernel_rfl) (by kernel_rfl) ?_
          repeat (go_big_quiet_step ((go_at_call 31; with_reducible exact bl_of (CT.out _))))
          refine wpQuiet_nil ?_
          rintro _ ⟨x, rfl⟩
          have HBx := Lib.hid (below_tail HBw.out (bl_below wr x))
          go_wp2_with fail
          refine bodyPost_ret (results_tmp2 rfl _ _ _) rfl ?_
          exact ⟨HBx.out, .inl ⟨Hn.out, by rw [HE.out]; rfl⟩⟩
        · rw [hrd] at cT'
          have CT := Lib.hid cT'
          have Hn : Hid (ofT G l = some t) := Lib.hid (by
            rw [Hd.out, Hgo.out, List.drop_eq_nil_of_le (by omega)]
            show (if (readT G t).isSome then some t else none) = some t
            rw [hrd]
            rfl)
          clear hrd cT'
          go_wp2_with fail
          refine wp_region_below (by kernel_rfl) (by kernel_rfl) ?_
          repeat (go_big_quiet_step ((go_at_call 31; with_reducible exact bl_of (CT.out _))))
          refine wpQuiet_nil ?_
          rintro _ ⟨x, rfl⟩
          have HBx := Lib.hid (below_tail HBw.out (bl_below wr x))
          have hqx := bc x gT gOff hgT
          rw [qT] at hqx
          go_wp2_with fail
          refine bodyPost_ret (results_tmp2 rfl _ _ _) rfl ?_
          exact ⟨HBx.out, .inr ⟨t, At', ct, Hn.out, rfl, Hti.out.below (bl_below wr x)⟩⟩
    case pos =>
      obtain ⟨bi, offi, i, rfl, hbi, Hi, q0⟩ := (Ht.out.below HBw.out).get hkl
      have bc := bl_cell wr
      by_cases hi0 : i < 0
      case pos =>
        have Hn : Hid (ofT G l = none) := Lib.hid (by
          rw [Hd.out, Hgo.out, ofGo_none Hi.out (by
            unfold ofStep
            rw [show ruleAt G i = none by unfold ruleAt; rw [if_neg (by omega)]])])
        go_wp2_with fail
        refine wp_region_below (by kernel_rfl) (by kernel_rfl) ?_
        repeat (go_big_quiet_step (fail))
        refine wpQuiet_nil ?_
        rintro _ ⟨x, rfl⟩
        have HBx := Lib.hid (below_tail HBw.out (bl_below wr x))
        go_wp2_with fail
        refine bodyPost_ret (results_tmp2 rfl _ _ _) rfl ?_
        exact ⟨HBx.out, .inl ⟨Hn.out, by rw [HE.out]; rfl⟩⟩
      case neg =>
      by_cases hi3 : (n3 : Int) ≤ i
      case pos =>
        have hd0' : decide (i < 0) = false := by rw [decide_eq_false_iff_not]; exact hi0
        have Hn : Hid (ofT G l = none) := Lib.hid (by
          rw [Hd.out, Hgo.out, ofGo_none Hi.out (by
            unfold ofStep
            rw [show ruleAt G i = none by unfold ruleAt; rw [if_pos (by omega)]; exact List.getElem?_eq_none (by omega)])])
        go_wp2_with fail
        refine wp_region_below (by kernel_rfl) (by kernel_rfl) ?_
        repeat (go_big_quiet_step (fail))
        refine wpQuiet_nil ?_
        rintro _ ⟨x, rfl⟩
        have HBx := Lib.hid (below_tail HBw.out (bl_below wr x))
        go_wp2_with fail
        refine bodyPost_ret (results_tmp2 rfl _ _ _) rfl ?_
        exact ⟨HBx.out, .inl ⟨Hn.out, by rw [HE.out]; rfl⟩⟩
      case neg =>
      obtain ⟨ir, rfl⟩ : ∃ ir : Nat, i = (ir : Int) := ⟨i.toNat, by omega⟩
      have hir : ir < n3 := by omega
      obtain ⟨rb, roff, r, Arr, crr, rfl, hrb, Hr0, w0c, w1c, w2c, hri⟩ := (Hg.out.below HBw.out).rules.get hir
      have hrat : ruleAt G (ir : Int) = some r := by
        unfold ruleAt
        rw [if_pos (by omega), Int.toNat_natCast]
        exact Hr0.out
      have hrl := Hfit.out.len r (List.mem_of_getElem? Hr0.out)
      have hng := negs_le r.right
      have hcapr := hri.cap
      have Hst : Hid (ofStep G th (ir : Int) = if negs r.right ≤ d then some (th.take (d - negs r.right) ++ [(ir : Int) :: (th.drop (d - negs r.right)).flatten]) else none) := Lib.hid (by
        unfold ofStep
        rw [hrat]
        simp only [Hth.out])
      have Hri := Lib.hid hri
      have hd1' : decide (n3 ≤ ir) = false := by rw [decide_eq_false_iff_not]; omega
      have hd2' : decide ((ir : Int) < 0) = false := by rw [decide_eq_false_iff_not]; omega
      clear hri hrat
      go_wp2_with fail
      refine wp_region_below (by kernel_rfl) (by kernel_rfl) ?_
      repeat (go_big_quiet_step (fail))
      refine wpQuiet_nil ?_
      rintro _ ⟨x, rfl⟩
      have hbx := bl_below wr x
      have hs2 := bl_size wr x
      rw [← bc x _ _ hbi] at q0
      rw [← bc x _ _ hrb] at w0c w1c w2c
      have hbx2 := (Hbx1.out.below HB.out).below hbx
      have Hb2 := Lib.hid hbx
      clear z0 z1 z2 z3 z5 bc hbx
      have ⟨z5, z0, z1, z2, z3⟩ := hbx2
      simp only [] at z0 z1 z2 z3
      generalize bl wr x = W2 at *
      have hbW2 : bi < W2.heap.size := by omega
      have hrW2 : rb < W2.heap.size := by omega
      have HS : Hid (∀ W', Below W2.heap.size W2 W' → W'.cell? ⟨w.heap.size, 2, none⟩ = some (.slice (some ⟨rb, roff, none⟩) n3 c3) ∧ W'.cell? ⟨bi, offi + k, none⟩ = some (.int .i64 (ir : Int)) ∧ W'.cell? ⟨rb, roff + ir * 3, none⟩ = some (.int .i64 r.left) ∧ W'.cell? ⟨rb, roff + ir * 3 + 1, none⟩ = some (.slice Arr r.right.length crr) ∧ W'.cell? ⟨rb, roff + ir * 3 + 2, none⟩ = some (.int .i64 r.prec) ∧ Below W2.heap.size W2 W') := Lib.hid fun W' hb2 => ⟨by rw [hb2.cell (by exact z5)]; exact z2, by rw [hb2.cell (by exact hbW2)]; exact q0, by rw [hb2.cell (by exact hrW2)]; exact w0c, by rw [hb2.cell (by exact hrW2)]; exact w1c, by rw [hb2.cell (by exact hrW2)]; exact w2c, hb2⟩
      go_wp2_with fail
      go_region_held3 (fun W' => W'.cell? ⟨w.heap.size, 2, none⟩ = some (.slice (some ⟨rb, roff, none⟩) n3 c3) ∧ W'.cell? ⟨bi, offi + k, none⟩ = some (.int .i64 (ir : Int)) ∧ W'.cell? ⟨rb, roff + ir * 3, none⟩ = some (.int .i64 r.left) ∧ W'.cell? ⟨rb, roff + ir * 3 + 1, none⟩ = some (.slice Arr r.right.length crr) ∧ W'.cell? ⟨rb, roff + ir * 3 + 2, none⟩ = some (.int .i64 r.prec) ∧ Below W2.heap.size W2 W')
        ((refine HS.out _ ?_; (repeat (first | assumption | exact Below.refl _ _ | refine Below.drew ?_ | refine below_alloc ?_ _ | refine below_set ?_ _ _ _ (by (first | exact Nat.le_refl _ | exact Nat.le_succ _ | exact Below.size (by assumption) | exact Nat.le_succ_of_le (Below.size (by assumption)) | (simp; done) | omega)))); done))
        (fail)
      have hRb := (Blk.new W2 41 #[.int .i64 r.left, .slice Arr r.right.length crr, .int .i64 r.prec]).drew
      have hb3 := ((Below.refl W2.heap.size W2).alloc (Nat.le_refl _) (.cells #[.int .i64 r.left, .slice Arr r.right.length crr, .int .i64 r.prec] 41)).drew
      have hsz3 : (W2.alloc (.cells #[.int .i64 r.left, .slice Arr r.right.length crr, .int .i64 r.prec] 41)).drew.heap.size = W2.heap.size + 1 := alloc_size _ _
      go_upto_region 12 with fail
      generalize (W2.alloc (.cells #[.int .i64 r.left, .slice Arr r.right.length crr, .int .i64 r.prec] 41)).drew = W3 at *
      have Hb3 := Lib.hid (below_tail Hb2.out hb3)
      have q03 : W3.cell? ⟨bi, offi + k, none⟩ = some (.int .i64 (ir : Int)) := by rw [hb3.cell (p := ⟨bi, offi + k, none⟩) hbW2]; exact q0
      have hbi3 : bi < W3.heap.size := by omega
      have hr1 : W3.cell? ⟨W2.heap.size, 1, none⟩ = some (.slice Arr r.right.length crr) := hRb.cell 1
      have Hri3 := Lib.hid (Hri.out.below Hb3.out)
      clear hRb z0 z1 z2 z3 z5 HS q0 w0c w1c w2c hbW2 hrW2 hbx2 hb3
      generalize hgR : W2.heap.size = gR at *
      have hgR3 : gR < W3.heap.size := by omega
      clear hgR hsz3 hs2
      go_wp2_with fail
      go_loopw [9, 10] (fun v i wq => ∃ kk mm : Nat, i = .int .i64 (kk : Int) ∧ v = .int .i64 (mm : Int) ∧ kk ≤ r.right.length ∧ mm ≤ kk ∧ Hid (mm = negs (r.right.take kk)) ∧ W3 = wq) (fun _ i _ => r.right.length - (intOf i).toNat)
      case atStart => exact ⟨0, 0, rfl, rfl, Nat.zero_le _, Nat.le_refl _, Lib.hid rfl, rfl⟩
      case round =>
        obtain ⟨kk, mm, rfl, rfl, hkk, hmm, Hmm, rfl⟩ := hrel
        by_cases hkkl : kk < r.right.length
        case pos =>
          obtain ⟨sb, so, s, rfl, hsb, Hss, qs⟩ := Hri3.out.get hkkl
          have Hst2 := Lib.hid (negs_take Hss.out)
          by_cases h0 : s < 0
          · have Hn2 : Hid (mm + 1 = negs (r.right.take (kk + 1))) := Lib.hid (by rw [Hst2.out, if_pos h0, Hmm.out])
            go_wp2_with fail
            go_roundw
            case rel => exact ⟨kk + 1, mm + 1, by go_num, by go_num, by omega, by omega, Hn2, by trivial⟩
            case measure => simp [intOf]; omega
          · have Hn2 : Hid (mm = negs (r.right.take (kk + 1))) := Lib.hid (by rw [Hst2.out, if_neg h0, Hmm.out]; rfl)
            go_wp2_with fail
            go_roundw
            case rel => exact ⟨kk + 1, mm, by go_num, by trivial, by omega, by omega, Hn2, by trivial⟩
            case measure => simp [intOf]; omega
        case neg =>
          have hn2 : mm = negs r.right := by rw [Hmm.out, List.take_of_length_le (by omega)]
          rw [← hn2] at Hst
          have hmm6 : mm ≤ 6 := by omega
          clear hn2 hng
          by_cases hdn : mm ≤ d
          case neg =>
            have Hn : Hid (ofT G l = none) := Lib.hid (by rw [Hd.out, Hgo.out, ofGo_none Hi.out (by rw [Hst.out, if_neg hdn])])
            have HB3w := Lib.hid (below_tail HBw.out Hb3.out)
            go_wp2_with fail
            refine bodyPost_ret (results_tmp2 rfl _ _ _) rfl ?_
            exact ⟨HB3w.out, .inl ⟨Hn.out, by rw [HE.out]; rfl⟩⟩
          case pos =>
            obtain ⟨lf, hlf⟩ : ∃ lf, lf = d - mm := ⟨_, rfl⟩
            have hwd : IntKind.i64.wrap ((d : Int) - (mm : Int)) = (lf : Int) := by rw [IntWalk.i64_in _ (by omega)]; omega
            have hstep : Hid (ofStep G th (ir : Int) = some (th.take lf ++ [(ir : Int) :: (th.drop lf).flatten])) := Lib.hid (by rw [Hst.out, if_pos hdn, hlf])
            have hdcap : d ≤ cT ∧ cT ≤ 9223372036854775807 := ⟨(own_sl Ho.out).2.1, (own_sl Ho.out).2.2.1⟩
            have hlen1 := flatten_split th lf
            rw [Hlen.out] at hlen1
            have hld : lf ≤ d := by omega
            have hdm0 : decide (d < mm) = false := by rw [decide_eq_false_iff_not]; omega
            have hdm : mm = d - lf := by omega
            have Hdm := Lib.hid hdm
            have hbm : lenS (th.drop lf) ≤ k := by omega
            have hk4 : k ≤ 400 := by omega
            clear hlf hlen1 hdm
            have hone : (W3.alloc (.cells #[.int .i64 (ir : Int)] 3)).ownsRow W3.heap.size 3 1 (.slice (some ⟨W3.heap.size, 0, none⟩) 1 1) 1 [.int .i64 (ir : Int)] := World.ownsRow_lit (base := W3.heap.size) (e := 3) (size := 1) W3 #[.int .i64 (ir : Int)] 1 (Nat.le_refl _) (by decide) (by simp)
            have HiA := Lib.hid Tryz.infoI64R
            have hb4 := alloc_below W3 (.cells #[.int .i64 (ir : Int)] 3)
            have Hone := Lib.hid hone
            have Hb4 := Lib.hid hb4
            have hs4 := hb4.size
            clear hone hb4
            go_upto_region 21 with fail
            generalize W3.alloc (.cells #[.int .i64 (ir : Int)] 3) = W4 at *
            generalize hgI : W3.heap.size = gI at *
            have HgI := Lib.hid hgI
            have hwog : wr.heap.size ≤ gI := by rw [← hgI]; exact Hb3.out.size
            clear q03 hr1 hgI
            go_wp2_with fail
            obtain ⟨wo, hwo⟩ : ∃ x, x = wr := ⟨_, rfl⟩
            subst hwo
            go_loopw [11, 12] (fun v i wq => ∃ (j mt ct : Nat) (A3 : Option Addr), i = .int .i64 (j : Int) ∧ v = .slice A3 mt ct ∧ lf ≤ j ∧ j ≤ d ∧ mt ≤ 1 + k ∧ Hid (mt = 1 + lenS ((th.drop lf).take (j - lf))) ∧ Hid (wq.ownsRow gI 3 1 (.slice A3 mt ct) mt (ints .i64 ((ir : Int) :: ((th.drop lf).take (j - lf)).flatten))) ∧ Hid (Below gI W3 wq)) (fun _ i _ => d - (intOf i).toNat)
            case atStart => exact ⟨lf, 1, 1, some ⟨gI, 0, none⟩, rfl, rfl, Nat.le_refl _, hld, by omega, Lib.hid (by rw [Nat.sub_self]; rfl), Lib.hid (by rw [Nat.sub_self]; exact Hone.out), Hb4⟩
            case round =>
              obtain ⟨j, mt, ct, A3, rfl, rfl, hlj, hjd, hmt, Hmt, HoT, HBq⟩ := hrel
              have HB4 := Lib.hid (Hb3.out.trans (HBq.out.mono hwog))
              have Ho' := Lib.hid (own_keepB Ho.out HB4.out)
              have Hc' : Hid (LsCs wr (fun b => W1.heap.size ≤ b ∧ (Value.slice A d cT).ownBlock ≠ some b) cs th) := Lib.hid (Hc.out.keep HB4.out.size fun k hk hav => ⟨HB4.out.block k hk, hav⟩)
              have hgIw : gI ≤ wr.heap.size := by rw [← HgI.out]; exact HBq.out.size
              by_cases hjl : j < d
              case pos =>
                obtain ⟨gT, gOff, lj, Aj, cj, rfl, hgT, Hlj, qj, hlji⟩ := (own_lss Ho'.out Hc'.out).get hjl
                have hdr : (th.drop lf)[j - lf]? = some lj := by
                  rw [List.getElem?_drop, show lf + (j - lf) = j by omega]
                  exact Hlj.out
                have hst1 := lenS_step hdr
                have hst2 := lenS_part (th.drop lf) (j - lf + 1)
                have hst3 := lenS_take hdr
                have hj1 : j + 1 - lf = j - lf + 1 := by omega
                have hmt2 : mt + lj.length ≤ 1 + k := by have := Hmt.out; omega
                have Hmt2 : Hid (mt + lj.length = 1 + lenS ((th.drop lf).take (j + 1 - lf))) := Lib.hid (by rw [hj1, hst1, Hmt.out]; omega)
                have Hfl2 : Hid (((th.drop lf).take (j + 1 - lf)).flatten = ((th.drop lf).take (j - lf)).flatten ++ lj) := Lib.hid (by rw [hj1, hst3])
                have Hli := Lib.hid hlji
                clear hdr hst1 hst2 hst3 hj1 hlji
                go_wp2_with (first
                  | (at_builtin; refine wpl_appendI rfl _ _ 32 rfl gI 3 _ 8 Tryz.underlying32 HiA.out (by decide) A3 mt ct (ints .i64 ((ir : Int) :: ((th.drop lf).take (j - lf)).flatten)) rfl HoT.out Aj lj.length cj (ints .i64 lj) rfl Hli.out (ints_one _ _) (by omega) (by omega) hgIw ?_; intro A6 c6 w6 ho6 hg6 ha6
                     have Ho6 := Lib.hid ho6
                     have HB6 := Lib.hid (below_append HBq.out hg6 HoT.out hgIw)
                     clear ho6 hg6 ha6))
                go_roundw
                case rel => exact ⟨j + 1, mt + lj.length, c6, A6, by go_num, rfl, by omega, by omega, hmt2, Hmt2, Lib.hid (by rw [Hfl2.out, ← List.cons_append, ints_append]; exact Ho6.out), HB6⟩
                case measure => simp [intOf]; omega
              case neg =>
                have hje : j = d := by omega
                have hall : (th.drop lf).take (j - lf) = th.drop lf := List.take_of_length_le (by rw [List.length_drop, Hth.out, hje]; exact Nat.le_refl _)
                have HmtE : Hid (mt = ((ir : Int) :: (th.drop lf).flatten).length) := Lib.hid (by rw [Hmt.out, hall]; unfold lenS; simp <;> omega)
                have Hi4 : Hid (Ints .i64 wr A3 ((ir : Int) :: (th.drop lf).flatten).length ct ((ir : Int) :: (th.drop lf).flatten)) := Lib.hid (by
                  rw [← HmtE.out]
                  have := own_sl HoT.out
                  rw [hall] at this
                  exact this)
                have Hf4 : Hid (∀ b off, A3 = some ⟨b, off, none⟩ → wo.heap.size ≤ b ∧ b < wr.heap.size) := Lib.hid fun b off hb => by
                  have h1 := HoT.out.lt b (by rw [hb]; rfl)
                  exact ⟨by omega, h1.2⟩
                have Ho4 := Lib.hid (own_cut Ho'.out hld)
                have HRow := Lib.hid Tryz.infoRow
                have hbs4 : W1.heap.size ≤ wr.heap.size := Nat.le_trans hsz HB4.out.size
                have Hln := Lib.hid ((ofStep_len hstep.out).1.trans (by rw [Hlen.out]))
                have Hgn := Lib.hid (Hgo.out.trans (ofGo_some Hi.out hstep.out))
                clear hall
                subst hje
                rcases Nat.eq_zero_or_pos j with hdz | hdp
                case inl =>
                  obtain ⟨rfl, rfl⟩ := hd0 hdz
                  subst hdz
                  obtain rfl : lf = 0 := by omega
                  go_wp2_with (first
                    | (at_builtin; refine wpl_appendT rfl _ _ 75 rfl W1.heap.size 32 _ 1 24 Tryz.underlying75 HRow.out (by decide) (by decide) none 0 0 (cs.take 0) rfl Ho4.out [.slice A3 mt ct] rfl rfl (by simp [Value.oneCell']) (by omega) (by omega) hbs4 ?_; intro A5 c5 w5 ho5 hg5 ha5
                       have Ho5 := Lib.hid ho5
                       have HB5 := Lib.hid (below_appendG (HB.out.trans (HB4.out.mono hsz)) hg5 Ho4.out hbs4)
                       have hsm := stack_more (c5 := c5) (A5 := A5) hsz Ho.out Hc.out HB4.out Hi4.out Hf4.out hg5 rfl ha5
                       rw [← HmtE.out] at hsm
                       have Hsm := Lib.hid hsm
                       clear ho5 hg5 ha5 hsm))
                  go_roundw
                  case rel => exact ⟨k + 1, 0 + 1, c5, A5, _, _, rfl, by go_num, by omega, by omega, fun h => by omega, Lib.hid (by have := Hth.out; simp <;> omega), Hln, Ho5, Hsm, Hgn, HB5⟩
                  case measure => simp [intOf]; omega
                case inr =>
                  obtain ⟨gT, rfl, hgT1, hgT2, _⟩ := own_cells Ho.out hdp
                  go_wp2_with (first
                    | (at_builtin; refine wpl_appendT rfl _ _ 75 rfl W1.heap.size 32 _ 1 24 Tryz.underlying75 HRow.out (by decide) (by decide) (some ⟨gT, 0, none⟩) lf cT (cs.take lf) rfl Ho4.out [.slice A3 mt ct] rfl rfl (by simp [Value.oneCell']) (by omega) (by omega) hbs4 ?_; intro A5 c5 w5 ho5 hg5 ha5
                       have Ho5 := Lib.hid ho5
                       have HB5 := Lib.hid (below_appendG (HB.out.trans (HB4.out.mono hsz)) hg5 Ho4.out hbs4)
                       have hsm := stack_more (c5 := c5) (A5 := A5) hsz Ho.out Hc.out HB4.out Hi4.out Hf4.out hg5 rfl ha5
                       rw [← HmtE.out] at hsm
                       have Hsm := Lib.hid hsm
                       clear ho5 hg5 ha5 hsm))
                  go_roundw
                  case rel => exact ⟨k + 1, lf + 1, c5, A5, _, _, rfl, by go_num, by omega, by omega, fun h => by omega, Lib.hid (by have := Hth.out; simp <;> omega), Hln, Ho5, Hsm, Hgn, HB5⟩
                  case measure => simp [intOf]; omega
end Go.Proofs.YtfdbpafenhdkbaaGreat
