/- the cycles: the reference's, walked. -/
import Derived.Test.YtfdbpafenhdkbaaGreatDoorQCyW4
namespace Go.Proofs.YtfdbpafenhdkbaaGreatDoor
open Go.RowKit
set_option linter.unusedVariables false
set_option linter.unusedSimpArgs false

theorem hasN_nat {s : Nat} (hs : s < 4294967296) (k : Nat) : hasN s (k : Int) = s.testBit k := by
  unfold hasN
  rw [Int.toNat_natCast]
  rcases Nat.lt_or_ge k 32 with h | h
  · rw [decide_eq_true (by omega), Bool.true_and]
  · rw [test_big s hs k h, Bool.and_false]
theorem ref_hasN (s k : Nat) (w : World) (hs : s < 4294967296) : Calls Tryz.prog 22 #[.int .u32 (s : Int), .int .i64 (k : Int)] w fun e w' => e = .returned (.bool (s.testBit k)) ∧ w = w' :=
  (ref_has s k w hs).mono fun e w' h => by rw [hasN_nat hs] at h; exact h
/-- the cycles of a grammar; none where it is not right -/
def cycG (G : Gr) : Nat := if G.right then cycS (stepsN G) else 0
theorem cycG_lt (G : Gr) : cycG G < 4294967296 := by
  unfold cycG cycS
  split
  · exact setB_lt _ _
  · decide

set_option maxRecDepth 20000 in
set_option maxHeartbeats 4000000 in
theorem rf_Cycles (h : GH) (G : Gr) (w : World) (hg : GrAt w h G) (h1 : h.n1 ≤ 100) (h2 : h.n2 ≤ 100) (h3 : h.n3 ≤ 100) :
    Calls Tryz.prog 15 #[GV h G.start] w fun e w' => Below w.heap.size w w' ∧ e = .returned (.int .u32 ((cycG G : Nat) : Int)) := by
  obtain ⟨a1, n1, c1, a2, n2, c2, a3, n3, c3⟩ := h
  have e2 : G.nons.length = n2 := hg.nons.len
  have k2 := hg.nons.cap
  simp only [] at h1 h2 h3 k2
  have Hg := Lib.hid hg
  have hB0 := alloc_below w (.cells #[.slice a1 n1 c1, .slice a2 n2 c2, .slice a3 n3 c3, .int .i64 G.start] 26)
  have hbox := GBox.new w 26 ⟨a1, n1, c1, a2, n2, c2, a3, n3, c3⟩ G.start
  clear hg
  go_enter Tryz.func15, Tryz.ntmps15
  have ⟨z5, z0, z1, z2, z3⟩ := hbox
  simp only [] at z0 z1 z2 z3
  go_wp2_with fail
  generalize w.alloc (.cells #[.slice a1 n1 c1, .slice a2 n2 c2, .slice a3 n3 c3, .int .i64 G.start] 26) = W0 at *
  have Hbox := Lib.hid hbox
  have HB0 := Lib.hid hB0
  (with_reducible refine (rf_Steps ⟨a1, n1, c1, a2, n2, c2, a3, n3, c3⟩ G W0 (Hg.out.below hB0) (by simp only []; omega) (by simp only []; omega) (by simp only []; omega)).mono ?_)
  rintro e W1 ⟨hb1, hres⟩
  have HB1 := Lib.hid (below_tail hB0 hb1)
  have Hb1 := Lib.hid hb1
  have hbx1 := hbox.below hb1
  clear z0 z1 z2 z3 z5 hbox hB0 hb1
  rcases hres with ⟨hrt, rfl⟩ | ⟨hrt, gS, hgS, rfl, hT⟩
  · have ⟨y5, y0, y1, y2, y3⟩ := hbx1
    simp only [] at y0 y1 y2 y3
    have Hz : Hid (cycG G = 0) := Lib.hid (by unfold cycG; rw [hrt]; rfl)
    clear hrt hbx1
    go_wp2_with fail
    go_loop [4] (fun i => i = .int .i64 0) (fun i => 0)
    case atStart => rfl
    case round =>
      subst hrel
      rcases Nat.eq_zero_or_pos n2 with rfl | hpos
      · go_wp2_with fail
        go_loop [7, 8] (fun s i => s = .int .u32 0 ∧ i = .int .i64 0) (fun s i => 0)
        case atStart => exact ⟨rfl, rfl⟩
        case round =>
          obtain ⟨rfl, rfl⟩ := hrel
          go_wp2_with fail
          go_ret
          exact ⟨HB1.out, by rw [Hz.out]; rfl⟩
      · go_wp2_with fail
        go_loop [7, 8] (fun s i => s = .int .u32 0 ∧ i = .int .i64 0) (fun s i => 0)
        case atStart => exact ⟨rfl, rfl⟩
        case round =>
          obtain ⟨rfl, rfl⟩ := hrel
          go_wp2_with fail
          go_ret
          exact ⟨HB1.out, by rw [Hz.out]; rfl⟩
  · have hfit := Gr.fits hrt
    have Hn16 := hfit.n2.2
    have Hn1 := hfit.n2.1
    rw [e2] at Hn16 Hn1
    have hsl : (stepsN G).length = n2 := by rw [stepsN_len]; exact e2
    have hss := stepsN_small G
    have Hz : Hid (cycG G = cycS (stepsN G)) := Lib.hid (by unfold cycG; rw [hrt]; rfl)
    have HT := Lib.hid hT
    have HgS := Lib.hid hgS
    have hg1 : gS < W1.heap.size := hT.lt
    generalize stepsN G = S at *
    subst hsl
    have hd1 : decide (0 < S.length) = true := by rw [decide_eq_true_iff]; omega
    have hd2 : decide ((0 : Int) < (S.length : Int)) = true := by rw [decide_eq_true_iff]; omega
    have Hss := Lib.hid hss
    have Hfl := Lib.hid (floyd_eq S)
    have hcs := closeS_small hss
    have Hcs := Lib.hid hcs
    have Hcl := Lib.hid (closeS_len S)
    clear hfit hrt hT hgS hss hcs hbx1
    go_wp2_with fail
    go_loopw [4] (fun i wr => ∃ q : Nat, q ≤ S.length ∧ i = .int .i64 (q : Int) ∧ Hid (Below W0.heap.size W0 wr) ∧ Hid (SetT wr gS (iter (fwI S.length S.length) q S))) (fun i _ => S.length - (intOf i).toNat)
    case atStart => exact ⟨0, Nat.zero_le _, rfl, Hb1, HT⟩
    case round =>
      obtain ⟨q, hq, rfl, HB, HT⟩ := hrel
      have hbx := Hbox.out.below HB.out
      have ⟨y5, y0, y1, y2, y3⟩ := hbx
      simp only [] at y0 y1 y2 y3
      by_cases hqq : q < S.length
      case neg =>
        obtain rfl : q = S.length := by omega
        rw [Hfl.out] at HT
        have hcS : cycS S = setB (fun i => comesTo S i i) S.length := rfl
        have HcS := Lib.hid hcS
        clear hcS hbx
        go_wp2_with fail
        go_loop [7, 8] (fun s i => ∃ j : Nat, j ≤ S.length ∧ i = .int .i64 (j : Int) ∧ s = .int .u32 ((setB (fun i => comesTo S i i) j : Nat) : Int)) (fun s i => S.length - (intOf i).toNat)
        case atStart => exact ⟨0, Nat.zero_le _, rfl, rfl⟩
        case round =>
          obtain ⟨j, hj, rfl, rfl⟩ := hrel
          by_cases hjj : j < S.length
          case neg =>
            obtain rfl : j = S.length := by omega
            go_wp2_with fail
            go_ret
            exact ⟨below_tail HB0.out HB.out, by rw [Hz.out, HcS.out]; rfl⟩
          case pos =>
            have hat := HT.out.at (i := j) (by rw [Hcl.out]; exact hjj)
            have hlt := Hcs.out.get j
            have cH := ref_hasN ((closeS S).getD j 0) j wr hlt
            have hx : ((closeS S).getD j 0).testBit j = comesTo S j j := rfl
            have hsc := setB_succ (fun i => comesTo S i i) j
            have hsl := setB_lt (fun i => comesTo S i i) j
            have hor := or32 (setB (fun i => comesTo S i i) j) (bitN (j : Int)) hsl (bitN_lt _)
            have cB := ref_bit (j : Int) wr
            rw [hx] at cH
            generalize (closeS S).getD j 0 = v at *
            generalize comesTo S j j = b at *
            generalize setB (fun i => comesTo S i i) j = s0 at *
            generalize bitN (j : Int) = bj at *
            have Hsc := Lib.hid hsc
            have CH := Lib.hid cH
            have CB := Lib.hid cB
            clear hx hsc cH cB hlt
            cases b
            · go_wp2_with (go_at_call 22; (with_reducible refine CH.out.mono ?_); rintro e w' ⟨rfl, rfl⟩)
              go_round
              case rel => exact ⟨j + 1, by omega, by go_num, by rw [Hsc.out]; rfl⟩
              case measure => simp [intOf]; omega
            · go_wp2_with (first
                | (go_at_call 22; (with_reducible refine CH.out.mono ?_); rintro e w' ⟨rfl, rfl⟩)
                | (go_at_call 23; (with_reducible refine CB.out.mono ?_); rintro e w' ⟨rfl, rfl⟩))
              go_round
              case rel => exact ⟨j + 1, by omega, by go_num, by rw [Hsc.out]; rfl⟩
              case measure => simp [intOf]; omega
      case pos =>
        have Hnx : Hid (iter (fwI S.length S.length) (q + 1) S = fwI S.length S.length (iter (fwI S.length S.length) q S)) := Lib.hid rfl
        have hcl := iterFw_len S.length S.length S q
        have hcs := iterFw_small S.length S.length Hss.out q
        generalize iter (fwI S.length S.length) q S = F at *
        have Hls := Lib.hid hcl
        have Hsm := Lib.hid hcs
        clear hcl hcs hbx
        go_wp2_with fail
        clear y0 y1 y2 y3 y5
        go_loopw [5] (fun i wz => ∃ j : Nat, j ≤ S.length ∧ i = .int .i64 (j : Int) ∧ Hid (Below W0.heap.size W0 wz) ∧ Hid (SetT wz gS (fwI S.length j F))) (fun i _ => S.length - (intOf i).toNat)
        case atStart => exact ⟨0, Nat.zero_le _, rfl, HB, HT⟩
        case round =>
          obtain ⟨j, hj, rfl, HB, HT⟩ := hrel
          by_cases hjj : j < S.length
          case neg =>
            obtain rfl : j = S.length := by omega
            go_wp2_with fail
            go_roundw
            case rel => exact ⟨q + 1, by omega, by go_num, HB, Lib.hid (by rw [Hnx.out]; exact HT.out)⟩
            case measure => simp [intOf]; omega
          case pos =>
            have HnI := Lib.hid (fwI_succ S.length j F)
            have hcl := fwI_len S.length F j
            have hcs := fwI_small S.length Hsm.out j
            rw [Hls.out] at hcl
            generalize fwI S.length j F = F1 at *
            have Hl1 := Lib.hid hcl
            have Hs1 := Lib.hid hcs
            clear hcl hcs
            go_wp2_with fail
            go_loopw [6] (fun i wz => ∃ k : Nat, k ≤ S.length ∧ i = .int .i64 (k : Int) ∧ Hid (Below W0.heap.size W0 wz) ∧ Hid (SetT wz gS (fwR j k F1))) (fun i _ => S.length - (intOf i).toNat)
            case atStart => exact ⟨0, Nat.zero_le _, rfl, HB, HT⟩
            case round =>
              obtain ⟨k, hk, rfl, HB, HT⟩ := hrel
              by_cases hkk : k < S.length
              case neg =>
                obtain rfl : k = S.length := by omega
                go_wp2_with fail
                go_roundw
                case rel => exact ⟨j + 1, by omega, by go_num, HB, Lib.hid (by rw [HnI.out]; exact HT.out)⟩
                case measure => simp [intOf]; omega
              case pos =>
                have hsu := fwR_succ j k F1
                have hcl := fwR_len j F1 k
                have hcs := fwR_small j Hs1.out k
                rw [Hl1.out] at hcl
                generalize fwR j k F1 = F2 at *
                unfold fwK addAt at hsu
                have hat := HT.out.at (i := j) (by rw [hcl]; exact hjj)
                have hak := HT.out.at (i := k) (by rw [hcl]; exact hkk)
                have hfz := Blk.frozen HT.out j
                have hgw : gS < wr.heap.size := HT.out.lt
                have cH := ref_hasN (F2.getD j 0) k wr (hcs.get j)
                have hor := or32 (F2.getD j 0) (F2.getD k 0) (hcs.get j) (hcs.get k)
                have Hput := Lib.hid fun x : Ext wr => SetT.put (Blk.ext HT.out (bl_below wr x) : SetT (bl wr x) gS F2) j (F2.getD j 0 ||| F2.getD k 0)
                have CH := Lib.hid cH
                have bc := bl_cell wr
                have bf := bl_frozen wr
                generalize (F2.getD j 0).testBit k = b at *
                generalize F2.getD j 0 ||| F2.getD k 0 = z at *
                generalize F2.getD j 0 = vj at *
                generalize F2.getD k 0 = vk at *
                have Hsu := Lib.hid hsu
                clear hsu hcl hcs cH
                cases b
                · go_wp2_with (go_at_call 22; (with_reducible refine CH.out.mono ?_); rintro e w' ⟨rfl, rfl⟩)
                  go_roundw
                  case rel => exact ⟨k + 1, by omega, by go_num, HB, Lib.hid (by rw [Hsu.out]; exact HT.out)⟩
                  case measure => simp [intOf]; omega
                · go_wp2_with (go_at_call 22; (with_reducible refine CH.out.mono ?_); rintro e w' ⟨rfl, rfl⟩)
                  refine wp_region_below_tail 12 (by kernel_rfl) (by kernel_rfl) ?_
                  simp only [List.take_succ_cons, List.take_zero, List.drop_succ_cons, List.drop_zero]
                  repeat (go_big_quiet_step (fail))
                  refine wpQuiet_nil ?_
                  rintro _ ⟨x, rfl⟩
                  have hcx := (bc x gS j hgw).trans hat
                  have hfx := (bf x gS j hgw).trans hfz
                  have hsx := bl_size wr x
                  go_wp2_with fail
                  go_roundw
                  case rel => exact ⟨k + 1, by omega, by go_num, Lib.hid (below_set (below_tail HB.out (bl_below wr x)) _ _ _ HgS.out), Lib.hid (by rw [Hsu.out]; exact Hput.out x)⟩
                  case measure => simp [intOf]; omega
end Go.Proofs.YtfdbpafenhdkbaaGreatDoor

namespace Go.Proofs.YtfdbpafenhdkbaaGreatDoor
open Go.RowKit
set_option linter.unusedVariables false
set_option linter.unusedSimpArgs false

/-- those that are productive and reachable -/
def useS (G : Gr) : Nat := setB (fun i => (prodN G).getD i false && (reachN G).getD i false) G.nons.length
def useG (G : Gr) : Nat := if G.right then useS G else 0
theorem useG_lt (G : Gr) : useG G < 4294967296 := by
  unfold useG useS
  split
  · exact setB_lt _ _
  · decide
def endG (G : Gr) : Bool := (cycG G &&& useG G) != 0
theorem bne_cast (z : Nat) : ((z : Int) != 0) = (z != 0) := by
  rw [Bool.eq_iff_iff, bne_iff_ne, bne_iff_ne]
  omega
theorem reachN_len (G : Gr) : (reachN G).length = G.nons.length := by
  unfold reachN
  have : ∀ k, (iter (passI (reachI (prodN G)) G.rules) k (startN G)).length = (startN G).length := fun k => iterI_len _ _ _ k
  rw [this]
  unfold startN
  simp

set_option maxRecDepth 20000 in
set_option maxHeartbeats 4000000 in
theorem rf_useful (h : GH) (G : Gr) (w : World) (hg : GrAt w h G) (h1 : h.n1 ≤ 100) (h2 : h.n2 ≤ 100) (h3 : h.n3 ≤ 100) :
    Calls Tryz.prog 30 #[GV h G.start] w fun e w' => Below w.heap.size w w' ∧ e = .returned (.int .u32 ((useG G : Nat) : Int)) := by
  obtain ⟨a1, n1, c1, a2, n2, c2, a3, n3, c3⟩ := h
  have e2 : G.nons.length = n2 := hg.nons.len
  have k2 := hg.nons.cap
  simp only [] at h1 h2 h3 k2
  have Hg := Lib.hid hg
  have hB0 := alloc_below w (.cells #[.slice a1 n1 c1, .slice a2 n2 c2, .slice a3 n3 c3, .int .i64 G.start] 26)
  have hbox := GBox.new w 26 ⟨a1, n1, c1, a2, n2, c2, a3, n3, c3⟩ G.start
  clear hg
  go_enter Tryz.func30, Tryz.ntmps30
  have ⟨y5, y0, y1, y2, y3⟩ := hbox
  simp only [] at y0 y1 y2 y3
  go_upto_region 1 with fail
  generalize w.alloc (.cells #[.slice a1 n1 c1, .slice a2 n2 c2, .slice a3 n3 c3, .int .i64 G.start] 26) = W1 at *
  have HB1 := Lib.hid hB0
  have HG1 := Lib.hid (Hg.out.below hB0)
  clear hB0 hbox
  rcases hrt : G.right with _ | _
  · have Hrt := Lib.hid hrt
    have CP := Lib.hid fun x : Ext W1 => (rf_Productive ⟨a1, n1, c1, a2, n2, c2, a3, n3, c3⟩ G (bl W1 x) (HG1.out.below (bl_below W1 x)) (by simp only []; omega) (by simp only []; omega) (by simp only []; omega)).mono fun e w' hh => And.intro (hh.2.resolve_right fun hc => by rw [Hrt.out] at hc; cases hc.1).2 hh.1
    have CR := Lib.hid fun x : Ext W1 => (rf_Reachable ⟨a1, n1, c1, a2, n2, c2, a3, n3, c3⟩ G (bl W1 x) (HG1.out.below (bl_below W1 x)) (by simp only []; omega) (by simp only []; omega) (by simp only []; omega)).mono fun e w' hh => And.intro (hh.2.resolve_right fun hc => by rw [Hrt.out] at hc; cases hc.1).2 hh.1
    have Hz : Hid (useG G = 0) := Lib.hid (by unfold useG; rw [hrt]; rfl)
    have bc := bl_cell W1
    clear hrt
    refine wp_region_below (by kernel_rfl) (by kernel_rfl) ?_
    repeat (go_big_quiet_step (first
      | (go_at_call 20; with_reducible exact bl_of (CP.out _))
      | (go_at_call 21; with_reducible exact bl_of (CR.out _))))
    refine wpQuiet_nil ?_
    rintro _ ⟨x, rfl⟩
    have HBx := Lib.hid (below_tail HB1.out (bl_below W1 x))
    generalize bl W1 x = W2 at *
    clear y0 y1 y2 y3 y5 bc
    go_wp2_with fail
    go_loop [5, 6] (fun s i => s = .int .u32 0 ∧ i = .int .i64 0) (fun s i => 0)
    case atStart => exact ⟨rfl, rfl⟩
    case round =>
      obtain ⟨rfl, rfl⟩ := hrel
      go_wp2_with fail
      go_ret
      exact ⟨HBx.out, by rw [Hz.out]; rfl⟩
  · have hfit := Gr.fits hrt
    have Hrt := Lib.hid hrt
    have Hz : Hid (useG G = useS G) := Lib.hid (by unfold useG; rw [hrt]; rfl)
    have CN := Lib.hid fun X (hb : Below W1.heap.size W1 X) => (rf_Productive ⟨a1, n1, c1, a2, n2, c2, a3, n3, c3⟩ G X (HG1.out.below hb) (by simp only []; omega) (by simp only []; omega) (by simp only []; omega)).mono fun e w' hh => And.intro (below_tail hb hh.1) (And.intro (Lib.hid hh.1) (hh.2.resolve_left fun hc => by rw [Hrt.out] at hc; cases hc.1).2)
    have CP := Lib.hid fun X (hb : Below W1.heap.size W1 X) => (rf_Reachable ⟨a1, n1, c1, a2, n2, c2, a3, n3, c3⟩ G X (HG1.out.below hb) (by simp only []; omega) (by simp only []; omega) (by simp only []; omega)).mono fun e w' hh => And.intro (below_tail hb hh.1) (And.intro (Lib.hid hh.1) (hh.2.resolve_left fun hc => by rw [Hrt.out] at hc; cases hc.1).2)
    have HS : Hid (∀ W', Below W1.heap.size W1 W' → W'.cell? ⟨w.heap.size, 0, none⟩ = some (.slice a1 n1 c1) ∧ W'.cell? ⟨w.heap.size, 1, none⟩ = some (.slice a2 n2 c2) ∧ W'.cell? ⟨w.heap.size, 2, none⟩ = some (.slice a3 n3 c3) ∧ W'.cell? ⟨w.heap.size, 3, none⟩ = some (.int .i64 G.start) ∧ Below W1.heap.size W1 W') := Lib.hid fun W' hb => ⟨by rw [hb.cell (by exact y5)]; exact y0, by rw [hb.cell (by exact y5)]; exact y1, by rw [hb.cell (by exact y5)]; exact y2, by rw [hb.cell (by exact y5)]; exact y3, hb⟩
    clear hrt hfit
    go_region_held3 (fun W' => W'.cell? ⟨w.heap.size, 0, none⟩ = some (.slice a1 n1 c1) ∧ W'.cell? ⟨w.heap.size, 1, none⟩ = some (.slice a2 n2 c2) ∧ W'.cell? ⟨w.heap.size, 2, none⟩ = some (.slice a3 n3 c3) ∧ W'.cell? ⟨w.heap.size, 3, none⟩ = some (.int .i64 G.start) ∧ Below W1.heap.size W1 W')
      ((refine HS.out _ ?_; (repeat (first | assumption | exact Below.refl _ _ | refine Below.drew ?_ | refine below_alloc ?_ _ | refine below_set ?_ _ _ _ (by (first | exact Nat.le_refl _ | exact Nat.le_succ _ | exact Below.size (by assumption) | exact Nat.le_succ_of_le (Below.size (by assumption)) | (simp; done) | omega)))); done))
      (first
        | (go_at_call 20; refine (CN.out _ (by (repeat (first | assumption | exact Below.refl _ _ | refine Below.drew ?_ | refine below_alloc ?_ _ | refine below_set ?_ _ _ _ (by (first | exact Nat.le_refl _ | exact Nat.le_succ _ | exact Below.size (by assumption) | exact Nat.le_succ_of_le (Below.size (by assumption)) | (simp; done) | omega)))))).mono ?_; rintro e w2 ⟨hB2, Hb2, gN, hgN, rfl, HTN⟩)
        | (go_at_call 21; refine (CP.out _ (by (repeat (first | assumption | exact Below.refl _ _ | refine Below.drew ?_ | refine below_alloc ?_ _ | refine below_set ?_ _ _ _ (by (first | exact Nat.le_refl _ | exact Nat.le_succ _ | exact Below.size (by assumption) | exact Nat.le_succ_of_le (Below.size (by assumption)) | (simp; done) | omega)))))).mono ?_; rintro e w3 ⟨hB3, Hb3, gP, hgP, rfl, HTP⟩))
    have HN3 : Hid (BoolT w3 gN (prodN G)) := Lib.hid (Blk.hidden HTN Hb3)
    have HP3 : Hid (BoolT w3 gP (reachN G)) := Lib.hid HTP
    have HB3 := Lib.hid (below_tail HB1.out hB3)
    have Huse : Hid (useS G = setB (fun i => (prodN G).getD i false && (reachN G).getD i false) n2) := Lib.hid (by unfold useS; rw [e2])
    have Hlp : Hid ((prodN G).length = n2) := Lib.hid (by rw [prodN_len]; exact e2)
    have Hlr : Hid ((reachN G).length = n2) := Lib.hid (by rw [reachN_len]; exact e2)
    clear hB2 Hb2 hgN HTN Hb3 hgP HTP hB3 CN CP HS y0 y1 y2 y3 y5
    go_wp2_with fail
    go_loop [5, 6] (fun s i => ∃ j : Nat, j ≤ n2 ∧ i = .int .i64 (j : Int) ∧ s = .int .u32 ((setB (fun i => (prodN G).getD i false && (reachN G).getD i false) j : Nat) : Int)) (fun s i => n2 - (intOf i).toNat)
    case atStart => exact ⟨0, Nat.zero_le _, rfl, rfl⟩
    case round =>
      obtain ⟨j, hj, rfl, rfl⟩ := hrel
      by_cases hjj : j < n2
      case neg =>
        obtain rfl : j = n2 := by omega
        go_wp2_with fail
        go_ret
        exact ⟨HB3.out, by rw [Hz.out, Huse.out]; rfl⟩
      case pos =>
        have hap := HN3.out.at (i := j) (by rw [Hlp.out]; exact hjj)
        have har := HP3.out.at (i := j) (by rw [Hlr.out]; exact hjj)
        have hsc := setB_succ (fun i => (prodN G).getD i false && (reachN G).getD i false) j
        have hsl := setB_lt (fun i => (prodN G).getD i false && (reachN G).getD i false) j
        have hor := or32 (setB (fun i => (prodN G).getD i false && (reachN G).getD i false) j) (bitN (j : Int)) hsl (bitN_lt _)
        have cB := ref_bit (j : Int) w3
        generalize setB (fun i => (prodN G).getD i false && (reachN G).getD i false) j = s0 at *
        generalize (prodN G).getD j false = p at *
        generalize (reachN G).getD j false = q at *
        generalize bitN (j : Int) = bj at *
        have Hsc := Lib.hid hsc
        have CB := Lib.hid cB
        clear hsc cB
        cases p <;> cases q
        all_goals
          go_wp2_with (go_at_call 23; (with_reducible refine CB.out.mono ?_); rintro e w' ⟨rfl, rfl⟩)
          go_round
          case rel => exact ⟨j + 1, by omega, by go_num, by rw [Hsc.out]; rfl⟩
          case measure => simp [intOf]; omega

set_option maxRecDepth 20000 in
set_option maxHeartbeats 4000000 in
theorem rf_Endless (h : GH) (G : Gr) (w : World) (hg : GrAt w h G) (h1 : h.n1 ≤ 100) (h2 : h.n2 ≤ 100) (h3 : h.n3 ≤ 100) :
    Calls Tryz.prog 17 #[GV h G.start] w fun e w' => Below w.heap.size w w' ∧ e = .returned (.bool (endG G)) := by
  obtain ⟨a1, n1, c1, a2, n2, c2, a3, n3, c3⟩ := h
  have Hg := Lib.hid hg
  have hB0 := alloc_below w (.cells #[.slice a1 n1 c1, .slice a2 n2 c2, .slice a3 n3 c3, .int .i64 G.start] 26)
  have hbox := GBox.new w 26 ⟨a1, n1, c1, a2, n2, c2, a3, n3, c3⟩ G.start
  clear hg
  go_enter Tryz.func17, Tryz.ntmps17
  have ⟨y5, y0, y1, y2, y3⟩ := hbox
  simp only [] at y0 y1 y2 y3
  go_upto_region 1 with fail
  generalize w.alloc (.cells #[.slice a1 n1 c1, .slice a2 n2 c2, .slice a3 n3 c3, .int .i64 G.start] 26) = W1 at *
  have HB1 := Lib.hid hB0
  have HG1 := Lib.hid (Hg.out.below hB0)
  clear hB0 hbox
  have CC := Lib.hid fun x : Ext W1 => (rf_Cycles ⟨a1, n1, c1, a2, n2, c2, a3, n3, c3⟩ G (bl W1 x) (HG1.out.below (bl_below W1 x)) h1 h2 h3).mono fun e w' hh => And.intro hh.2 hh.1
  have CU := Lib.hid fun x : Ext W1 => (rf_useful ⟨a1, n1, c1, a2, n2, c2, a3, n3, c3⟩ G (bl W1 x) (HG1.out.below (bl_below W1 x)) h1 h2 h3).mono fun e w' hh => And.intro hh.2 hh.1
  have hand := and32 (cycG G) (useG G) (cycG_lt G) (useG_lt G)
  have he : endG G = ((((cycG G &&& useG G : Nat) : Int)) != 0) := by rw [bne_cast]; rfl
  have He := Lib.hid he
  generalize cycG G &&& useG G = z at *
  generalize cycG G = zc at *
  generalize useG G = zu at *
  have bc := bl_cell W1
  clear h1 h2 h3 he
  refine wp_region_below (by kernel_rfl) (by kernel_rfl) ?_
  repeat (go_big_quiet_step (first
    | (go_at_call 15; with_reducible exact bl_of (CC.out _))
    | (go_at_call 30; with_reducible exact bl_of (CU.out _))))
  refine wpQuiet_nil ?_
  rintro _ ⟨x, rfl⟩
  have HBx := Lib.hid (below_tail HB1.out (bl_below W1 x))
  generalize bl W1 x = W2 at *
  go_wp2_with fail
  go_ret
  exact ⟨HBx.out, by rw [He.out]; rfl⟩
end Go.Proofs.YtfdbpafenhdkbaaGreatDoor

namespace Go.Proofs.YtfdbpafenhdkbaaGreatDoor
set_option linter.unusedVariables false
set_option linter.unusedSimpArgs false

def andN (a b : Nat) : Nat := a ^^^ (a &&& b)
theorem andN_bit (a b t : Nat) : (andN a b).testBit t = (a.testBit t && !b.testBit t) := by
  unfold andN
  rw [Nat.testBit_xor, Nat.testBit_and]
  cases a.testBit t <;> cases b.testBit t <;> rfl
theorem andN_le (a b : Nat) : andN a b ≤ a := bits_le fun t h => by
  rw [andN_bit, Bool.and_eq_true] at h
  exact h.1
theorem andn32 (a b : Nat) (ha : a < 4294967296) (hb : b < 4294967296) : bits .andNot .u32 (a : Int) (b : Int) = ((andN a b : Nat) : Int) := by
  have hx : andN a b < 4294967296 := Nat.lt_of_le_of_lt (andN_le a b) ha
  have h1 : (BitVec.ofInt 32 (a : Int)).toNat = a := by rw [BitVec.ofInt_natCast, BitVec.toNat_ofNat]; exact Nat.mod_eq_of_lt (by omega)
  have h2 : (BitVec.ofInt 32 (b : Int)).toNat = b := by rw [BitVec.ofInt_natCast, BitVec.toNat_ofNat]; exact Nat.mod_eq_of_lt (by omega)
  show IntKind.u32.wrap ((BitVec.ofInt 32 (a : Int) &&& ~~~ BitVec.ofInt 32 (b : Int)).toNat : Int) = _
  have h3 : (BitVec.ofInt 32 (a : Int) &&& ~~~ BitVec.ofInt 32 (b : Int)).toNat = andN a b := by
    apply Nat.eq_of_testBit_eq
    intro t
    rw [BitVec.testBit_toNat, BitVec.getLsbD_and, BitVec.getLsbD_not, ← BitVec.testBit_toNat, ← BitVec.testBit_toNat, h1, h2, andN_bit]
    rcases Nat.lt_or_ge t 32 with h | h
    · simp [h]
    · rw [test_big a ha t h]; rfl
  rw [h3, IntKind.wrap_u32]
  omega
theorem bit_of_ne {x : Nat} (h : x ≠ 0) : ∃ t, x.testBit t = true := by
  apply Classical.byContradiction
  intro hc
  apply h
  apply Nat.eq_of_testBit_eq
  intro t
  rw [Nat.zero_testBit]
  cases hx : x.testBit t
  · rfl
  · exact absurd ⟨t, hx⟩ hc

/-! ### the next one -/
def pickB (S : List Nat) (use there i : Nat) : Bool := use.testBit i && !there.testBit i && (andN (S.getD i 0) there == 0)
def findB (f : Nat → Bool) (n : Nat) : Option Nat := (List.range n).find? f
theorem findB_some {f : Nat → Bool} {n i : Nat} (hi : i < n) (h : f i = true) (hb : ∀ j, j < i → f j = false) : findB f n = some i := by
  unfold findB
  rw [List.find?_range_eq_some]
  exact ⟨h, List.mem_range.2 hi, fun j hj => by rw [hb j hj]; rfl⟩
theorem findB_none {f : Nat → Bool} {n : Nat} (h : ∀ j, j < n → f j = false) : findB f n = none := by
  unfold findB
  rw [List.find?_eq_none]
  intro j hj
  rw [h j (List.mem_range.1 hj)]
  decide
theorem findB_none' {f : Nat → Bool} {n : Nat} (h : findB f n = none) : ∀ j, j < n → f j = false := by
  unfold findB at h
  rw [List.find?_eq_none] at h
  intro j hj
  have := h j (List.mem_range.2 hj)
  simpa using this
theorem findB_at {f : Nat → Bool} {n i : Nat} (h : findB f n = some i) : i < n ∧ f i = true := by
  unfold findB at h
  exact ⟨List.mem_range.1 (List.mem_of_find?_eq_some h), List.find?_some h⟩
def stepO (S : List Nat) (use n : Nat) (st : List Nat × Nat) : List Nat × Nat := match findB (pickB S use st.2) n with
  | none => st
  | some i => (st.1 ++ [i], st.2 ||| bitN (i : Int))
def orderS (S : List Nat) (use n k : Nat) : List Nat × Nat := iter (stepO S use n) k ([], 0)
theorem orderS_succ (S : List Nat) (use n k : Nat) : orderS S use n (k + 1) = stepO S use n (orderS S use n k) := rfl
theorem stepO_some {S : List Nat} {use n : Nat} {st : List Nat × Nat} {i : Nat} (h : findB (pickB S use st.2) n = some i) : stepO S use n st = (st.1 ++ [i], st.2 ||| bitN (i : Int)) := by
  unfold stepO; rw [h]
theorem stepO_none {S : List Nat} {use n : Nat} {st : List Nat × Nat} (h : findB (pickB S use st.2) n = none) : stepO S use n st = st := by
  unfold stepO; rw [h]
/-- what is there is what the order holds; each once; each behind its steps -/
structure OrdI (S : List Nat) (use n : Nat) (st : List Nat × Nat) : Prop where
  lt : st.2 < 4294967296
  mem : ∀ t, st.2.testBit t = true ↔ t ∈ st.1
  use : ∀ t ∈ st.1, use.testBit t = true ∧ t < n
theorem OrdI.step {S : List Nat} {use n : Nat} {st : List Nat × Nat} (hu : use < 4294967296) (h : OrdI S use n st) : OrdI S use n (stepO S use n st) := by
  cases hf : findB (pickB S use st.2) n with
  | none => rw [stepO_none hf]; exact h
  | some i =>
    rw [stepO_some hf]
    obtain ⟨hi, hp⟩ := findB_at hf
    unfold pickB at hp
    simp only [Bool.and_eq_true] at hp
    have h32 := bit_lt hu hp.1.1
    refine ⟨or_lt32 h.lt (bitN_lt _), fun t => ?_, fun t ht => ?_⟩
    · rw [Nat.testBit_or, bitN_test, Bool.or_eq_true, h.mem t, List.mem_append, List.mem_singleton]
      simp [h32]
    · rcases List.mem_append.1 ht with ht | ht
      · exact h.use t ht
      · rw [List.mem_singleton] at ht
        subst ht
        exact ⟨hp.1.1, hi⟩
theorem orderS_inv (S : List Nat) {use : Nat} (n : Nat) (hu : use < 4294967296) : ∀ k, OrdI S use n (orderS S use n k)
  | 0 => ⟨by show 0 < 4294967296; decide, fun t => by simp [orderS, iter], fun t h => by simp [orderS, iter] at h⟩
  | k + 1 => by rw [orderS_succ]; exact (orderS_inv S n hu k).step hu

/-! ### as many steps as places are enough -/
def thereOf (b : List Bool) : Nat := setB (fun i => b.getD i false) b.length
theorem thereOf_set {b : List Bool} {i : Nat} (hi : i < b.length) : thereOf (b.set i true) = thereOf b ||| bitN (i : Int) := by
  apply Nat.eq_of_testBit_eq
  intro t
  unfold thereOf
  rw [Nat.testBit_or, setB_bit, setB_bit, bitN_test, List.length_set, Bool.eq_iff_iff]
  simp only [Bool.and_eq_true, Bool.or_eq_true, decide_eq_true_eq, set_getD]
  constructor
  · rintro ⟨h1, h2, h3 | ⟨h3, _⟩⟩
    · exact .inl ⟨h1, h2, h3⟩
    · exact .inr ⟨by omega, h3⟩
  · rintro (⟨h1, h2, h3⟩ | ⟨h1, h2⟩)
    · exact ⟨h1, h2, .inl h3⟩
    · exact ⟨by omega, by omega, .inr ⟨h2, hi⟩⟩
def stepT (S : List Nat) (use n : Nat) (b : List Bool) : List Bool := match findB (pickB S use (thereOf b)) n with
  | none => b
  | some i => b.set i true
theorem stepT_grows (S : List Nat) (use n : Nat) : Grows (stepT S use n) := by
  refine ⟨fun b => ?_, fun b i h => ?_⟩
  · unfold stepT; split <;> simp
  · unfold stepT
    split
    · exact h
    · have hl := (List.getElem?_eq_some_iff.1 h).1
      rw [List.getElem?_set]
      split
      · rename_i he; subst he; simp [hl]
      · exact h
theorem iterT_len (S : List Nat) (use n : Nat) (b : List Bool) : ∀ k, (iter (stepT S use n) k b).length = b.length
  | 0 => rfl
  | k + 1 => by rw [iter, (stepT_grows S use n).len, iterT_len S use n b k]
theorem orderS_there (S : List Nat) (use n : Nat) : ∀ k, (orderS S use n k).2 = thereOf (iter (stepT S use n) k (List.replicate n false))
  | 0 => by
    apply Nat.eq_of_testBit_eq
    intro t
    unfold thereOf
    rw [setB_bit]
    simp only [orderS, iter, Nat.zero_testBit, List.length_replicate]
    by_cases h : t < n
    · simp [h]
    · simp [h]
  | k + 1 => by
    have ih := orderS_there S use n k
    have hl := iterT_len S use n (List.replicate n false) k
    rw [List.length_replicate] at hl
    rw [orderS_succ, iter]
    generalize iter (stepT S use n) k (List.replicate n false) = b at *
    cases hf : findB (pickB S use (orderS S use n k).2) n with
    | none =>
      rw [stepO_none hf]
      unfold stepT
      rw [← ih, hf]
      exact ih
    | some i =>
      rw [stepO_some hf]
      have hi := (findB_at hf).1
      unfold stepT
      rw [← ih, hf]
      rw [thereOf_set (by omega), ih]
theorem orderS_end (S : List Nat) {use : Nat} (n : Nat) (hu : use < 4294967296) : findB (pickB S use (orderS S use n n).2) n = none := by
  cases hf : findB (pickB S use (orderS S use n n).2) n with
  | none => rfl
  | some i =>
    exfalso
    have hfix := (stepT_grows S use n).fix (List.replicate n false)
    rw [List.length_replicate] at hfix
    have hl := iterT_len S use n (List.replicate n false) n
    rw [List.length_replicate] at hl
    rw [orderS_there] at hf
    generalize iter (stepT S use n) n (List.replicate n false) = b at *
    unfold stepT at hfix
    rw [hf] at hfix
    simp only [] at hfix
    obtain ⟨hi, hp⟩ := findB_at hf
    unfold pickB at hp
    simp only [Bool.and_eq_true] at hp
    have h32 := bit_lt hu hp.1.1
    have hb : b.getD i false = true := by
      rw [← hfix]
      exact (set_getD b i i).2 (.inr ⟨rfl, by omega⟩)
    have ht : (thereOf b).testBit i = true := by
      unfold thereOf
      rw [setB_bit, hb]
      simp [h32, hl, hi]
    rw [ht] at hp
    exact absurd hp.1.2 (by decide)
/-- where nothing more comes, all is the same -/
theorem orderS_same (S : List Nat) {use : Nat} (n : Nat) (hu : use < 4294967296) {k : Nat} (h : findB (pickB S use (orderS S use n k).2) n = none) : orderS S use n k = orderS S use n n :=
  iter_done (f := stepO S use n) (x := ([], 0)) (n := n) (k := k) (stepO_none (orderS_end S n hu)) (stepO_none h)

/-! ### where nothing is endless it goes on to the end -/
theorem order_goes {S : List Nat} {use there : Nat} (hc : ∀ i t, use.testBit i = true → (S.getD i 0).testBit t = true → use.testBit t = true) (hl : ∀ i, use.testBit i = true → i < S.length)
    (hno : ∀ i, use.testBit i = true → comesTo S i i = false) (hn : findB (pickB S use there) S.length = none) : andN use there = 0 := by
  have key : ∀ (m i : Nat), (andN use there).testBit i = true → (closeS S).getD i 0 = m → False := by
    intro m
    induction m using Nat.strongRecOn with
    | ind m ih =>
      intro i hi hm
      rw [andN_bit, Bool.and_eq_true] at hi
      have hil := hl i hi.1
      have hp := findB_none' hn i hil
      unfold pickB at hp
      rw [hi.1, hi.2, Bool.true_and, Bool.true_and] at hp
      have hne : andN (S.getD i 0) there ≠ 0 := by simpa using hp
      obtain ⟨t, ht⟩ := bit_of_ne hne
      rw [andN_bit, Bool.and_eq_true] at ht
      have hut := hc i t hi.1 ht.1
      have htl := hl t hut
      have h1 : comesTo S i t = true := comes_once hil ht.1
      have h2 := hno t hut
      have hle : (closeS S).getD t 0 ≤ (closeS S).getD i 0 := bits_le fun q hq => comes_step hil htl ht.1 hq
      have hne2 : (closeS S).getD t 0 ≠ (closeS S).getD i 0 := fun he => by
        unfold comesTo at h1 h2
        rw [he, h1] at h2
        cases h2
      exact ih _ (by omega) t (by rw [andN_bit, hut, ht.2]; rfl) rfl
  apply Classical.byContradiction
  intro h
  obtain ⟨i, hi⟩ := bit_of_ne h
  exact key _ i hi rfl
end Go.Proofs.YtfdbpafenhdkbaaGreatDoor
