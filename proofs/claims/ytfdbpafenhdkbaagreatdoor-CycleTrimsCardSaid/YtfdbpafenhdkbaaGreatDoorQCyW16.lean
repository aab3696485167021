/- the useful ones: the program's, walked. -/
import Derived.Test.YtfdbpafenhdkbaaGreatDoorQCyW15
namespace Go.Proofs.YtfdbpafenhdkbaaGreatDoor
open Go.RowKit
set_option linter.unusedVariables false
set_option linter.unusedSimpArgs false

theorem use_and (G : Gr) : setB (fun i => (prodN G).getD i false) G.nons.length &&& setB (fun i => (reachN G).getD i false) G.nons.length = useS G := by
  apply Nat.eq_of_testBit_eq
  intro t
  unfold useS
  rw [Nat.testBit_and, setB_bit, setB_bit, setB_bit]
  cases decide (t < 32) <;> cases decide (t < G.nons.length) <;> simp

set_option maxRecDepth 20000 in
set_option maxHeartbeats 4000000 in
theorem tr_useful (h : GH) (G : Gr) (w : World) (hg : GrAt w h G) (hs : ∀ t ∈ G.terms, t.name.size ≤ maxLen) (h1 : h.n1 ≤ 100) (h2 : h.n2 ≤ 100) (h3 : h.n3 ≤ 100) :
    Calls Tryz.prog 27 #[GV h G.start] w fun e w' => Below w.heap.size w w' ∧ e = .returned (.int .u32 ((useG G : Nat) : Int)) := by
  obtain ⟨a1, n1, c1, a2, n2, c2, a3, n3, c3⟩ := h
  have e2 : G.nons.length = n2 := hg.nons.len
  have k2 := hg.nons.cap
  simp only [] at h1 h2 h3 k2
  have Hg := Lib.hid hg
  have hB0 := alloc_below w (.cells #[.slice a1 n1 c1, .slice a2 n2 c2, .slice a3 n3 c3, .int .i64 G.start] 26)
  have hbox := GBox.new w 26 ⟨a1, n1, c1, a2, n2, c2, a3, n3, c3⟩ G.start
  clear hg
  go_enter Tryz.func27, Tryz.ntmps27
  have ⟨y5, y0, y1, y2, y3⟩ := hbox
  simp only [] at y0 y1 y2 y3
  go_upto_region 1 with fail
  generalize w.alloc (.cells #[.slice a1 n1 c1, .slice a2 n2 c2, .slice a3 n3 c3, .int .i64 G.start] 26) = W1 at *
  have HB1 := Lib.hid hB0
  have HG1 := Lib.hid (Hg.out.below hB0)
  clear hB0 hbox
  rcases hrt : G.right with _ | _
  · have Hrt := Lib.hid hrt
    have CP := Lib.hid fun x : Ext W1 => (tr_Productive ⟨a1, n1, c1, a2, n2, c2, a3, n3, c3⟩ G (bl W1 x) (HG1.out.below (bl_below W1 x)) hs (by simp only []; omega) (by simp only []; omega) (by simp only []; omega)).mono fun e w' hh => And.intro (hh.2.resolve_right fun hc => by rw [Hrt.out] at hc; cases hc.1).2 hh.1
    have CR := Lib.hid fun x : Ext W1 => (tr_Reachable ⟨a1, n1, c1, a2, n2, c2, a3, n3, c3⟩ G (bl W1 x) (HG1.out.below (bl_below W1 x)) hs (by simp only []; omega) (by simp only []; omega) (by simp only []; omega)).mono fun e w' hh => And.intro (hh.2.resolve_right fun hc => by rw [Hrt.out] at hc; cases hc.1).2 hh.1
    have CT := Lib.hid fun x : Ext W1 => tr_those_nil (bl W1 x)
    have Hz : Hid (useG G = 0) := Lib.hid (by unfold useG; rw [hrt]; rfl)
    have hand := and32 0 0 (by decide) (by decide)
    have bc := bl_cell W1
    clear hrt hs
    refine wp_region_below (by kernel_rfl) (by kernel_rfl) ?_
    repeat (go_big_quiet_step (first
      | (go_at_call 32; with_reducible exact bl_of (CP.out _))
      | (go_at_call 56; with_reducible exact bl_of (CR.out _))
      | (go_at_call 55; with_reducible exact bl_of_same (CT.out _))))
    refine wpQuiet_nil ?_
    rintro _ ⟨x, rfl⟩
    have HBx := Lib.hid (below_tail HB1.out (bl_below W1 x))
    generalize bl W1 x = W2 at *
    clear y0 y1 y2 y3 y5 bc
    go_wp2_with fail
    go_ret
    exact ⟨HBx.out, by rw [Hz.out]; rfl⟩
  · have Hrt := Lib.hid hrt
    have Hz : Hid (useG G = useS G) := Lib.hid (by unfold useG; rw [hrt]; rfl)
    have hua := use_and G
    rw [e2] at hua
    have hand := and32 (setB (fun i => (prodN G).getD i false) n2) (setB (fun i => (reachN G).getD i false) n2) (setB_lt _ _) (setB_lt _ _)
    rw [hua] at hand
    have Hlp : Hid ((prodN G).length = n2) := Lib.hid (by rw [prodN_len]; exact e2)
    have Hlr : Hid ((reachN G).length = n2) := Lib.hid (by rw [reachN_len]; exact e2)
    have CN := Lib.hid fun X (hb : Below W1.heap.size W1 X) => (tr_Productive ⟨a1, n1, c1, a2, n2, c2, a3, n3, c3⟩ G X (HG1.out.below hb) hs (by simp only []; omega) (by simp only []; omega) (by simp only []; omega)).mono fun e w' hh => And.intro (below_tail hb hh.1) (And.intro (Lib.hid fun g N (hT : BoolT X g N) => (Blk.ext hT hh.1 : BoolT w' g N)) (hh.2.resolve_left fun hc => by rw [Hrt.out] at hc; cases hc.1).2)
    have CR := Lib.hid fun X (hb : Below W1.heap.size W1 X) => (tr_Reachable ⟨a1, n1, c1, a2, n2, c2, a3, n3, c3⟩ G X (HG1.out.below hb) hs (by simp only []; omega) (by simp only []; omega) (by simp only []; omega)).mono fun e w' hh => And.intro (below_tail hb hh.1) (And.intro (Lib.hid fun g N (hT : BoolT X g N) => (Blk.ext hT hh.1 : BoolT w' g N)) (hh.2.resolve_left fun hc => by rw [Hrt.out] at hc; cases hc.1).2)
    have CT1 := Lib.hid fun g X (hb : Below W1.heap.size W1 X) (hT : BoolT X g (prodN G)) => (tr_those g n2 (prodN G) X hT Hlp.out (by omega)).mono fun e w' hh => And.intro hh.1 (And.intro (below_tail hb hh.2) (Lib.hid fun g N (hT : BoolT X g N) => (Blk.ext hT hh.2 : BoolT w' g N)))
    have CT2 := Lib.hid fun g X (hb : Below W1.heap.size W1 X) (hT : BoolT X g (reachN G)) => (tr_those g n2 (reachN G) X hT Hlr.out (by omega)).mono fun e w' hh => And.intro hh.1 (And.intro (below_tail hb hh.2) (Lib.hid fun g N (hT : BoolT X g N) => (Blk.ext hT hh.2 : BoolT w' g N)))
    have bc : ∀ W' b o, Below W1.heap.size W1 W' → b < W1.heap.size → W'.cell? ⟨b, o, none⟩ = W1.cell? ⟨b, o, none⟩ := fun W' b o hb h => hb.cell (p := ⟨b, o, none⟩) h
    generalize setB (fun i => (prodN G).getD i false) n2 = zp at *
    generalize setB (fun i => (reachN G).getD i false) n2 = zr at *
    generalize useS G = zu at *
    clear hrt hs hua
    have BC := Lib.hid bc
    have HS : Hid (∀ W', Below W1.heap.size W1 W' → W'.cell? ⟨w.heap.size, 0, none⟩ = some (.slice a1 n1 c1) ∧ W'.cell? ⟨w.heap.size, 1, none⟩ = some (.slice a2 n2 c2) ∧ W'.cell? ⟨w.heap.size, 2, none⟩ = some (.slice a3 n3 c3) ∧ W'.cell? ⟨w.heap.size, 3, none⟩ = some (.int .i64 G.start) ∧ Below W1.heap.size W1 W') := Lib.hid fun W' hb => ⟨by rw [hb.cell (by exact y5)]; exact y0, by rw [hb.cell (by exact y5)]; exact y1, by rw [hb.cell (by exact y5)]; exact y2, by rw [hb.cell (by exact y5)]; exact y3, hb⟩
    clear bc
    have fin : ∀ (W : World), Below W1.heap.size W1 W → Below w.heap.size w W := fun W hb => below_tail HB1.out hb
    have Fin := Lib.hid fin
    clear fin
    go_region_held3 (fun W' => W'.cell? ⟨w.heap.size, 0, none⟩ = some (.slice a1 n1 c1) ∧ W'.cell? ⟨w.heap.size, 1, none⟩ = some (.slice a2 n2 c2) ∧ W'.cell? ⟨w.heap.size, 2, none⟩ = some (.slice a3 n3 c3) ∧ W'.cell? ⟨w.heap.size, 3, none⟩ = some (.int .i64 G.start) ∧ Below W1.heap.size W1 W')
      ((refine HS.out _ ?_; (repeat (first | assumption | exact Below.refl _ _ | refine Below.drew ?_ | refine below_alloc ?_ _ | refine below_set ?_ _ _ _ (by (first | exact Nat.le_refl _ | exact Nat.le_succ _ | exact Below.size (by assumption) | exact Nat.le_succ_of_le (Below.size (by assumption)) | (simp; done) | omega)))); done))
      (first
      | (go_at_call 32; refine (CN.out _ (by (repeat (first | assumption | exact Below.refl _ _ | refine Below.drew ?_ | refine below_alloc ?_ _ | refine below_set ?_ _ _ _ (by (first | exact Nat.le_refl _ | exact Nat.le_succ _ | exact Below.size (by assumption) | exact Nat.le_succ_of_le (Below.size (by assumption)) | (simp; done) | omega)))))).mono ?_; rintro e w2 ⟨hB2, K2, gN, hgN, rfl, HTN⟩)
      | (go_at_call 56; refine (CR.out _ (by (repeat (first | assumption | exact Below.refl _ _ | refine Below.drew ?_ | refine below_alloc ?_ _ | refine below_set ?_ _ _ _ (by (first | exact Nat.le_refl _ | exact Nat.le_succ _ | exact Below.size (by assumption) | exact Nat.le_succ_of_le (Below.size (by assumption)) | (simp; done) | omega)))))).mono ?_; rintro e w3 ⟨hB3, K3, gP, hgP, rfl, HTP⟩)
      | (go_at_call 55; with_reducible refine (CT1.out gN _ (by (repeat (first | assumption | exact Below.refl _ _ | refine Below.drew ?_ | refine below_alloc ?_ _ | refine below_set ?_ _ _ _ (by (first | exact Nat.le_refl _ | exact Nat.le_succ _ | exact Below.size (by assumption) | exact Nat.le_succ_of_le (Below.size (by assumption)) | (simp; done) | omega))))) (by first | exact HTN | exact K3.out _ _ HTN | exact K5.out _ _ HTN | exact K5.out _ _ (K3.out _ _ HTN) | exact K3.out _ _ (K5.out _ _ HTN))).mono ?_; rintro e w4 ⟨rfl, hB4, K4⟩)
      | (go_at_call 55; with_reducible refine (CT2.out gP _ (by (repeat (first | assumption | exact Below.refl _ _ | refine Below.drew ?_ | refine below_alloc ?_ _ | refine below_set ?_ _ _ _ (by (first | exact Nat.le_refl _ | exact Nat.le_succ _ | exact Below.size (by assumption) | exact Nat.le_succ_of_le (Below.size (by assumption)) | (simp; done) | omega))))) (by first | exact HTP | exact K2.out _ _ HTP | exact K4.out _ _ HTP | exact K4.out _ _ (K2.out _ _ HTP) | exact K2.out _ _ (K4.out _ _ HTP))).mono ?_; rintro e w5 ⟨rfl, hB5, K5⟩))
    have HBf := Lib.hid (Fin.out _ hB5)
    clear CN CR CT1 CT2 HS BC K2 K3 K4 K5 HTN HTP hB2 hB3 hB4 hB5 y0 y1 y2 y3 y5
    go_wp2_with fail
    go_ret
    exact ⟨HBf.out, by rw [Hz.out]; rfl⟩
theorem usefulSaid : UsefulSaid := tr_useful
end Go.Proofs.YtfdbpafenhdkbaaGreatDoor
