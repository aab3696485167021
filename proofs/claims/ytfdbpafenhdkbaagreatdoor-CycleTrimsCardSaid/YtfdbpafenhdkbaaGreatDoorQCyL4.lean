/- cycles: the law of what is trimmed, walked. -/
import Derived.Test.YtfdbpafenhdkbaaGreatDoorQCyL1
import Derived.Test.YtfdbpafenhdkbaaGreatDoorQCyR2
namespace Go.Proofs.YtfdbpafenhdkbaaGreatDoor
open Go.RowKit
set_option linter.unusedVariables false
set_option linter.unusedSimpArgs false

set_option maxRecDepth 100000 in
set_option maxHeartbeats 4000000 in
theorem cycleTrims_walk (h : GH) (G : Gr) (w : World) (hgi : GrIn w h G) (hTab : TabAt w) :
    Calls Tryz.prog 6 #[GV h G.start] w fun e w' => e = .returned (.bool true) ∧ Below w.heap.size w w' := by
  obtain ⟨hg, hs, hst⟩ := hgi
  obtain ⟨a1, n1, c1, a2, n2, c2, a3, n3, c3⟩ := h
  have e1 : G.terms.length = n1 := hg.terms.len
  have e2 : G.nons.length = n2 := hg.nons.len
  have e3 : G.rules.length = n3 := hg.rules.len
  have hB0 := alloc_below w (.cells #[.slice a1 n1 c1, .slice a2 n2 c2, .slice a3 n3 c3, .int .i64 G.start] 26)
  have hbox := GBox.new w 26 ⟨a1, n1, c1, a2, n2, c2, a3, n3, c3⟩ G.start
  have Hg := Lib.hid hg
  have Hs := Lib.hid hs
  have HT := Lib.hid hTab
  clear hst hg hs hTab
  go_enter Tryz.func6, Tryz.ntmps6
  go_wp2_with fail
  generalize w.alloc (.cells #[.slice a1 n1 c1, .slice a2 n2 c2, .slice a3 n3 c3, .int .i64 G.start] 26) = W0 at *
  (with_reducible refine (alive13 W0 (HT.out.below hB0)).mono ?_)
  rintro e W1 ⟨rfl, hb1⟩
  have hB1 := below_tail hB0 hb1
  have hbx1 := hbox.below hb1
  have ⟨y5, y0, y1, y2, y3⟩ := hbx1
  simp only [] at y0 y1 y2 y3
  go_wp2_with fail
  (with_reducible refine (rf_great ⟨a1, n1, c1, a2, n2, c2, a3, n3, c3⟩ G W1 (Hg.out.below hB1)).mono ?_)
  rintro e W2 ⟨rfl, hb2⟩
  have hB2 := below_tail hB1 hb2
  have hbx2 := hbx1.below hb2
  clear y0 y1 y2 y3 y5 hbox hbx1
  have ⟨y5, y0, y1, y2, y3⟩ := hbx2
  simp only [] at y0 y1 y2 y3
  rcases hgr : G.great with _ | _
  case true =>
    clear hgr
    go_wp2_with fail
    go_ret
    exact ⟨rfl, hB2⟩
  obtain ⟨l1, l2, l3, _⟩ := great_false hgr
  rw [e1] at l1
  rw [e2] at l2
  rw [e3] at l3
  have hn1 : n1 ≤ 100 := by omega
  have hn2 : n2 ≤ 100 := by omega
  have hn3 : n3 ≤ 100 := by omega
  clear hgr l1 l2 l3
  go_wp2_with fail
  have cR := rf_Reduce ⟨a1, n1, c1, a2, n2, c2, a3, n3, c3⟩ G W2 (Hg.out.below hB2) hn1 hn2 hn3
  unfold RetRed at cR
  (with_reducible refine cR.mono ?_)
  rintro e W3 ⟨hb3, ⟨hno, er, her, rfl⟩ | ⟨hok, h', Ak, nk, ck, rfl, hg', m1, m2, m3⟩⟩
  · have hB3 := below_tail hB2 hb3
    clear cR hno y0 y1 y2 y3 y5 hbx2
    go_wp2_with fail
    go_ret
    exact ⟨rfl, hB3.trans ((alloc_below W3 _).mono hB3.size)⟩
  have hB3 := below_tail hB2 hb3
  have hbx3 := hbx2.below hb3
  have hrk : G.right = true ∧ (prodN G).getD G.start.toNat false = true := by unfold redOK at hok; rw [Bool.and_eq_true] at hok; exact hok
  have hends := red_ends hrk.1 hrk.2
  have hT' : (redG G).terms = G.terms := rfl
  obtain ⟨b1, k1, d1, b2, k2, d2, b3, k3, d3⟩ := h'
  generalize redG G = H at *
  have Hs' : Hid (∀ t ∈ H.terms, t.name.size ≤ maxLen) := Lib.hid (by rw [hT']; exact Hs.out)
  clear cR y0 y1 y2 y3 y5 hbx2 hok hrk hT'
  have hal := alloc_below W3 (.cells #[.slice b1 k1 d1, .slice b2 k2 d2, .slice b3 k3 d3, .int .i64 H.start] 26)
  have hbxH := GBox.new W3 26 ⟨b1, k1, d1, b2, k2, d2, b3, k3, d3⟩ H.start
  have hbx4 := hbx3.below hal
  have hB4 := below_tail hB3 hal
  have hg4 := hg'.below hal
  go_upto_region 6 with fail
  generalize W3.alloc (.cells #[.slice b1 k1 d1, .slice b2 k2 d2, .slice b3 k3 d3, .int .i64 H.start] 26) = W4 at *
  generalize W3.heap.size = gH at *
  have ⟨y5, y0, y1, y2, y3⟩ := hbx4
  simp only [] at y0 y1 y2 y3
  have ⟨z5, z0, z1, z2, z3⟩ := hbxH
  try simp only [] at z0 z1 z2 z3
  try simp only [] at m1 m2 m3
  have Hg4 := Lib.hid hg4
  have HS : Hid (∀ W', Below W4.heap.size W4 W' → W'.cell? ⟨w.heap.size, 0, none⟩ = some (.slice a1 n1 c1) ∧ W'.cell? ⟨w.heap.size, 1, none⟩ = some (.slice a2 n2 c2) ∧ W'.cell? ⟨w.heap.size, 2, none⟩ = some (.slice a3 n3 c3) ∧ W'.cell? ⟨w.heap.size, 3, none⟩ = some (.int .i64 G.start) ∧ W'.cell? ⟨gH, 0, none⟩ = some (.slice b1 k1 d1) ∧ W'.cell? ⟨gH, 1, none⟩ = some (.slice b2 k2 d2) ∧ W'.cell? ⟨gH, 2, none⟩ = some (.slice b3 k3 d3) ∧ W'.cell? ⟨gH, 3, none⟩ = some (.int .i64 H.start) ∧ Below W4.heap.size W4 W') := Lib.hid fun W' hb => ⟨by rw [hb.cell (by exact y5)]; exact y0, by rw [hb.cell (by exact y5)]; exact y1, by rw [hb.cell (by exact y5)]; exact y2, by rw [hb.cell (by exact y5)]; exact y3, by rw [hb.cell (by exact z5)]; exact z0, by rw [hb.cell (by exact z5)]; exact z1, by rw [hb.cell (by exact z5)]; exact z2, by rw [hb.cell (by exact z5)]; exact z3, hb⟩
  have CG := Lib.hid fun X (hb : Below W4.heap.size W4 X) => (tr_Endless stepsSaid usefulSaid ⟨a1, n1, c1, a2, n2, c2, a3, n3, c3⟩ G X ((Hg.out.below hB4).below hb) Hs.out ((HT.out.below hB4).below hb) hn1 hn2 hn3).mono fun e w' hh => And.intro (below_tail hb hh.1) hh.2
  have CH := Lib.hid fun X (hb : Below W4.heap.size W4 X) => (tr_Endless stepsSaid usefulSaid ⟨b1, k1, d1, b2, k2, d2, b3, k3, d3⟩ H X (Hg4.out.below hb) Hs'.out ((HT.out.below hB4).below hb) (by simp only []; omega) (by simp only []; omega) (by simp only []; omega)).mono fun e w' hh => And.intro (below_tail hb hh.1) hh.2
  have CC := Lib.hid fun X (hb : Below W4.heap.size W4 X) => (tr_Cycles stepsSaid ⟨b1, k1, d1, b2, k2, d2, b3, k3, d3⟩ H X (Hg4.out.below hb) Hs'.out ((HT.out.below hB4).below hb) (by simp only []; omega) (by simp only []; omega) (by simp only []; omega)).mono fun e w' hh => And.intro (below_tail hb hh.1) hh.2
  rw [← hends.1] at CG
  have hcz : (((cycG H : Nat) : Int) != 0) = endG H := by
    rw [Bool.eq_iff_iff, hends.2, bne_iff_ne]
    omega
  have HB4 := Lib.hid hB4
  generalize cycG H = cg at *
  generalize endG H = eg at *
  clear hends hbx4 hbxH hB4 hB3 hB2 hB1 hB0 hb1 hb2 hb3 hal hg' hg4 hbx3
  go_wp2_with fail
  go_region_held3 (fun W' => W'.cell? ⟨w.heap.size, 0, none⟩ = some (.slice a1 n1 c1) ∧ W'.cell? ⟨w.heap.size, 1, none⟩ = some (.slice a2 n2 c2) ∧ W'.cell? ⟨w.heap.size, 2, none⟩ = some (.slice a3 n3 c3) ∧ W'.cell? ⟨w.heap.size, 3, none⟩ = some (.int .i64 G.start) ∧ W'.cell? ⟨gH, 0, none⟩ = some (.slice b1 k1 d1) ∧ W'.cell? ⟨gH, 1, none⟩ = some (.slice b2 k2 d2) ∧ W'.cell? ⟨gH, 2, none⟩ = some (.slice b3 k3 d3) ∧ W'.cell? ⟨gH, 3, none⟩ = some (.int .i64 H.start) ∧ Below W4.heap.size W4 W')
    ((refine HS.out _ ?_; (repeat (first | assumption | exact Below.refl _ _ | refine Below.drew ?_)); done))
    (first
      | (go_at_call 16; with_reducible refine (CG.out _ (by (repeat (first | assumption | exact Below.refl _ _ | refine Below.drew ?_)))).mono ?_; rintro e w5 ⟨hB5, rfl⟩)
      | (go_at_call 16; with_reducible refine (CH.out _ (by (repeat (first | assumption | exact Below.refl _ _ | refine Below.drew ?_)))).mono ?_; rintro e w5 ⟨hB5, rfl⟩)
      | (go_at_call 14; with_reducible refine (CC.out _ (by (repeat (first | assumption | exact Below.refl _ _ | refine Below.drew ?_)))).mono ?_; rintro e w6 ⟨hB6, rfl⟩))
  all_goals
    go_wp2_with fail
    go_ret
    exact ⟨by simp [hcz], HB4.out.trans ((by (repeat (first | assumption | exact Below.refl _ _ | refine Below.drew ?_)) : Below W4.heap.size W4 _).mono HB4.out.size)⟩
end Go.Proofs.YtfdbpafenhdkbaaGreatDoor
