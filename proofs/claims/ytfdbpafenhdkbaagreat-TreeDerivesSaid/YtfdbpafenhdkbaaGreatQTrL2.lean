/- trees: the law TreeDerives, walked. -/
import Derived.Test.YtfdbpafenhdkbaaGreatQTrA
import Derived.Test.YtfdbpafenhdkbaaGreatQTrD1
namespace Go.Proofs.YtfdbpafenhdkbaaGreat
open Go.RowKit
set_option linter.unusedVariables false
set_option linter.unusedSimpArgs false

set_option maxRecDepth 100000 in
set_option maxHeartbeats 4000000 in
theorem treeDerives_walk (h : GH) (G : Gr) (Ar : Option Addr) (nr cr : Nat) (zs : List Int) (w : World) (hgi : GrIn w h G) (hrow : IsRow .i64 w Ar nr cr zs) :
    Calls Tryz.prog 10 #[GV h G.start, .slice Ar nr cr] w fun e w' => e = .returned (.bool true) ∧ Below w.heap.size w w' := by
  obtain ⟨ss, hr, hwf⟩ := hrow.ints
  obtain rfl := hr.len
  have hcap := hr.cap
  obtain ⟨hg, hs, hst⟩ := hgi
  obtain ⟨a1, n1, c1, a2, n2, c2, a3, n3, c3⟩ := h
  have e1 : G.terms.length = n1 := hg.terms.len
  have e2 : G.nons.length = n2 := hg.nons.len
  have e3 : G.rules.length = n3 := hg.rules.len
  have hB0 := alloc_below w (.cells #[.slice a1 n1 c1, .slice a2 n2 c2, .slice a3 n3 c3, .int .i64 G.start] 26)
  have hbox := GBox.new w 26 ⟨a1, n1, c1, a2, n2, c2, a3, n3, c3⟩ G.start
  have CA := Lib.hid alive21
  have Hg := Lib.hid hg
  have Hs := Lib.hid hs
  have Hr := Lib.hid hr
  have HwfS : Hid (∀ s ∈ ss, InI64 s) := Lib.hid fun s hs => bounds_i64 (hwf s hs)
  clear hst hg hs hrow hwf hr
  go_enter Tryz.func10, Tryz.ntmps10
  go_wp2_with fail
  generalize w.alloc (.cells #[.slice a1 n1 c1, .slice a2 n2 c2, .slice a3 n3 c3, .int .i64 G.start] 26) = W0 at *
  (with_reducible refine (CA.out W0).mono ?_)
  rintro e W1 ⟨rfl, hb1⟩
  have hB1 := below_tail hB0 hb1
  have hbx1 := hbox.below hb1
  have ⟨y5, y0, y1, y2, y3⟩ := hbx1
  simp only [] at y0 y1 y2 y3
  go_wp2_with fail
  (with_reducible refine (rf_great ⟨a1, n1, c1, a2, n2, c2, a3, n3, c3⟩ G W1 (Hg.out.below hB1)).mono ?_)
  rintro e W2 ⟨rfl, hb2⟩
  have hB2 := below_tail hB1 hb2
  have hbx2 := hbx1.below hb2
  clear y0 y1 y2 y3 hbox hbx1 y5
  have ⟨y5, y0, y1, y2, y3⟩ := hbx2
  simp only [] at y0 y1 y2 y3
  rcases hgr : G.great with _ | _
  case' true =>
    clear hgr
    go_wp2_with fail
    go_ret
    exact ⟨rfl, hB2⟩
  obtain ⟨l1, l2, l3, _⟩ := great_false hgr
  rw [e1] at l1
  rw [e2] at l2
  rw [e3] at l3
  clear hgr
  by_cases h400 : (400 : Int) < (ss.length : Int)
  · go_wp2_with fail
    go_ret
    exact ⟨rfl, hB2⟩
  have HB2 := Lib.hid hB2
  have Hbx2 := Lib.hid hbx2
  clear hB2 hbx2 hB0 hB1 hb1 hb2
  have C1 := Lib.hid (tr_Reductions ⟨a1, n1, c1, a2, n2, c2, a3, n3, c3⟩ G Ar ss.length cr ss W2 (Hg.out.below HB2.out) Hs.out (Hr.out.below HB2.out) (by omega) (by simp only []; omega) (by simp only []; omega) (by simp only []; omega))
  have CW := Lib.hid (fun W (hW : Below w.heap.size w W) => tr_Word ⟨a1, n1, c1, a2, n2, c2, a3, n3, c3⟩ G Ar ss.length cr ss W (Hg.out.below hW) Hs.out (Hr.out.below hW) (by omega) (by simp only []; omega) (by simp only []; omega) (by simp only []; omega))
  go_wp2_with fail
  (with_reducible refine C1.out.mono ?_)
  rintro e W3 ⟨hb3, hcase⟩
  have HB3 := Lib.hid (below_tail HB2.out hb3)
  have Hbx3 := Lib.hid (Hbx2.out.below hb3)
  clear y0 y1 y2 y3 y5
  have ⟨y5, y0, y1, y2, y3⟩ := Hbx3.out
  simp only [] at y0 y1 y2 y3
  rcases hcase with ⟨hn, rfl⟩ | ⟨wd, ps, k, A, c', hn, rfl, hps⟩
  · go_wp2_with fail
    (with_reducible refine (CW.out _ HB3.out).mono ?_)
    rintro e W4 ⟨hb4, hc4⟩
    obtain ⟨_, rfl⟩ := hc4.resolve_right (fun hc => by
      obtain ⟨_, _, _, _, _, h1, _⟩ := hc
      rw [hn] at h1
      cases h1)
    have HB4 := Lib.hid (below_tail HB3.out hb4)
    clear hc4 hn hb4
    go_wp2_with fail
    go_ret
    exact ⟨rfl, HB4.out⟩
  · have Hn := Lib.hid hn
    have Hder := Lib.hid (tree_derives hn)
    obtain ⟨hrt, hl300, hfs⟩ := readT_parts hn
    have hpl := hfs.len
    have Hps := Lib.hid hps
    have Hfit := Lib.hid (Gr.fits hrt)
    have Hpl := Lib.hid hpl
    have hps3 : ps.length ≤ 300 := by omega
    clear hn hps hrt hfs hpl
    go_wp2_with fail
    (with_reducible refine (CW.out _ HB3.out).mono ?_)
    rintro e W4 ⟨hb4, hc4⟩
    obtain ⟨wd4, ps4, k4, A4, c4, h4, rfl, hwd4⟩ := hc4.resolve_left (fun hc => by
      have := hc.1.symm.trans Hn.out
      cases this)
    obtain rfl : wd4 = wd := by
      have := h4.symm.trans Hn.out
      injection this with this
      injection this
    have Hps4 := Lib.hid (Hps.out.below hb4)
    have Hwd4 := Lib.hid hwd4
    have CB := Lib.hid (fun W (hW : Below W4.heap.size W4 W) => (rf_Back A ps.length c' ps W (Hps4.out.below hW) (by omega)).mono fun e w' (hh : ∃ A' c'', e = .returned (.slice A' ps.length c'') ∧ w'.ownsRow W.heap.size 3 1 (.slice A' ps.length c'') ps.length (ints .i64 ps.reverse) ∧ Below W.heap.size W w') => (by
      obtain ⟨A', c'', h1, h2, h3⟩ := hh
      exact ⟨A', c'', h1, Lib.hid (own_sl h2), below_tail hW h3⟩ : ∃ A' c'', e = .returned (.slice A' ps.length c'') ∧ Hid (Ints .i64 w' A' ps.length c'' ps.reverse) ∧ Below W4.heap.size W4 w'))
    have HB4 := Lib.hid (below_tail HB3.out hb4)
    have Hbx4 := Lib.hid (Hbx3.out.below hb4)
    clear y0 y1 y2 y3 y5
    have ⟨y5, y0, y1, y2, y3⟩ := Hbx4.out
    simp only [] at y0 y1 y2 y3
    have CD := Lib.hid (fun W A' c'' (hW : Below W4.heap.size W4 W) (hI : Ints .i64 W A' ps.length c'' ps.reverse) => (rf_Derives ⟨a1, n1, c1, a2, n2, c2, a3, n3, c3⟩ G A' ps.length c'' ps.reverse A4 wd4.length c4 wd4 W (Hg.out.below (below_tail HB4.out hW)) Hfit.out hI (Hwd4.out.below hW) hps3 (by simp only []; omega)).mono fun e w' (hh : e = .returned (.bool (derP G ps.reverse wd4)) ∧ Below W.heap.size W w') => (by
      obtain ⟨h1, h2⟩ := hh
      rw [Hder.out] at h1
      exact ⟨h1, below_tail hW h2⟩ : e = .returned (.bool true) ∧ Below W4.heap.size W4 w'))
    have hlen : ((ps.length : Int) == (ss.length : Int)) = true := by rw [beq_iff_eq]; have := Hpl.out; omega
    have HS : Hid (∀ W', Below W4.heap.size W4 W' → W'.cell? ⟨w.heap.size, 0, none⟩ = some (.slice a1 n1 c1) ∧ W'.cell? ⟨w.heap.size, 1, none⟩ = some (.slice a2 n2 c2) ∧ W'.cell? ⟨w.heap.size, 2, none⟩ = some (.slice a3 n3 c3) ∧ W'.cell? ⟨w.heap.size, 3, none⟩ = some (.int .i64 G.start) ∧ Below W4.heap.size W4 W') := Lib.hid fun W' hb => ⟨by rw [hb.cell (by exact y5)]; exact y0, by rw [hb.cell (by exact y5)]; exact y1, by rw [hb.cell (by exact y5)]; exact y2, by rw [hb.cell (by exact y5)]; exact y3, hb⟩
    clear h4 hwd4 hb4 hc4
    go_wp2_with fail
    go_region_held3 (fun W' => W'.cell? ⟨w.heap.size, 0, none⟩ = some (.slice a1 n1 c1) ∧ W'.cell? ⟨w.heap.size, 1, none⟩ = some (.slice a2 n2 c2) ∧ W'.cell? ⟨w.heap.size, 2, none⟩ = some (.slice a3 n3 c3) ∧ W'.cell? ⟨w.heap.size, 3, none⟩ = some (.int .i64 G.start) ∧ Below W4.heap.size W4 W')
      ((refine HS.out _ ?_; (repeat (first | assumption | exact Below.refl _ _ | refine Below.drew ?_ | refine below_alloc ?_ _ | refine below_set ?_ _ _ _ (by (first | exact Nat.le_refl _ | exact Nat.le_succ _ | exact Below.size (by assumption) | exact Nat.le_succ_of_le (Below.size (by assumption)) | (simp; done) | omega)))); done))
      (first
        | (go_at_call 37; refine (CB.out _ (by (repeat (first | assumption | exact Below.refl _ _ | refine Below.drew ?_ | refine below_alloc ?_ _ | refine below_set ?_ _ _ _ (by (first | exact Nat.le_refl _ | exact Nat.le_succ _ | exact Below.size (by assumption) | exact Nat.le_succ_of_le (Below.size (by assumption)) | (simp; done) | omega)))))).mono ?_; rintro e w5 ⟨A5, c5, rfl, HI5, hB5⟩)
        | (go_at_call 36; refine (CD.out _ A5 c5 (by (repeat (first | assumption | exact Below.refl _ _ | refine Below.drew ?_ | refine below_alloc ?_ _ | refine below_set ?_ _ _ _ (by (first | exact Nat.le_refl _ | exact Nat.le_succ _ | exact Below.size (by assumption) | exact Nat.le_succ_of_le (Below.size (by assumption)) | (simp; done) | omega))))) (by exact HI5.out)).mono ?_; rintro e w6 ⟨rfl, hB6⟩))
    all_goals
      go_wp2_with fail
      go_ret
      exact ⟨rfl, below_tail HB4.out hB6⟩
end Go.Proofs.YtfdbpafenhdkbaaGreat
