/- first: the law that tells, walked, but for the fixed fact. -/
import Derived.Test.YtfdbpafenhdkbaaGreatQGrE1
namespace Go.Proofs.YtfdbpafenhdkbaaGreat
open Go.RowKit
set_option linter.unusedVariables false
set_option linter.unusedSimpArgs false

/-- the fixed fact of first's laws -/
abbrev Alive12 : Prop := ∀ w : World, Calls Tryz.prog 11 #[] w fun e w' => e = .returned (.bool true) ∧ Below w.heap.size w w'

/-- what comes back, as a slice of sets -/
theorem ret_sets {w w' : World} {e : Ending} {n : Nat} {b : Bool} {F : List Nat} (hn : F.length = n) (hn2 : n ≤ 1000) (h : Below w.heap.size w w' ∧ ((b = false ∧ e = .returned (.slice none 0 0)) ∨ (b = true ∧ ∃ g, w.heap.size ≤ g ∧ e = .returned (.slice (some ⟨g, 0, none⟩) n n) ∧ SetT w' g F))) :
    Below w.heap.size w w' ∧ ∃ A m c, e = .returned (.slice A m c) ∧ Nums .u32 w' A m c (if b then F else []) := by
  obtain ⟨hb, ⟨rfl, rfl⟩ | ⟨rfl, g, _, rfl, hT⟩⟩ := h
  · exact ⟨hb, none, 0, 0, rfl, Sl.nil _ _ _ (by omega)⟩
  · refine ⟨hb, _, _, _, rfl, ?_⟩
    have := SetT.nums hT (by omega)
    rw [hn] at this
    exact this
theorem Nums.hidden {w w' : World} {A : Option Addr} {n c : Nat} {xs : List Nat} (h : Nums .u32 w A n c xs) (hb : Hid (Below w.heap.size w w')) : Nums .u32 w' A n c xs := h.below hb.out
theorem great_false {G : Gr} (h : G.great = false) : G.terms.length ≤ 40 ∧ G.nons.length ≤ 40 ∧ G.rules.length ≤ 60 ∧ ∀ r ∈ G.rules, r.right.length ≤ 20 := by
  unfold Gr.great at h
  simp at h
  obtain ⟨⟨⟨h1, h2⟩, h3⟩, h4⟩ := h
  exact ⟨h1, h2, h3, h4⟩

set_option maxRecDepth 100000 in
set_option maxHeartbeats 4000000 in
theorem firstTells_walk' (hal : Alive12) (h : GH) (G : Gr) (w : World) (hgi : GrIn w h G) :
    Calls Tryz.prog 3 #[GV h G.start] w fun e w' => e = .returned (.bool true) ∧ Below w.heap.size w w' := by
  obtain ⟨hg, hs, hst⟩ := hgi
  obtain ⟨a1, n1, c1, a2, n2, c2, a3, n3, c3⟩ := h
  have e1 : G.terms.length = n1 := hg.terms.len
  have e2 : G.nons.length = n2 := hg.nons.len
  have e3 : G.rules.length = n3 := hg.rules.len
  have hB0 := alloc_below w (.cells #[.slice a1 n1 c1, .slice a2 n2 c2, .slice a3 n3 c3, .int .i64 G.start] 26)
  have hbox := GBox.new w 26 ⟨a1, n1, c1, a2, n2, c2, a3, n3, c3⟩ G.start
  have CA := Lib.hid hal
  have Hg := Lib.hid hg
  have Hs := Lib.hid hs
  clear hal hst hg hs
  go_enter Tryz.func3, Tryz.ntmps3
  go_wp2_with fail
  generalize w.alloc (.cells #[.slice a1 n1 c1, .slice a2 n2 c2, .slice a3 n3 c3, .int .i64 G.start] 26) = W0 at *
  (with_reducible refine (CA.out W0).mono ?_)
  rintro e W1 ⟨rfl, hb1⟩
  have hB1 := below_tail hB0 hb1
  have hbx1 := hbox.below hb1
  have ⟨y5, y0, y1, y2, y3⟩ := hbx1
  simp only [] at y0 y1 y2 y3
  go_wp2_with fail
  (with_reducible refine (rf_great ⟨a1, n1, c1, a2, n2, c2, a3, n3, c3⟩ G W1 (Hg.out.below hB1)).mono ?_)
  rintro e W2 ⟨rfl, hb2⟩
  have hB2 := below_tail hB1 hb2
  have hbx2 := hbx1.below hb2
  clear y0 y1 y2 y3 hbox hbx1
  have ⟨y5', y0, y1, y2, y3⟩ := hbx2
  simp only [] at y0 y1 y2 y3
  rcases hgr : G.great with _ | _
  · obtain ⟨l1, l2, l3, _⟩ := great_false hgr
    rw [e1] at l1
    rw [e2] at l2
    rw [e3] at l3
    have HS : Hid (∀ W', Below W2.heap.size W2 W' → W'.cell? ⟨w.heap.size, 0, none⟩ = some (.slice a1 n1 c1) ∧ W'.cell? ⟨w.heap.size, 1, none⟩ = some (.slice a2 n2 c2) ∧ W'.cell? ⟨w.heap.size, 2, none⟩ = some (.slice a3 n3 c3) ∧ W'.cell? ⟨w.heap.size, 3, none⟩ = some (.int .i64 G.start) ∧ Below W2.heap.size W2 W') := Lib.hid fun W' hb => ⟨by rw [hb.cell (by exact y5')]; exact y0, by rw [hb.cell (by exact y5')]; exact y1, by rw [hb.cell (by exact y5')]; exact y2, by rw [hb.cell (by exact y5')]; exact y3, hb⟩
    have lF : (firstN G).length = n2 := by rw [firstN_len, e2]
    have lW : (followN G).length = n2 := by unfold followN; rw [iterW_len, startW_len, e2]
    have C1 := Lib.hid fun X (hb : Below W2.heap.size W2 X) => (pf_First ⟨a1, n1, c1, a2, n2, c2, a3, n3, c3⟩ G X ((Hg.out.below hB2).below hb) Hs.out (by simp only []; omega) (by simp only []; omega) (by simp only []; omega)).mono fun e w' hh => And.intro (below_tail hb hh.1) (And.intro (Lib.hid hh.1) (ret_sets lF (by omega) hh).2)
    have C2 := Lib.hid fun X (hb : Below W2.heap.size W2 X) => (rf_First ⟨a1, n1, c1, a2, n2, c2, a3, n3, c3⟩ G X ((Hg.out.below hB2).below hb) (by simp only []; omega) (by simp only []; omega) (by simp only []; omega)).mono fun e w' hh => And.intro (below_tail hb hh.1) (And.intro (Lib.hid hh.1) (ret_sets lF (by omega) hh).2)
    have C3 := Lib.hid fun X (hb : Below W2.heap.size W2 X) => (pf_Follow ⟨a1, n1, c1, a2, n2, c2, a3, n3, c3⟩ G X ((Hg.out.below hB2).below hb) Hs.out (by simp only []; omega) (by simp only []; omega) (by simp only []; omega)).mono fun e w' hh => And.intro (below_tail hb hh.1) (And.intro (Lib.hid hh.1) (ret_sets lW (by omega) hh).2)
    have C4 := Lib.hid fun X (hb : Below W2.heap.size W2 X) => (rf_Follow ⟨a1, n1, c1, a2, n2, c2, a3, n3, c3⟩ G X ((Hg.out.below hB2).below hb) (by simp only []; omega) (by simp only []; omega) (by simp only []; omega)).mono fun e w' hh => And.intro (below_tail hb hh.1) (And.intro (Lib.hid hh.1) (ret_sets lW (by omega) hh).2)
    have CS := Lib.hid fun X A m c B n d xs (hb : Below W2.heap.size W2 X) (h1 : Nums .u32 X A m c xs) (h2 : Nums .u32 X B n d xs) => (ref_sets A m c xs B n d xs X h1 h2).mono fun e w' hh => And.intro (hh.1.trans (by rw [beq_self_eq_true])) (And.intro (below_tail hb (hh.2.below _)) (Lib.hid (hh.2.below X.heap.size)))
    have HB2 := Lib.hid hB2
    generalize (if G.right then firstN G else []) = fs at *
    generalize (if G.right then followN G else []) = ws at *
    clear hgr lF lW hbx2
    go_wp2_with fail
    go_region_held3 (fun W' => W'.cell? ⟨w.heap.size, 0, none⟩ = some (.slice a1 n1 c1) ∧ W'.cell? ⟨w.heap.size, 1, none⟩ = some (.slice a2 n2 c2) ∧ W'.cell? ⟨w.heap.size, 2, none⟩ = some (.slice a3 n3 c3) ∧ W'.cell? ⟨w.heap.size, 3, none⟩ = some (.int .i64 G.start) ∧ Below W2.heap.size W2 W')
      ((refine HS.out _ ?_; (repeat (first | assumption | exact Below.refl _ _ | refine Below.drew ?_ | refine below_alloc ?_ _ | refine below_set ?_ _ _ _ (by (first | exact Nat.le_refl _ | exact Nat.le_succ _ | exact Below.size (by assumption) | exact Nat.le_succ_of_le (Below.size (by assumption)) | (simp; done) | omega)))); done))
      (first
        | (go_at_call 14; refine (C1.out _ (by (repeat (first | assumption | exact Below.refl _ _ | refine Below.drew ?_ | refine below_alloc ?_ _ | refine below_set ?_ _ _ _ (by (first | exact Nat.le_refl _ | exact Nat.le_succ _ | exact Below.size (by assumption) | exact Nat.le_succ_of_le (Below.size (by assumption)) | (simp; done) | omega)))))).mono ?_; rintro e w3 ⟨hB3, Hb3, A3, m3, d3, rfl, HN3⟩)
        | (go_at_call 15; refine (C2.out _ (by (repeat (first | assumption | exact Below.refl _ _ | refine Below.drew ?_ | refine below_alloc ?_ _ | refine below_set ?_ _ _ _ (by (first | exact Nat.le_refl _ | exact Nat.le_succ _ | exact Below.size (by assumption) | exact Nat.le_succ_of_le (Below.size (by assumption)) | (simp; done) | omega)))))).mono ?_; rintro e w4 ⟨hB4, Hb4, A4, m4, d4, rfl, HN4⟩)
        | (go_at_call 16; refine (C3.out _ (by (repeat (first | assumption | exact Below.refl _ _ | refine Below.drew ?_ | refine below_alloc ?_ _ | refine below_set ?_ _ _ _ (by (first | exact Nat.le_refl _ | exact Nat.le_succ _ | exact Below.size (by assumption) | exact Nat.le_succ_of_le (Below.size (by assumption)) | (simp; done) | omega)))))).mono ?_; rintro e w6 ⟨hB6, Hb6, A6, m6, d6, rfl, HN6⟩)
        | (go_at_call 17; refine (C4.out _ (by (repeat (first | assumption | exact Below.refl _ _ | refine Below.drew ?_ | refine below_alloc ?_ _ | refine below_set ?_ _ _ _ (by (first | exact Nat.le_refl _ | exact Nat.le_succ _ | exact Below.size (by assumption) | exact Nat.le_succ_of_le (Below.size (by assumption)) | (simp; done) | omega)))))).mono ?_; rintro e w7 ⟨hB7, Hb7, A7, m7, d7, rfl, HN7⟩)
        | (go_at_call 13; with_reducible refine (CS.out _ A3 m3 d3 A4 m4 d4 fs (by (repeat (first | assumption | exact Below.refl _ _ | refine Below.drew ?_ | refine below_alloc ?_ _ | refine below_set ?_ _ _ _ (by (first | exact Nat.le_refl _ | exact Nat.le_succ _ | exact Below.size (by assumption) | exact Nat.le_succ_of_le (Below.size (by assumption)) | (simp; done) | omega))))) (by (with_reducible first | exact HN3.hidden Hb4 | exact HN3.drew.hidden Hb4 | exact (HN3.hidden Hb4).drew | exact (HN3.drew.hidden Hb4).drew)) (by (with_reducible first | exact HN4 | exact HN4.drew))).mono ?_; rintro e w5 ⟨rfl, hB5, Hb5⟩)
        | (go_at_call 13; with_reducible refine (CS.out _ A6 m6 d6 A7 m7 d7 ws (by (repeat (first | assumption | exact Below.refl _ _ | refine Below.drew ?_ | refine below_alloc ?_ _ | refine below_set ?_ _ _ _ (by (first | exact Nat.le_refl _ | exact Nat.le_succ _ | exact Below.size (by assumption) | exact Nat.le_succ_of_le (Below.size (by assumption)) | (simp; done) | omega))))) (by (with_reducible first | exact HN6.hidden Hb7 | exact HN6.drew.hidden Hb7 | exact (HN6.hidden Hb7).drew | exact (HN6.drew.hidden Hb7).drew)) (by (with_reducible first | exact HN7 | exact HN7.drew))).mono ?_; rintro e w8 ⟨rfl, hB8, Hb8⟩))
    all_goals
      go_wp2_with fail
      go_ret
      exact ⟨rfl, HB2.out.trans ((by (repeat (first | assumption | exact Below.refl _ _ | refine Below.drew ?_ | refine below_alloc ?_ _ | refine below_set ?_ _ _ _ (by (first | exact Nat.le_refl _ | exact Nat.le_succ _ | exact Below.size (by assumption) | exact Nat.le_succ_of_le (Below.size (by assumption)) | (simp; done) | omega)))) : Below W2.heap.size W2 _).mono HB2.out.size)⟩
  · clear hgr
    go_wp2_with fail
    go_ret
    exact ⟨rfl, hB2⟩
end Go.Proofs.YtfdbpafenhdkbaaGreat
