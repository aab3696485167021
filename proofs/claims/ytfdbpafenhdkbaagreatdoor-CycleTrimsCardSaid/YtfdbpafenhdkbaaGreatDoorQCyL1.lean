/- cycles: the law that tells, walked. -/
import Derived.Test.YtfdbpafenhdkbaaGreatDoorQCyA
import Derived.Test.YtfdbpafenhdkbaaGreatDoorQEntryI
import Derived.Test.YtfdbpafenhdkbaaGreatDoorQCyP6
import Derived.Test.YtfdbpafenhdkbaaGreatDoorRows
import Derived.Test.YtfdbpafenhdkbaaGreatDoorQSetPlain
import Derived.ProofKit
import Derived.LaidMore
import Derived.OpenShut
import Derived.Stop.Joined
namespace Go.Proofs.YtfdbpafenhdkbaaGreatDoor
open Go.RowKit
set_option linter.unusedVariables false
set_option linter.unusedSimpArgs false

/-- what comes back, as a slice of sets -/
theorem ret_sets {w w' : World} {e : Ending} {n : Nat} {b : Bool} {F : List Nat} (hn : F.length = n) (hn2 : n ≤ 1000) (h : Below w.heap.size w w' ∧ ((b = false ∧ e = .returned (.slice none 0 0)) ∨ (b = true ∧ ∃ g, w.heap.size ≤ g ∧ e = .returned (.slice (some ⟨g, 0, none⟩) n n) ∧ SetT w' g F))) :
    Below w.heap.size w w' ∧ ∃ A m c, e = .returned (.slice A m c) ∧ Nums .u32 w' A m c (if b then F else []) := by
  obtain ⟨hb, ⟨rfl, rfl⟩ | ⟨rfl, g, _, rfl, hT⟩⟩ := h
  · exact ⟨hb, none, 0, 0, rfl, Sl.nil _ _ _ (by omega)⟩
  · refine ⟨hb, _, _, _, rfl, ?_⟩
    have := SetT.nums hT (by omega)
    rw [hn] at this
    exact this
theorem Nums.hidden {w w' : World} {A : Option Addr} {n c : Nat} {xs : List Nat} (h : Nums .u32 w A n c xs) (hb : Hid (Below w.heap.size w w')) : Nums .u32 w' A n c xs := h.below hb.out
theorem great_false {G : Gr} (h : G.great = false) : G.terms.length ≤ 40 ∧ G.nons.length ≤ 40 ∧ G.rules.length ≤ 60 ∧ ∀ r ∈ G.rules, r.right.length ≤ 20 := by
  unfold Gr.great at h
  simp at h
  obtain ⟨⟨⟨h1, h2⟩, h3⟩, h4⟩ := h
  exact ⟨h1, h2, h3, h4⟩

set_option maxRecDepth 100000 in
set_option maxHeartbeats 4000000 in
theorem cycleTells_walk (h : GH) (G : Gr) (w : World) (hgi : GrIn w h G) (hTab : TabAt w) :
    Calls Tryz.prog 3 #[GV h G.start] w fun e w' => e = .returned (.bool true) ∧ Below w.heap.size w w' := by
  obtain ⟨hg, hs, hst⟩ := hgi
  obtain ⟨a1, n1, c1, a2, n2, c2, a3, n3, c3⟩ := h
  have e1 : G.terms.length = n1 := hg.terms.len
  have e2 : G.nons.length = n2 := hg.nons.len
  have e3 : G.rules.length = n3 := hg.rules.len
  have hB0 := alloc_below w (.cells #[.slice a1 n1 c1, .slice a2 n2 c2, .slice a3 n3 c3, .int .i64 G.start] 26)
  have hbox := GBox.new w 26 ⟨a1, n1, c1, a2, n2, c2, a3, n3, c3⟩ G.start
  have Hg := Lib.hid hg
  have Hs := Lib.hid hs
  have HT := Lib.hid hTab
  clear hst hg hs hTab
  go_enter Tryz.func3, Tryz.ntmps3
  go_wp2_with fail
  generalize w.alloc (.cells #[.slice a1 n1 c1, .slice a2 n2 c2, .slice a3 n3 c3, .int .i64 G.start] 26) = W0 at *
  (with_reducible refine (alive13 W0 (HT.out.below hB0)).mono ?_)
  rintro e W1 ⟨rfl, hb1⟩
  have hB1 := below_tail hB0 hb1
  have hbx1 := hbox.below hb1
  have ⟨y5, y0, y1, y2, y3⟩ := hbx1
  simp only [] at y0 y1 y2 y3
  go_wp2_with fail
  (with_reducible refine (rf_great ⟨a1, n1, c1, a2, n2, c2, a3, n3, c3⟩ G W1 (Hg.out.below hB1)).mono ?_)
  rintro e W2 ⟨rfl, hb2⟩
  have hB2 := below_tail hB1 hb2
  have hbx2 := hbx1.below hb2
  clear y0 y1 y2 y3 y5 hbox hbx1
  have ⟨y5, y0, y1, y2, y3⟩ := hbx2
  simp only [] at y0 y1 y2 y3
  rcases hgr : G.great with _ | _
  case true =>
    clear hgr
    go_wp2_with fail
    go_ret
    exact ⟨rfl, hB2⟩
  obtain ⟨l1, l2, l3, _⟩ := great_false hgr
  rw [e1] at l1
  rw [e2] at l2
  rw [e3] at l3
  clear hgr
  go_wp2_with fail
  have hO := tr_Order stepsSaid usefulSaid ⟨a1, n1, c1, a2, n2, c2, a3, n3, c3⟩ G W2 (Hg.out.below hB2) Hs.out (HT.out.below hB2) (by simp only []; omega) (by simp only []; omega) (by simp only []; omega)
  unfold RetOrd at hO
  obtain ⟨ol, oe, hol⟩ : ∃ ol oe, ordG G = (ol, oe) := ⟨_, _, rfl⟩
  have Hol := Lib.hid hol
  rw [hol] at hO
  clear hol
  (with_reducible refine hO.mono ?_)
  rintro e W3 ⟨hb3, A3, c3', rfl, rO3⟩
  have hB3 := below_tail hB2 hb3
  have hbx3 := hbx2.below hb3
  have RO3 := Lib.hid rO3
  clear y0 y1 y2 y3 y5 hbx2 hO rO3
  have ⟨y5, y0, y1, y2, y3⟩ := hbx3
  simp only [] at y0 y1 y2 y3
  go_wp2_with fail
  have hO := rf_Order ⟨a1, n1, c1, a2, n2, c2, a3, n3, c3⟩ G W3 (Hg.out.below hB3) (by simp only []; omega) (by simp only []; omega) (by simp only []; omega)
  unfold RetOrd at hO
  rw [Hol.out] at hO
  (with_reducible refine hO.mono ?_)
  rintro e W4 ⟨hb4, A4, c4', rfl, rO4⟩
  have hB4 := below_tail hB3 hb4
  have hbx4 := hbx3.below hb4
  have RO4 := Lib.hid rO4
  have RO3' := Lib.hid (RO3.out.below hb4)
  clear y0 y1 y2 y3 y5 hbx3 hO rO4 RO3 Hol
  have ⟨y5, y0, y1, y2, y3⟩ := hbx4
  simp only [] at y0 y1 y2 y3
  have HS : Hid (∀ W', Below W4.heap.size W4 W' → W'.cell? ⟨w.heap.size, 0, none⟩ = some (.slice a1 n1 c1) ∧ W'.cell? ⟨w.heap.size, 1, none⟩ = some (.slice a2 n2 c2) ∧ W'.cell? ⟨w.heap.size, 2, none⟩ = some (.slice a3 n3 c3) ∧ W'.cell? ⟨w.heap.size, 3, none⟩ = some (.int .i64 G.start) ∧ Below W4.heap.size W4 W') := Lib.hid fun W' hb => ⟨by rw [hb.cell (by exact y5)]; exact y0, by rw [hb.cell (by exact y5)]; exact y1, by rw [hb.cell (by exact y5)]; exact y2, by rw [hb.cell (by exact y5)]; exact y3, hb⟩
  have lF : (stepsN G).length = n2 := by rw [stepsN_len, e2]
  have C1 := Lib.hid fun X (hb : Below W4.heap.size W4 X) => (tr_Steps ⟨a1, n1, c1, a2, n2, c2, a3, n3, c3⟩ G X ((Hg.out.below hB4).below hb) Hs.out (by simp only []; omega) (by simp only []; omega) (by simp only []; omega)).mono fun e w' hh => And.intro (below_tail hb hh.1) (And.intro (Lib.hid hh.1) (ret_sets lF (by omega) hh).2)
  have C2 := Lib.hid fun X (hb : Below W4.heap.size W4 X) => (rf_Steps ⟨a1, n1, c1, a2, n2, c2, a3, n3, c3⟩ G X ((Hg.out.below hB4).below hb) (by simp only []; omega) (by simp only []; omega) (by simp only []; omega)).mono fun e w' hh => And.intro (below_tail hb hh.1) (And.intro (Lib.hid hh.1) (ret_sets lF (by omega) hh).2)
  have C3 := Lib.hid fun X (hb : Below W4.heap.size W4 X) => (tr_Cycles stepsSaid ⟨a1, n1, c1, a2, n2, c2, a3, n3, c3⟩ G X ((Hg.out.below hB4).below hb) Hs.out ((HT.out.below hB4).below hb) (by simp only []; omega) (by simp only []; omega) (by simp only []; omega)).mono fun e w' hh => And.intro (below_tail hb hh.1) hh.2
  have C4 := Lib.hid fun X (hb : Below W4.heap.size W4 X) => (rf_Cycles ⟨a1, n1, c1, a2, n2, c2, a3, n3, c3⟩ G X ((Hg.out.below hB4).below hb) (by simp only []; omega) (by simp only []; omega) (by simp only []; omega)).mono fun e w' hh => And.intro (below_tail hb hh.1) hh.2
  have C5 := Lib.hid fun X (hb : Below W4.heap.size W4 X) => (tr_Endless stepsSaid usefulSaid ⟨a1, n1, c1, a2, n2, c2, a3, n3, c3⟩ G X ((Hg.out.below hB4).below hb) Hs.out ((HT.out.below hB4).below hb) (by simp only []; omega) (by simp only []; omega) (by simp only []; omega)).mono fun e w' hh => And.intro (below_tail hb hh.1) hh.2
  have C6 := Lib.hid fun X (hb : Below W4.heap.size W4 X) => (rf_Endless ⟨a1, n1, c1, a2, n2, c2, a3, n3, c3⟩ G X ((Hg.out.below hB4).below hb) (by simp only []; omega) (by simp only []; omega) (by simp only []; omega)).mono fun e w' hh => And.intro (below_tail hb hh.1) hh.2
  have CS := Lib.hid fun X A m c B n d xs (hb : Below W4.heap.size W4 X) (h1 : Nums .u32 X A m c xs) (h2 : Nums .u32 X B n d xs) => (ref_sets A m c xs B n d xs X h1 h2).mono fun e w' hh => And.intro (hh.1.trans (by rw [beq_self_eq_true])) (below_tail hb (hh.2.below _))
  have CI := Lib.hid fun X (hb : Below W4.heap.size W4 X) => (ref_ints A3 ol.length c3' (intsOf ol) A4 ol.length c4' (intsOf ol) X (RO3'.out.below hb) (RO4.out.below hb)).mono fun e w' hh => And.intro (hh.1.trans (by rw [beq_self_eq_true])) (below_tail hb (hh.2.below _))
  have HB4 := Lib.hid hB4
  generalize (if G.right then stepsN G else []) = fs at *
  generalize cycG G = cg at *
  generalize endG G = eg at *
  generalize ol.length = nl at *
  clear lF hbx4 RO3' RO4
  go_wp2_with fail
  go_region_held3 (fun W' => W'.cell? ⟨w.heap.size, 0, none⟩ = some (.slice a1 n1 c1) ∧ W'.cell? ⟨w.heap.size, 1, none⟩ = some (.slice a2 n2 c2) ∧ W'.cell? ⟨w.heap.size, 2, none⟩ = some (.slice a3 n3 c3) ∧ W'.cell? ⟨w.heap.size, 3, none⟩ = some (.int .i64 G.start) ∧ Below W4.heap.size W4 W')
    ((refine HS.out _ ?_; (repeat (first | assumption | exact Below.refl _ _ | refine Below.drew ?_)); done))
    (first
      | (go_at_call 12; with_reducible refine (C1.out _ (by (repeat (first | assumption | exact Below.refl _ _ | refine Below.drew ?_)))).mono ?_; rintro e w5 ⟨hB5, Hb5, A5, m5, d5, rfl, HN5⟩)
      | (go_at_call 13; with_reducible refine (C2.out _ (by (repeat (first | assumption | exact Below.refl _ _ | refine Below.drew ?_)))).mono ?_; rintro e w6 ⟨hB6, Hb6, A6, m6, d6, rfl, HN6⟩)
      | (go_at_call 11; with_reducible refine (CS.out _ A5 m5 d5 A6 m6 d6 fs (by (repeat (first | assumption | exact Below.refl _ _ | refine Below.drew ?_))) (by (with_reducible first | exact HN5.hidden Hb6 | exact HN5.drew.hidden Hb6 | exact (HN5.hidden Hb6).drew | exact (HN5.drew.hidden Hb6).drew)) (by (with_reducible first | exact HN6 | exact HN6.drew))).mono ?_; rintro e w7 ⟨rfl, hB7⟩)
      | (go_at_call 14; with_reducible refine (C3.out _ (by (repeat (first | assumption | exact Below.refl _ _ | refine Below.drew ?_)))).mono ?_; rintro e w8 ⟨hB8, rfl⟩)
      | (go_at_call 15; with_reducible refine (C4.out _ (by (repeat (first | assumption | exact Below.refl _ _ | refine Below.drew ?_)))).mono ?_; rintro e w9 ⟨hB9, rfl⟩)
      | (go_at_call 16; with_reducible refine (C5.out _ (by (repeat (first | assumption | exact Below.refl _ _ | refine Below.drew ?_)))).mono ?_; rintro e w10 ⟨hB10, rfl⟩)
      | (go_at_call 17; with_reducible refine (C6.out _ (by (repeat (first | assumption | exact Below.refl _ _ | refine Below.drew ?_)))).mono ?_; rintro e w11 ⟨hB11, rfl⟩)
      | (go_at_call 18; with_reducible refine (CI.out _ (by (repeat (first | assumption | exact Below.refl _ _ | refine Below.drew ?_)))).mono ?_; rintro e w12 ⟨rfl, hB12⟩))
  all_goals
    go_wp2_with fail
    go_ret
    exact ⟨rfl, HB4.out.trans ((by (repeat (first | assumption | exact Below.refl _ _ | refine Below.drew ?_)) : Below W4.heap.size W4 _).mono HB4.out.size)⟩
end Go.Proofs.YtfdbpafenhdkbaaGreatDoor

namespace Go.Proofs.YtfdbpafenhdkbaaGreatDoor
open Go.ChangeShapes Go.WideShapes Go.ChangeAt Go.RowKit
set_option linter.unusedVariables false
set_option linter.unusedSimpArgs false

def laidL : List (String × DataW Unit) := [("math/bits.deBruijn32tab", Rows.laid_math_bits_deBruijn32tab)]
theorem gTab : Tryz.prog.globalNamed "math/bits.deBruijn32tab" = some 0 := by kernel_rfl
theorem tTab : (Tryz.prog.globals[0]?).map (·.type) = some 110 := by kernel_rfl

/-- The door's own heap meets the condition. -/
theorem door_met (os : Os) (args : Array Value) : laidMetH Tryz.prog laidL ((World.doorLaid Tryz.prog 400 os).forCall (fun _ _ => 0) ⟨#[], args, []⟩).memory :=
  laidMetH_of_parts3 (fuel := 8) (laidMet_of_run' 8 (by kernel_rfl) (by kernel_rfl)) (by kernel_rfl) (by kernel_rfl)

theorem tab_lits : (Rows.laid_math_bits_deBruijn32tab : DataW Unit) = .agg (Lib.deBruijn32tab.map fun (n : Nat) => .lit (.int .u8 (n : Int))) := by rfl

/-- What the condition gives the walks: the table's cells. -/
theorem of_laid {W : World} (h : laidMetH Tryz.prog laidL W) : TabAt W := by
  rw [MakeChecks.laidMetH_plain _ _ _ (by kernel_rfl)] at h
  obtain ⟨ps, ⟨g0, t0, cs0, f0, p0, q0, hg0, ht0, hv0, hd0, _, _⟩, _, _⟩ := h
  obtain rfl := Option.some.inj (gTab.symm.trans hg0)
  obtain rfl := Option.some.inj (tTab.symm.trans ht0)
  obtain ⟨xs, m1, rfl, hx1, hlen, hn, hel⟩ := DataW.trod_array Tryz.underlying110 hd0
  have c1 : Tryz.prog.cellsOf 5 = 1 := by kernel_rfl
  simp only [Prod.mk.injEq] at hx1
  have hx := hx1.1
  rw [tab_lits] at hx
  simp only [DataW.agg.injEq] at hx
  intro j hj
  have hel := hel j hj
  have hxj : xs[j]? = some (xs[j]'(by omega)) := List.getElem?_eq_getElem (by omega)
  rw [hxj] at hel
  obtain ⟨k, e1, e2, _⟩ := DataW.trod_int Tryz.underlying5 hel
  have hk : (xs.map (·.1))[j]? = some (.lit (.int .u8 k)) := by
    rw [List.getElem?_map, hxj, e2]; rfl
  rw [← hx, List.getElem?_map] at hk
  have hl : Lib.deBruijn32tab.length = 32 := by decide
  rw [List.getElem?_eq_getElem (by omega)] at hk
  simp only [Option.map_some, Option.some.injEq, DataW.lit.injEq, Lit.int.injEq, true_and] at hk
  have hcell := World.var?_cell hg0 hv0 j
  rw [c1] at e1
  have hcs : cs0[j]? = some (.int .u8 k) := by
    have := congrArg List.head? e1
    simpa [List.head?_take, List.head?_drop] using this
  rw [hcell, hcs, ← hk]
  simp [List.getElem?_eq_getElem (show j < Lib.deBruijn32tab.length by omega)]
end Go.Proofs.YtfdbpafenhdkbaaGreatDoor
