/- first: the law of Of, walked, but for the fixed fact. -/
import Derived.Test.YtfdbpafenhdkbaaGreatQGrL1
namespace Go.Proofs.YtfdbpafenhdkbaaGreat
open Go.RowKit
set_option linter.unusedVariables false
set_option linter.unusedSimpArgs false

set_option maxRecDepth 100000 in
set_option maxHeartbeats 4000000 in
theorem firstOf_walk' (hal : Alive12) (h : GH) (G : Gr) (Ar : Option Addr) (nr cr : Nat) (zs : List Int) (x : Int) (w : World) (hgi : GrIn w h G) (hrow : IsRow .i64 w Ar nr cr zs) (hx : (Lit.int .u32 x).wf = true) :
    Calls Tryz.prog 4 #[GV h G.start, .slice Ar nr cr, .int .u32 x] w fun e w' => e = .returned (.bool true) ∧ Below w.heap.size w w' := by
  obtain ⟨ss, hr, hwf⟩ := hrow.ints
  obtain ⟨rest, rfl, hrest⟩ := u32_nat hx
  have hw : ∀ s ∈ ss, InI64 s := fun s hs => bounds_i64 (hwf s hs)
  obtain rfl := hr.len
  have hcap := hr.cap
  obtain ⟨hg, hs, hst⟩ := hgi
  obtain ⟨a1, n1, c1, a2, n2, c2, a3, n3, c3⟩ := h
  have e1 : G.terms.length = n1 := hg.terms.len
  have e2 : G.nons.length = n2 := hg.nons.len
  have e3 : G.rules.length = n3 := hg.rules.len
  have hB0 := alloc_below w (.cells #[.slice a1 n1 c1, .slice a2 n2 c2, .slice a3 n3 c3, .int .i64 G.start] 26)
  have hbox := GBox.new w 26 ⟨a1, n1, c1, a2, n2, c2, a3, n3, c3⟩ G.start
  have CA := Lib.hid hal
  have Hg := Lib.hid hg
  have Hs := Lib.hid hs
  have Hr := Lib.hid hr
  have Hw := Lib.hid hw
  clear hal hst hg hs hrow hwf hr hw hx
  go_enter Tryz.func4, Tryz.ntmps4
  go_wp2_with fail
  generalize w.alloc (.cells #[.slice a1 n1 c1, .slice a2 n2 c2, .slice a3 n3 c3, .int .i64 G.start] 26) = W0 at *
  (with_reducible refine (CA.out W0).mono ?_)
  rintro e W1 ⟨rfl, hb1⟩
  have hB1 := below_tail hB0 hb1
  have hbx1 := hbox.below hb1
  have ⟨y5, y0, y1, y2, y3⟩ := hbx1
  simp only [] at y0 y1 y2 y3
  go_wp2_with fail
  (with_reducible refine (rf_great ⟨a1, n1, c1, a2, n2, c2, a3, n3, c3⟩ G W1 (Hg.out.below hB1)).mono ?_)
  rintro e W2 ⟨rfl, hb2⟩
  have hB2 := below_tail hB1 hb2
  have hbx2 := hbx1.below hb2
  clear y0 y1 y2 y3 hbox hbx1
  have ⟨y5', y0, y1, y2, y3⟩ := hbx2
  simp only [] at y0 y1 y2 y3
  rcases hgr : G.great with _ | _
  · obtain ⟨l1, l2, l3, _⟩ := great_false hgr
    rw [e1] at l1
    rw [e2] at l2
    rw [e3] at l3
    clear hgr
    by_cases h50 : (50 : Int) < (ss.length : Int)
    · go_wp2_with fail
      go_ret
      exact ⟨rfl, hB2⟩
    · have C1 := Lib.hid fun x : Ext W2 => pf_Of ⟨a1, n1, c1, a2, n2, c2, a3, n3, c3⟩ G Ar ss.length cr ss rest (bl W2 x) ((Hg.out.below hB2).below (bl_below W2 x)) Hs.out (((Hr.out.below hB2).ext (Nat.le_refl _) (bl_below W2 x))) Hw.out hrest (by simp only []; omega) (by simp only []; omega) (by simp only []; omega)
      have C2 := Lib.hid fun x : Ext W2 => rf_Of ⟨a1, n1, c1, a2, n2, c2, a3, n3, c3⟩ G Ar ss.length cr ss rest (bl W2 x) ((Hg.out.below hB2).below (bl_below W2 x)) (((Hr.out.below hB2).ext (Nat.le_refl _) (bl_below W2 x))) Hw.out hrest (by simp only []; omega) (by simp only []; omega) (by simp only []; omega)
      generalize G.ofN ss rest = ans at *
      have HB2 := Lib.hid hB2
      have bc := bl_cell W2
      clear hB2 hbx2
      go_wp2_with fail
      refine wp_region_below (by kernel_rfl) (by kernel_rfl) ?_
      repeat (go_big_quiet_step (first
        | (go_at_call 18; with_reducible exact bl_of (C1.out _))
        | (go_at_call 19; with_reducible exact bl_of (C2.out _))))
      refine wpQuiet_nil ?_
      rintro _ ⟨x, rfl⟩
      go_wp2_with fail
      go_ret
      exact ⟨by simp, HB2.out.trans ((bl_below W2 x).mono HB2.out.size)⟩
  · clear hgr
    go_wp2_with fail
    go_ret
    exact ⟨rfl, hB2⟩
end Go.Proofs.YtfdbpafenhdkbaaGreat
