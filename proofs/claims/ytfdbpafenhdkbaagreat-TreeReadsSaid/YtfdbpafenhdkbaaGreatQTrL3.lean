/- trees: the law TreeReads, walked. -/
import Derived.Test.YtfdbpafenhdkbaaGreatQTrA
import Derived.Test.YtfdbpafenhdkbaaGreatQTrD1
import Derived.Test.YtfdbpafenhdkbaaGreatQTrR4
namespace Go.Proofs.YtfdbpafenhdkbaaGreat
open Go.RowKit
set_option linter.unusedVariables false
set_option linter.unusedSimpArgs false

set_option maxRecDepth 100000 in
set_option maxHeartbeats 4000000 in
theorem treeReads_walk (h : GH) (G : Gr) (Ar : Option Addr) (nr cr : Nat) (zs : List Int) (w : World) (hgi : GrIn w h G) (hrow : IsRow .i64 w Ar nr cr zs) :
    Calls Tryz.prog 7 #[GV h G.start, .slice Ar nr cr] w fun e w' => e = .returned (.bool true) ∧ Below w.heap.size w w' := by
  obtain ⟨ss, hr, hwf⟩ := hrow.ints
  obtain rfl := hr.len
  have hcap := hr.cap
  obtain ⟨hg, hs, hst⟩ := hgi
  obtain ⟨a1, n1, c1, a2, n2, c2, a3, n3, c3⟩ := h
  have e1 : G.terms.length = n1 := hg.terms.len
  have e2 : G.nons.length = n2 := hg.nons.len
  have e3 : G.rules.length = n3 := hg.rules.len
  have hB0 := alloc_below w (.cells #[.slice a1 n1 c1, .slice a2 n2 c2, .slice a3 n3 c3, .int .i64 G.start] 26)
  have hbox := GBox.new w 26 ⟨a1, n1, c1, a2, n2, c2, a3, n3, c3⟩ G.start
  have CA := Lib.hid alive21
  have Hg := Lib.hid hg
  have Hs := Lib.hid hs
  have Hr := Lib.hid hr
  have HwfS : Hid (∀ s ∈ ss, InI64 s) := Lib.hid fun s hs => bounds_i64 (hwf s hs)
  clear hst hg hs hrow hwf hr
  go_enter Tryz.func7, Tryz.ntmps7
  go_wp2_with fail
  generalize w.alloc (.cells #[.slice a1 n1 c1, .slice a2 n2 c2, .slice a3 n3 c3, .int .i64 G.start] 26) = W0 at *
  (with_reducible refine (CA.out W0).mono ?_)
  rintro e W1 ⟨rfl, hb1⟩
  have hB1 := below_tail hB0 hb1
  have hbx1 := hbox.below hb1
  have ⟨y5, y0, y1, y2, y3⟩ := hbx1
  simp only [] at y0 y1 y2 y3
  go_wp2_with fail
  (with_reducible refine (rf_great ⟨a1, n1, c1, a2, n2, c2, a3, n3, c3⟩ G W1 (Hg.out.below hB1)).mono ?_)
  rintro e W2 ⟨rfl, hb2⟩
  have hB2 := below_tail hB1 hb2
  have hbx2 := hbx1.below hb2
  clear y0 y1 y2 y3 hbox hbx1 y5
  have ⟨y5, y0, y1, y2, y3⟩ := hbx2
  simp only [] at y0 y1 y2 y3
  rcases hgr : G.great with _ | _
  case' true =>
    clear hgr
    go_wp2_with fail
    go_ret
    exact ⟨rfl, hB2⟩
  obtain ⟨l1, l2, l3, _⟩ := great_false hgr
  rw [e1] at l1
  rw [e2] at l2
  rw [e3] at l3
  clear hgr
  by_cases h400 : (400 : Int) < (ss.length : Int)
  · go_wp2_with fail
    go_ret
    exact ⟨rfl, hB2⟩
  have HB2 := Lib.hid hB2
  have Hbx2 := Lib.hid hbx2
  clear hB2 hbx2 hB0 hB1 hb1 hb2
  have CC := Lib.hid (rf_Copy Ar ss.length cr ss W2 (Hr.out.below HB2.out) (by omega))
  go_wp2_with fail
  (with_reducible refine CC.out.mono ?_)
  rintro e W3 ⟨Ao, co, rfl, hown, hb3⟩
  have HB3 := Lib.hid (below_tail HB2.out hb3)
  have Hbx3 := Lib.hid (Hbx2.out.below hb3)
  clear y0 y1 y2 y3 y5
  have ⟨y5, y0, y1, y2, y3⟩ := Hbx3.out
  simp only [] at y0 y1 y2 y3
  have Hown := Lib.hid hown
  clear hown hb3
  have CW := Lib.hid (tr_Word ⟨a1, n1, c1, a2, n2, c2, a3, n3, c3⟩ G Ao ss.length co ss W3 (Hg.out.below HB3.out) Hs.out Hown.out (by omega) (by simp only []; omega) (by simp only []; omega) (by simp only []; omega))
  have CV := Lib.hid (fun W (hW : Below w.heap.size w W) => rf21_Word ⟨a1, n1, c1, a2, n2, c2, a3, n3, c3⟩ G Ar ss.length cr ss W (Hg.out.below hW) (Hr.out.below hW) (by omega) (by simp only []; omega) (by simp only []; omega) (by simp only []; omega))
  have CH := Lib.hid (fun W (hW : Below w.heap.size w W) (hI : Ints .i64 W Ao ss.length co ss) => tr_Height ⟨a1, n1, c1, a2, n2, c2, a3, n3, c3⟩ G Ao ss.length co ss W (Hg.out.below hW) Hs.out hI (by omega) (by simp only []; omega) (by simp only []; omega) (by simp only []; omega))
  have CX := Lib.hid (fun W (hW : Below w.heap.size w W) => rf21_Height ⟨a1, n1, c1, a2, n2, c2, a3, n3, c3⟩ G Ar ss.length cr ss W (Hg.out.below hW) (Hr.out.below hW) (by omega) (by simp only []; omega) (by simp only []; omega) (by simp only []; omega))
  cases hrd : readT G ss with
  | none =>
    go_wp2_with fail
    (with_reducible refine CW.out.mono ?_)
    rintro e W4 ⟨hb4, hc4⟩
    obtain ⟨_, rfl⟩ := hc4.resolve_right (fun hc => by obtain ⟨_, _, _, _, _, h1, _⟩ := hc; rw [hrd] at h1; cases h1)
    have HB4 := Lib.hid (below_tail HB3.out hb4)
    have Hbx4 := Lib.hid (Hbx3.out.below hb4)
    clear y0 y1 y2 y3 y5
    have ⟨y5, y0, y1, y2, y3⟩ := Hbx4.out
    simp only [] at y0 y1 y2 y3
    have Hown4 := Lib.hid (Hown.out.below hb4)
    clear hb4 hc4
    go_wp2_with fail
    (with_reducible refine (CV.out _ HB4.out).mono ?_)
    rintro e W5 ⟨hb5, hc5⟩
    obtain ⟨_, rfl⟩ := hc5.resolve_right (fun hc => by obtain ⟨_, _, _, _, _, h1, _⟩ := hc; rw [hrd] at h1; cases h1)
    have HB5 := Lib.hid (below_tail HB4.out hb5)
    have Hbx5 := Lib.hid (Hbx4.out.below hb5)
    clear y0 y1 y2 y3 y5
    have ⟨y5, y0, y1, y2, y3⟩ := Hbx5.out
    simp only [] at y0 y1 y2 y3
    have Hown5 := Lib.hid (Hown4.out.below hb5)
    clear hb5 hc5
    go_wp2_with fail
    (with_reducible refine (CH.out _ HB5.out Hown5.out).mono ?_)
    rintro e W6 ⟨hb6, hc6⟩
    obtain ⟨_, rfl⟩ := hc6.resolve_right (fun hc => by obtain ⟨_, _, _, h1, _⟩ := hc; rw [hrd] at h1; cases h1)
    have HB6 := Lib.hid (below_tail HB5.out hb6)
    have Hbx6 := Lib.hid (Hbx5.out.below hb6)
    clear y0 y1 y2 y3 y5
    have ⟨y5, y0, y1, y2, y3⟩ := Hbx6.out
    simp only [] at y0 y1 y2 y3
    have Hown6 := Lib.hid (Hown5.out.below hb6)
    clear hb6 hc6
    go_wp2_with fail
    (with_reducible refine (CX.out _ HB6.out).mono ?_)
    rintro e W7 ⟨hb7, hc7⟩
    obtain ⟨_, rfl⟩ := hc7.resolve_right (fun hc => by obtain ⟨_, _, _, h1, _⟩ := hc; rw [hrd] at h1; cases h1)
    have HB7 := Lib.hid (below_tail HB6.out hb7)
    have Hbx7 := Lib.hid (Hbx6.out.below hb7)
    clear y0 y1 y2 y3 y5
    have ⟨y5, y0, y1, y2, y3⟩ := Hbx7.out
    simp only [] at y0 y1 y2 y3
    have Hown7 := Lib.hid (Hown6.out.below hb7)
    have C1 := Lib.hid fun x : Ext W7 => (ref_ints none 0 0 [] none 0 0 [] (bl W7 x) (Ints.nil _ _ _ _ (by omega)) (Ints.nil _ _ _ _ (by omega))).mono fun e w' hh => (And.intro (by rw [hh.1]; simp) (hh.2.below _) : e = .returned (.bool true) ∧ Below (bl W7 x).heap.size (bl W7 x) w')
    have C2 := Lib.hid fun x : Ext W7 => (ref_ints Ao ss.length co ss Ar ss.length cr ss (bl W7 x) (Hown7.out.below (bl_below W7 x)) ((Hr.out.below HB7.out).below (bl_below W7 x))).mono fun e w' hh => (And.intro (by rw [hh.1]; simp) (hh.2.below _) : e = .returned (.bool true) ∧ Below (bl W7 x).heap.size (bl W7 x) w')
    have C3 := Lib.hid fun x : Ext W7 => (tr_Right ⟨a1, n1, c1, a2, n2, c2, a3, n3, c3⟩ G Ar ss.length cr ss (bl W7 x) ((Hg.out.below HB7.out).below (bl_below W7 x)) Hs.out ((Hr.out.below HB7.out).below (bl_below W7 x)) (by omega) (by simp only []; omega) (by simp only []; omega) (by simp only []; omega)).mono fun e w' hh => And.intro hh.2 hh.1
    have C4 := Lib.hid fun x : Ext W7 => (rf21_Right ⟨a1, n1, c1, a2, n2, c2, a3, n3, c3⟩ G Ar ss.length cr ss (bl W7 x) ((Hg.out.below HB7.out).below (bl_below W7 x)) ((Hr.out.below HB7.out).below (bl_below W7 x)) (by omega) (by simp only []; omega) (by simp only []; omega) (by simp only []; omega)).mono fun e w' hh => And.intro hh.2 hh.1
    generalize (readT G ss).isSome = rb at *
    have bc := bl_cell W7
    clear hb7 hc7  hrd
    go_wp2_with fail
    refine wp_region_below (by kernel_rfl) (by kernel_rfl) ?_
    repeat (go_big_quiet_step (first
      | (go_at_call 29; with_reducible exact bl_of (C1.out _))
      | (go_at_call 29; with_reducible exact bl_of (C2.out _))
      | (go_at_call 30; with_reducible exact bl_of (C3.out _))
      | (go_at_call 31; with_reducible exact bl_of (C4.out _))))
    refine wpQuiet_nil ?_
    rintro _ ⟨x, rfl⟩
    have HBf := Lib.hid (below_tail HB7.out (bl_below W7 x))
    go_wp2_with fail
    go_ret
    exact ⟨by simp, HBf.out⟩
  | some r =>
    obtain ⟨wd, ps, kk⟩ := r
    go_wp2_with fail
    (with_reducible refine CW.out.mono ?_)
    rintro e W4 ⟨hb4, hc4⟩
    obtain ⟨wd4, ps4, k4, A4, c4, h4, rfl, hw4⟩ := hc4.resolve_left (fun hc => by have := hc.1.symm.trans hrd; cases this)
    obtain ⟨rfl, rfl, rfl⟩ : wd4 = wd ∧ ps4 = ps ∧ k4 = kk := by
      have := h4.symm.trans hrd
      simp only [Option.some.injEq, Prod.mk.injEq] at this
      exact this
    have HB4 := Lib.hid (below_tail HB3.out hb4)
    have Hbx4 := Lib.hid (Hbx3.out.below hb4)
    clear y0 y1 y2 y3 y5
    have ⟨y5, y0, y1, y2, y3⟩ := Hbx4.out
    simp only [] at y0 y1 y2 y3
    have Hown4 := Lib.hid (Hown.out.below hb4)
    have Hw4 := Lib.hid hw4
    clear hw4
    clear hb4 hc4
    go_wp2_with fail
    (with_reducible refine (CV.out _ HB4.out).mono ?_)
    rintro e W5 ⟨hb5, hc5⟩
    obtain ⟨wd5, ps5, k5, A5, c5, h5, rfl, hw5⟩ := hc5.resolve_left (fun hc => by have := hc.1.symm.trans hrd; cases this)
    obtain ⟨rfl, rfl, rfl⟩ : wd5 = wd4 ∧ ps5 = ps4 ∧ k5 = k4 := by
      have := h5.symm.trans hrd
      simp only [Option.some.injEq, Prod.mk.injEq] at this
      exact this
    have HB5 := Lib.hid (below_tail HB4.out hb5)
    have Hbx5 := Lib.hid (Hbx4.out.below hb5)
    clear y0 y1 y2 y3 y5
    have ⟨y5, y0, y1, y2, y3⟩ := Hbx5.out
    simp only [] at y0 y1 y2 y3
    have Hown5 := Lib.hid (Hown4.out.below hb5)
    have Hw45 := Lib.hid (Hw4.out.below hb5)
    have Hw5 := Lib.hid hw5
    clear hw5
    clear hb5 hc5
    go_wp2_with fail
    (with_reducible refine (CH.out _ HB5.out Hown5.out).mono ?_)
    rintro e W6 ⟨hb6, hc6⟩
    obtain ⟨wd6, ps6, k6, h6, rfl⟩ := hc6.resolve_left (fun hc => by have := hc.1.symm.trans hrd; cases this)
    obtain rfl : k6 = k5 := by
      have := h6.symm.trans hrd
      simp only [Option.some.injEq, Prod.mk.injEq] at this
      exact this.2.2
    have HB6 := Lib.hid (below_tail HB5.out hb6)
    have Hbx6 := Lib.hid (Hbx5.out.below hb6)
    clear y0 y1 y2 y3 y5
    have ⟨y5, y0, y1, y2, y3⟩ := Hbx6.out
    simp only [] at y0 y1 y2 y3
    have Hown6 := Lib.hid (Hown5.out.below hb6)
    have Hw46 := Lib.hid (Hw45.out.below hb6)
    have Hw56 := Lib.hid (Hw5.out.below hb6)
    clear hb6 hc6
    go_wp2_with fail
    (with_reducible refine (CX.out _ HB6.out).mono ?_)
    rintro e W7 ⟨hb7, hc7⟩
    obtain ⟨wd7, ps7, k7, h7, rfl⟩ := hc7.resolve_left (fun hc => by have := hc.1.symm.trans hrd; cases this)
    obtain rfl : k7 = k6 := by
      have := h7.symm.trans hrd
      simp only [Option.some.injEq, Prod.mk.injEq] at this
      exact this.2.2
    have HB7 := Lib.hid (below_tail HB6.out hb7)
    have Hbx7 := Lib.hid (Hbx6.out.below hb7)
    clear y0 y1 y2 y3 y5
    have ⟨y5, y0, y1, y2, y3⟩ := Hbx7.out
    simp only [] at y0 y1 y2 y3
    have Hown7 := Lib.hid (Hown6.out.below hb7)
    have Hw47 := Lib.hid (Hw46.out.below hb7)
    have Hw57 := Lib.hid (Hw56.out.below hb7)
    have C1 := Lib.hid fun x : Ext W7 => (ref_ints A4 _ c4 _ A5 _ c5 _ (bl W7 x) (Hw47.out.below (bl_below W7 x)) (Hw57.out.below (bl_below W7 x))).mono fun e w' hh => (And.intro (by rw [hh.1]; simp) (hh.2.below _) : e = .returned (.bool true) ∧ Below (bl W7 x).heap.size (bl W7 x) w')
    have C2 := Lib.hid fun x : Ext W7 => (ref_ints Ao ss.length co ss Ar ss.length cr ss (bl W7 x) (Hown7.out.below (bl_below W7 x)) ((Hr.out.below HB7.out).below (bl_below W7 x))).mono fun e w' hh => (And.intro (by rw [hh.1]; simp) (hh.2.below _) : e = .returned (.bool true) ∧ Below (bl W7 x).heap.size (bl W7 x) w')
    have C3 := Lib.hid fun x : Ext W7 => (tr_Right ⟨a1, n1, c1, a2, n2, c2, a3, n3, c3⟩ G Ar ss.length cr ss (bl W7 x) ((Hg.out.below HB7.out).below (bl_below W7 x)) Hs.out ((Hr.out.below HB7.out).below (bl_below W7 x)) (by omega) (by simp only []; omega) (by simp only []; omega) (by simp only []; omega)).mono fun e w' hh => And.intro hh.2 hh.1
    have C4 := Lib.hid fun x : Ext W7 => (rf21_Right ⟨a1, n1, c1, a2, n2, c2, a3, n3, c3⟩ G Ar ss.length cr ss (bl W7 x) ((Hg.out.below HB7.out).below (bl_below W7 x)) ((Hr.out.below HB7.out).below (bl_below W7 x)) (by omega) (by simp only []; omega) (by simp only []; omega) (by simp only []; omega)).mono fun e w' hh => And.intro hh.2 hh.1
    generalize (readT G ss).isSome = rb at *
    have bc := bl_cell W7
    clear hb7 hc7 h4 h5 h6 h7 hrd
    go_wp2_with fail
    refine wp_region_below (by kernel_rfl) (by kernel_rfl) ?_
    repeat (go_big_quiet_step (first
      | (go_at_call 29; with_reducible exact bl_of (C1.out _))
      | (go_at_call 29; with_reducible exact bl_of (C2.out _))
      | (go_at_call 30; with_reducible exact bl_of (C3.out _))
      | (go_at_call 31; with_reducible exact bl_of (C4.out _))))
    refine wpQuiet_nil ?_
    rintro _ ⟨x, rfl⟩
    have HBf := Lib.hid (below_tail HB7.out (bl_below W7 x))
    go_wp2_with fail
    go_ret
    exact ⟨by simp, HBf.out⟩
end Go.Proofs.YtfdbpafenhdkbaaGreat
