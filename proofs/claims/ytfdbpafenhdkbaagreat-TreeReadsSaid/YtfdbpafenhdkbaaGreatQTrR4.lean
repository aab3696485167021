/- trees: the reference's Whole, Right, Word, Height, Reductions, walked. -/
import Derived.Test.YtfdbpafenhdkbaaGreatQTrR3
namespace Go.Proofs.YtfdbpafenhdkbaaGreat
open Go.RowKit
set_option linter.unusedVariables false
set_option linter.unusedSimpArgs false

/-- the reference's tree, whole -/
def WholeRet (G : Gr) (t : List Int) (w : World) (e : Ending) (w' : World) : Prop := Below w.heap.size w w' ∧
  ((readT G t = none ∧ e = .returned (.agg #[.int .i64 0, .slice none 0 0, .int .i64 0, .slice none 0 0])) ∨
   (∃ (wd ps : List Int) (k ee : Nat) (Aw : Option Addr) (cw : Nat) (Ap : Option Addr) (cp : Nat), readT G t = some (wd, ps, k) ∧ 0 < ee ∧ ee ≤ t.length ∧ e = .returned (.agg #[.int .i64 ((ee : Nat) : Int), .slice Aw wd.length cw, .int .i64 ((k : Nat) : Int), .slice Ap ps.length cp]) ∧ Ints .i64 w' Aw wd.length cw wd ∧ Ints .i64 w' Ap ps.length cp ps))
theorem readT_some {G : Gr} {t : List Int} (hr : G.right = true) (hl : t.length ≤ 300) : readT G t = match walkP G t.length ⟨t, [], []⟩ G.start with
    | none => none
    | some (st, n) => if st.rest = [] then some (st.word, st.posts, n) else none := by
  unfold readT
  rw [hr, show decide (t.length ≤ 300) = true by rw [decide_eq_true_iff]; exact hl]
  rfl
set_option maxRecDepth 20000 in
set_option maxHeartbeats 2000000 in
theorem rf_Whole (h : GH) (G : Gr) (At : Option Addr) (n c : Nat) (t : List Int) (w : World) (hg : GrAt w h G) (ht : Ints .i64 w At n c t) (hn2 : n ≤ 400) (h1 : h.n1 ≤ 100) (h2 : h.n2 ≤ 100) (h3 : h.n3 ≤ 100) :
    Calls Tryz.prog 54 #[GV h G.start, .slice At n c] w (WholeRet G t w) := by
  obtain rfl := ht.len
  have hcap := ht.cap
  obtain ⟨a1, n1, c1, a2, n2, c2, a3, n3, c3⟩ := h
  simp only [] at h1 h2 h3
  have hB0 := alloc_below w (.cells #[.slice a1 n1 c1, .slice a2 n2 c2, .slice a3 n3 c3, .int .i64 G.start] 26)
  have hbox := GBox.new w 26 ⟨a1, n1, c1, a2, n2, c2, a3, n3, c3⟩ G.start
  have hb1 := alloc_below (w.alloc (.cells #[.slice a1 n1 c1, .slice a2 n2 c2, .slice a3 n3 c3, .int .i64 G.start] 26)) (.cells #[.int .i64 0, .slice none 0 0, .int .i64 0, .slice none 0 0] 73)
  have hO := Blk.new (w.alloc (.cells #[.slice a1 n1 c1, .slice a2 n2 c2, .slice a3 n3 c3, .int .i64 G.start] 26)) 73 #[.int .i64 0, .slice none 0 0, .int .i64 0, .slice none 0 0]
  have hB1 := below_tail hB0 hb1
  have hbx1 := hbox.below hb1
  have p5 := alloc_size w (.cells #[.slice a1 n1 c1, .slice a2 n2 c2, .slice a3 n3 c3, .int .i64 G.start] 26)
  rw [p5] at hO
  have CR := Lib.hid (rf_right9 ⟨a1, n1, c1, a2, n2, c2, a3, n3, c3⟩ G _ (hg.below hB1) (by simp only []; omega) (by simp only []; omega) (by simp only []; omega))
  have Hg := Lib.hid hg
  have Ht := Lib.hid ht
  have HO := Lib.hid hO
  have HB1 := Lib.hid hB1
  have Hbx1 := Lib.hid hbx1
  clear hb1 hbox p5 hB0 hg ht
  go_enter Tryz.func54, Tryz.ntmps54
  have ⟨z5, z0, z1, z2, z3⟩ := hbx1
  simp only [] at z0 z1 z2 z3
  clear hbx1 hB1 hO
  go_wp2_with fail
  generalize (w.alloc (.cells #[.slice a1 n1 c1, .slice a2 n2 c2, .slice a3 n3 c3, .int .i64 G.start] 26)).alloc (.cells #[.int .i64 0, .slice none 0 0, .int .i64 0, .slice none 0 0] 73) = W0 at *
  (with_reducible refine CR.out.mono ?_)
  rintro e W1 ⟨rfl, hb1⟩
  have HO1 := Lib.hid (HO.out.ext hb1)
  have HBw1 := Lib.hid (below_tail HB1.out hb1)
  have Hbx2 := Lib.hid (Hbx1.out.below hb1)
  have hsz1 : w.heap.size + 1 < W1.heap.size := HO1.out.lt
  clear z0 z1 z2 z3 z5 hb1 HO CR
  have fail1 : ∀ (W : World), Hid (Blk W (w.heap.size + 1) 73 #[.int .i64 0, .slice none 0 0, .int .i64 0, .slice none 0 0]) → W.cell? ⟨w.heap.size + 1, 0, none⟩ = some (.int .i64 0) ∧ W.cell? ⟨w.heap.size + 1, 1, none⟩ = some (.slice none 0 0) ∧ W.cell? ⟨w.heap.size + 1, 2, none⟩ = some (.int .i64 0) ∧ W.cell? ⟨w.heap.size + 1, 3, none⟩ = some (.slice none 0 0) ∧ W.frozen? ⟨w.heap.size + 1, 0, none⟩ = false ∧ W.frozen? ⟨w.heap.size + 1, 1, none⟩ = false ∧ W.frozen? ⟨w.heap.size + 1, 2, none⟩ = false ∧ W.frozen? ⟨w.heap.size + 1, 3, none⟩ = false := fun W hb => ⟨hb.out.cell 0, hb.out.cell 1, hb.out.cell 2, hb.out.cell 3, hb.out.frozen 0, hb.out.frozen 1, hb.out.frozen 2, hb.out.frozen 3⟩
  have HF1 := Lib.hid fail1
  clear fail1
  rcases hrt : G.right with _ | _
  case' false =>
    have Hn : Hid (readT G t = none) := Lib.hid (by unfold readT; rw [hrt]; rfl)
    have ⟨k0, k1, k2, k3, f0, f1, f2, f3⟩ := HF1.out W1 HO1
    clear hrt
    go_wp2_with fail
    have HOe := HO1
    have HBe := HBw1
    obtain ⟨We, hWe⟩ : ∃ We, We = W1 := ⟨_, rfl⟩
    subst hWe
  case' true =>
    by_cases h300 : (300 : Int) < (t.length : Int)
    case' pos =>
      have Hn : Hid (readT G t = none) := Lib.hid (by unfold readT; rw [hrt, show decide (t.length ≤ 300) = false by rw [decide_eq_false_iff_not]; omega]; rfl)
      have ⟨k0, k1, k2, k3, f0, f1, f2, f3⟩ := HF1.out W1 HO1
      clear hrt
      go_wp2_with fail
      have HOe := HO1
      have HBe := HBw1
      obtain ⟨We, hWe⟩ : ∃ We, We = W1 := ⟨_, rfl⟩
      subst hWe
    case' neg =>
      have hfit := Gr.fits hrt
      have hst := hfit.st
      have hfn := hfit.n2
      have Hd := Lib.hid (readT_some (G := G) (t := t) hrt (by omega))
      have CN := Lib.hid (rf_node ⟨a1, n1, c1, a2, n2, c2, a3, n3, c3⟩ G hfit At t.length c t (by omega) (by simp only []; omega) t.length 0 G.start W1 (Hg.out.below HBw1.out) (Ht.out.below HBw1.out) (by omega) (Nat.zero_le _) (by omega) (by omega) (by omega))
      rw [show ((0 : Nat) : Int) = 0 from rfl] at CN
      have ⟨z5, z0, z1, z2, z3⟩ := Hbx2.out
      simp only [] at z0 z1 z2 z3
      clear hrt hfit
      go_wp2_with fail
      (with_reducible refine CN.out.mono ?_)
      rintro e W2 ⟨hb2, hcase⟩
      have HO2 := Lib.hid (HO1.out.ext hb2)
      have HBw2 := Lib.hid (below_tail HBw1.out hb2)
      have hsz2 : w.heap.size + 1 < W2.heap.size := HO2.out.lt
      clear z0 z1 z2 z3 z5 hb2
      rcases hcase with ⟨hn, rfl⟩ | ⟨st', k, ee, Aw, cw, Ap, cp, h1', h2', h3', h4', h5', h6', h7', h8', rfl, h10'⟩
      case' inl =>
        have Hn : Hid (readT G t = none) := Lib.hid (by
          rw [List.drop_zero] at hn
          rw [Hd.out, hn])
        have hbX := alloc_below W2 (.cells #[.int .i64 0, .slice none 0 0, .int .i64 0, .slice none 0 0] 73)
        have HOe := Lib.hid (HO2.out.ext hbX)
        have HBe := Lib.hid (below_tail HBw2.out hbX)
        have ⟨k0, k1, k2, k3, f0, f1, f2, f3⟩ := HF1.out _ HOe
        clear hn hbX
        have hXb := Blk.new W2 73 #[.int .i64 0, .slice none 0 0, .int .i64 0, .slice none 0 0]
        have x0 : (W2.alloc (.cells #[.int .i64 0, .slice none 0 0, .int .i64 0, .slice none 0 0] 73)).cell? ⟨W2.heap.size, 0, none⟩ = some (.int .i64 0) := hXb.cell 0
        have x1 : (W2.alloc (.cells #[.int .i64 0, .slice none 0 0, .int .i64 0, .slice none 0 0] 73)).cell? ⟨W2.heap.size, 1, none⟩ = some (.slice none 0 0) := hXb.cell 1
        have x2 : (W2.alloc (.cells #[.int .i64 0, .slice none 0 0, .int .i64 0, .slice none 0 0] 73)).cell? ⟨W2.heap.size, 2, none⟩ = some (.int .i64 0) := hXb.cell 2
        have x3 : (W2.alloc (.cells #[.int .i64 0, .slice none 0 0, .int .i64 0, .slice none 0 0] 73)).cell? ⟨W2.heap.size, 3, none⟩ = some (.slice none 0 0) := hXb.cell 3
        clear hXb
        go_upto_region 4 with fail
        generalize W2.alloc (.cells #[.int .i64 0, .slice none 0 0, .int .i64 0, .slice none 0 0] 73) = We at *
        generalize W2.heap.size = gX at *
        by_cases ht0 : t.length = 0
        case' pos =>
          have h0i : ((0 : Int) != (t.length : Int)) = false := by rw [bne_eq_false_iff_eq]; omega
          clear ht0
          go_wp2_with fail
        case' neg =>
          have h0i : ((0 : Int) != (t.length : Int)) = true := by rw [bne_iff_ne]; omega
          clear ht0
          go_wp2_with fail
      case' inr =>
        have hbX := alloc_below W2 (.cells #[.int .i64 ((ee : Nat) : Int), .slice Aw st'.word.length cw, .int .i64 ((k : Nat) : Int), .slice Ap st'.posts.length cp] 73)
        have HOe := Lib.hid (HO2.out.ext hbX)
        have HBe := Lib.hid (below_tail HBw2.out hbX)
        have ⟨k0, k1, k2, k3, f0, f1, f2, f3⟩ := HF1.out _ HOe
        have HRw := Lib.hid (h10'.below hbX)
        have H1 := Lib.hid h1'
        have H2 := Lib.hid h2'
        clear hbX h10' h1' h2' h5' h6'
        have hXb := Blk.new W2 73 #[.int .i64 ((ee : Nat) : Int), .slice Aw st'.word.length cw, .int .i64 ((k : Nat) : Int), .slice Ap st'.posts.length cp]
        have x0 : (W2.alloc (.cells #[.int .i64 ((ee : Nat) : Int), .slice Aw st'.word.length cw, .int .i64 ((k : Nat) : Int), .slice Ap st'.posts.length cp] 73)).cell? ⟨W2.heap.size, 0, none⟩ = some (.int .i64 ((ee : Nat) : Int)) := hXb.cell 0
        have x1 : (W2.alloc (.cells #[.int .i64 ((ee : Nat) : Int), .slice Aw st'.word.length cw, .int .i64 ((k : Nat) : Int), .slice Ap st'.posts.length cp] 73)).cell? ⟨W2.heap.size, 1, none⟩ = some (.slice Aw st'.word.length cw) := hXb.cell 1
        have x2 : (W2.alloc (.cells #[.int .i64 ((ee : Nat) : Int), .slice Aw st'.word.length cw, .int .i64 ((k : Nat) : Int), .slice Ap st'.posts.length cp] 73)).cell? ⟨W2.heap.size, 2, none⟩ = some (.int .i64 ((k : Nat) : Int)) := hXb.cell 2
        have x3 : (W2.alloc (.cells #[.int .i64 ((ee : Nat) : Int), .slice Aw st'.word.length cw, .int .i64 ((k : Nat) : Int), .slice Ap st'.posts.length cp] 73)).cell? ⟨W2.heap.size, 3, none⟩ = some (.slice Ap st'.posts.length cp) := hXb.cell 3
        clear hXb
        go_upto_region 4 with fail
        generalize W2.alloc (.cells #[.int .i64 ((ee : Nat) : Int), .slice Aw st'.word.length cw, .int .i64 ((k : Nat) : Int), .slice Ap st'.posts.length cp] 73) = We at *
        generalize W2.heap.size = gX at *
        by_cases hee : ee = t.length
        case' neg =>
          have hne : ((ee : Int) != (t.length : Int)) = true := by rw [bne_iff_ne]; omega
          have Hn : Hid (readT G t = none) := Lib.hid (by
            have := H1.out
            rw [List.drop_zero] at this
            rw [Hd.out, this]
            simp only
            rw [if_neg (by rw [H2.out]; intro h0; have := congrArg List.length h0; rw [List.length_drop, List.length_nil] at this; omega)])
          clear hee
          go_wp2_with fail
        case' pos =>
          have hne : ((ee : Int) != (t.length : Int)) = false := by rw [bne_eq_false_iff_eq]; omega
          have Hy : Hid (readT G t = some (st'.word, st'.posts, k)) := Lib.hid (by
            have := H1.out
            rw [List.drop_zero] at this
            rw [Hd.out, this]
            simp only
            rw [if_pos (by rw [H2.out]; exact List.drop_eq_nil_of_le (by omega))])
          clear hee
          go_wp2_with fail
          refine bodyPost_ret (results_cell_row (p := 4) (by kernel_rfl) _ _ (w.heap.size + 1) 73 #[.int .i64 ((ee : Nat) : Int), .slice Aw st'.word.length cw, .int .i64 ((k : Nat) : Int), .slice Ap st'.posts.length cp] (0, 0) _ rfl ((((HOe.out.set 0 (.int .i64 ((ee : Nat) : Int))).set 1 (.slice Aw st'.word.length cw)).set 2 (.int .i64 ((k : Nat) : Int))).set 3 (.slice Ap st'.posts.length cp)) Tryz.underlying73 rfl (by kernel_rfl)) rfl ?_
          have HRf := (((HRw.out.set (w.heap.size + 1) 0 (.int .i64 ((ee : Nat) : Int)) hsz1).set (w.heap.size + 1) 1 (.slice Aw st'.word.length cw) hsz1).set (w.heap.size + 1) 2 (.int .i64 ((k : Nat) : Int)) hsz1).set (w.heap.size + 1) 3 (.slice Ap st'.posts.length cp) hsz1
          refine ⟨below_set (below_set (below_set (below_set HBe.out _ _ _ (by omega)) _ _ _ (by omega)) _ _ _ (by omega)) _ _ _ (by omega), .inr ⟨_, _, k, ee, Aw, cw, Ap, cp, Hy.out, by omega, by omega, rfl, own_sl HRf.word, own_sl HRf.posts⟩⟩
  all_goals
    refine bodyPost_ret (results_cell_row (p := 4) (by kernel_rfl) _ _ (w.heap.size + 1) 73 #[.int .i64 0, .slice none 0 0, .int .i64 0, .slice none 0 0] (0, 0) _ rfl ((((HOe.out.set 0 (.int .i64 0)).set 1 (.slice none 0 0)).set 2 (.int .i64 0)).set 3 (.slice none 0 0)) Tryz.underlying73 rfl (by kernel_rfl)) rfl ?_
    exact ⟨below_set (below_set (below_set (below_set HBe.out _ _ _ (by omega)) _ _ _ (by omega)) _ _ _ (by omega)) _ _ _ (by omega), .inl ⟨Hn.out, rfl⟩⟩
end Go.Proofs.YtfdbpafenhdkbaaGreat

namespace Go.Proofs.YtfdbpafenhdkbaaGreat
open Go.RowKit
set_option linter.unusedVariables false
set_option linter.unusedSimpArgs false

set_option maxRecDepth 20000 in
set_option maxHeartbeats 1000000 in
theorem rf21_Word (h : GH) (G : Gr) (At : Option Addr) (n c : Nat) (t : List Int) (w : World) (hg : GrAt w h G) (ht : Ints .i64 w At n c t) (hn2 : n ≤ 400) (h1 : h.n1 ≤ 100) (h2 : h.n2 ≤ 100) (h3 : h.n3 ≤ 100) :
    Calls Tryz.prog 26 #[GV h G.start, .slice At n c] w fun e w' => Below w.heap.size w w' ∧
      ((readT G t = none ∧ e = .returned (.tuple #[.slice none 0 0, .int .i64 1])) ∨ (∃ wd ps k A c', readT G t = some (wd, ps, k) ∧ e = .returned (.tuple #[.slice A wd.length c', .int .i64 0]) ∧ Ints .i64 w' A wd.length c' wd)) := by
  have hB0 := alloc_below w (.cells #[.slice h.a1 h.n1 h.c1, .slice h.a2 h.n2 h.c2, .slice h.a3 h.n3 h.c3, .int .i64 G.start] 26)
  have CR := Lib.hid (rf_Whole h G At n c t _ (hg.below hB0) (ht.below hB0) hn2 h1 h2 h3)
  have hHB := Lib.hid hB0
  clear hg ht
  go_enter Tryz.func26, Tryz.ntmps26
  go_wp2_with fail
  generalize w.alloc (.cells #[.slice h.a1 h.n1 h.c1, .slice h.a2 h.n2 h.c2, .slice h.a3 h.n3 h.c3, .int .i64 G.start] 26) = W0 at *
  (with_reducible refine CR.out.mono ?_)
  rintro e W1 ⟨hb1, ⟨hn, rfl⟩ | ⟨wd, ps, k, ee, Aw, cw, Ap, cp, hn, hee0, hee1, rfl, hwi, hpi⟩⟩
  · have Hn := Lib.hid hn
    have hXb := Blk.new W1 73 #[.int .i64 0, .slice none 0 0, .int .i64 0, .slice none 0 0]
    have HBx := Lib.hid (below_tail hHB.out (below_tail hb1 (alloc_below W1 (.cells #[.int .i64 0, .slice none 0 0, .int .i64 0, .slice none 0 0] 73))))
    have x0 : (W1.alloc (.cells #[.int .i64 0, .slice none 0 0, .int .i64 0, .slice none 0 0] 73)).cell? ⟨W1.heap.size, 0, none⟩ = some (.int .i64 0) := hXb.cell 0
    have x1 : (W1.alloc (.cells #[.int .i64 0, .slice none 0 0, .int .i64 0, .slice none 0 0] 73)).cell? ⟨W1.heap.size, 1, none⟩ = some (.slice none 0 0) := hXb.cell 1
    have x2 : (W1.alloc (.cells #[.int .i64 0, .slice none 0 0, .int .i64 0, .slice none 0 0] 73)).cell? ⟨W1.heap.size, 2, none⟩ = some (.int .i64 0) := hXb.cell 2
    have x3 : (W1.alloc (.cells #[.int .i64 0, .slice none 0 0, .int .i64 0, .slice none 0 0] 73)).cell? ⟨W1.heap.size, 3, none⟩ = some (.slice none 0 0) := hXb.cell 3
    clear hn hXb hB0
    go_upto_region 2 with fail
    generalize W1.alloc (.cells #[.int .i64 0, .slice none 0 0, .int .i64 0, .slice none 0 0] 73) = We at *
    clear hb1
    generalize W1.heap.size = gX at *
    go_wp2_with fail
    refine bodyPost_ret (results_tmp2 rfl _ _ _) rfl ?_
    exact ⟨HBx.out, .inl ⟨Hn.out, rfl⟩⟩
  · have Hn := Lib.hid hn
    have heq : ((ee : Int) == 0) = false := by rw [beq_eq_false_iff_ne]; omega
    have hXb := Blk.new W1 73 #[.int .i64 ((ee : Nat) : Int), .slice Aw wd.length cw, .int .i64 ((k : Nat) : Int), .slice Ap ps.length cp]
    have HBx := Lib.hid (below_tail hHB.out (below_tail hb1 (alloc_below W1 (.cells #[.int .i64 ((ee : Nat) : Int), .slice Aw wd.length cw, .int .i64 ((k : Nat) : Int), .slice Ap ps.length cp] 73))))
    have x0 : (W1.alloc (.cells #[.int .i64 ((ee : Nat) : Int), .slice Aw wd.length cw, .int .i64 ((k : Nat) : Int), .slice Ap ps.length cp] 73)).cell? ⟨W1.heap.size, 0, none⟩ = some (.int .i64 ((ee : Nat) : Int)) := hXb.cell 0
    have x1 : (W1.alloc (.cells #[.int .i64 ((ee : Nat) : Int), .slice Aw wd.length cw, .int .i64 ((k : Nat) : Int), .slice Ap ps.length cp] 73)).cell? ⟨W1.heap.size, 1, none⟩ = some (.slice Aw wd.length cw) := hXb.cell 1
    have x2 : (W1.alloc (.cells #[.int .i64 ((ee : Nat) : Int), .slice Aw wd.length cw, .int .i64 ((k : Nat) : Int), .slice Ap ps.length cp] 73)).cell? ⟨W1.heap.size, 2, none⟩ = some (.int .i64 ((k : Nat) : Int)) := hXb.cell 2
    have x3 : (W1.alloc (.cells #[.int .i64 ((ee : Nat) : Int), .slice Aw wd.length cw, .int .i64 ((k : Nat) : Int), .slice Ap ps.length cp] 73)).cell? ⟨W1.heap.size, 3, none⟩ = some (.slice Ap ps.length cp) := hXb.cell 3
    have Hwi := Lib.hid (hwi.below (alloc_below W1 (.cells #[.int .i64 ((ee : Nat) : Int), .slice Aw wd.length cw, .int .i64 ((k : Nat) : Int), .slice Ap ps.length cp] 73)))
    have Hpi := Lib.hid (hpi.below (alloc_below W1 (.cells #[.int .i64 ((ee : Nat) : Int), .slice Aw wd.length cw, .int .i64 ((k : Nat) : Int), .slice Ap ps.length cp] 73)))
    clear hn hXb hB0 hwi hpi
    go_upto_region 2 with fail
    generalize W1.alloc (.cells #[.int .i64 ((ee : Nat) : Int), .slice Aw wd.length cw, .int .i64 ((k : Nat) : Int), .slice Ap ps.length cp] 73) = We at *
    clear hb1
    generalize W1.heap.size = gX at *
    go_wp2_with fail
    refine bodyPost_ret (results_tmp2 rfl _ _ _) rfl ?_
    exact ⟨HBx.out, .inr ⟨wd, ps, k, Aw, cw, Hn.out, rfl, Hwi.out⟩⟩

set_option maxRecDepth 20000 in
set_option maxHeartbeats 1000000 in
theorem rf21_Height (h : GH) (G : Gr) (At : Option Addr) (n c : Nat) (t : List Int) (w : World) (hg : GrAt w h G) (ht : Ints .i64 w At n c t) (hn2 : n ≤ 400) (h1 : h.n1 ≤ 100) (h2 : h.n2 ≤ 100) (h3 : h.n3 ≤ 100) :
    Calls Tryz.prog 28 #[GV h G.start, .slice At n c] w fun e w' => Below w.heap.size w w' ∧
      ((readT G t = none ∧ e = .returned (.tuple #[.int .i64 0, .int .i64 1])) ∨ (∃ wd ps k, readT G t = some (wd, ps, k) ∧ e = .returned (.tuple #[.int .i64 ((k : Nat) : Int), .int .i64 0]))) := by
  have hB0 := alloc_below w (.cells #[.slice h.a1 h.n1 h.c1, .slice h.a2 h.n2 h.c2, .slice h.a3 h.n3 h.c3, .int .i64 G.start] 26)
  have CR := Lib.hid (rf_Whole h G At n c t _ (hg.below hB0) (ht.below hB0) hn2 h1 h2 h3)
  have hHB := Lib.hid hB0
  clear hg ht
  go_enter Tryz.func28, Tryz.ntmps28
  go_wp2_with fail
  generalize w.alloc (.cells #[.slice h.a1 h.n1 h.c1, .slice h.a2 h.n2 h.c2, .slice h.a3 h.n3 h.c3, .int .i64 G.start] 26) = W0 at *
  (with_reducible refine CR.out.mono ?_)
  rintro e W1 ⟨hb1, ⟨hn, rfl⟩ | ⟨wd, ps, k, ee, Aw, cw, Ap, cp, hn, hee0, hee1, rfl, hwi, hpi⟩⟩
  · have Hn := Lib.hid hn
    have hXb := Blk.new W1 73 #[.int .i64 0, .slice none 0 0, .int .i64 0, .slice none 0 0]
    have HBx := Lib.hid (below_tail hHB.out (below_tail hb1 (alloc_below W1 (.cells #[.int .i64 0, .slice none 0 0, .int .i64 0, .slice none 0 0] 73))))
    have x0 : (W1.alloc (.cells #[.int .i64 0, .slice none 0 0, .int .i64 0, .slice none 0 0] 73)).cell? ⟨W1.heap.size, 0, none⟩ = some (.int .i64 0) := hXb.cell 0
    have x1 : (W1.alloc (.cells #[.int .i64 0, .slice none 0 0, .int .i64 0, .slice none 0 0] 73)).cell? ⟨W1.heap.size, 1, none⟩ = some (.slice none 0 0) := hXb.cell 1
    have x2 : (W1.alloc (.cells #[.int .i64 0, .slice none 0 0, .int .i64 0, .slice none 0 0] 73)).cell? ⟨W1.heap.size, 2, none⟩ = some (.int .i64 0) := hXb.cell 2
    have x3 : (W1.alloc (.cells #[.int .i64 0, .slice none 0 0, .int .i64 0, .slice none 0 0] 73)).cell? ⟨W1.heap.size, 3, none⟩ = some (.slice none 0 0) := hXb.cell 3
    clear hn hXb hB0
    go_upto_region 2 with fail
    generalize W1.alloc (.cells #[.int .i64 0, .slice none 0 0, .int .i64 0, .slice none 0 0] 73) = We at *
    clear hb1
    generalize W1.heap.size = gX at *
    go_wp2_with fail
    refine bodyPost_ret (results_tmp2 rfl _ _ _) rfl ?_
    exact ⟨HBx.out, .inl ⟨Hn.out, rfl⟩⟩
  · have Hn := Lib.hid hn
    have heq : ((ee : Int) == 0) = false := by rw [beq_eq_false_iff_ne]; omega
    have hXb := Blk.new W1 73 #[.int .i64 ((ee : Nat) : Int), .slice Aw wd.length cw, .int .i64 ((k : Nat) : Int), .slice Ap ps.length cp]
    have HBx := Lib.hid (below_tail hHB.out (below_tail hb1 (alloc_below W1 (.cells #[.int .i64 ((ee : Nat) : Int), .slice Aw wd.length cw, .int .i64 ((k : Nat) : Int), .slice Ap ps.length cp] 73))))
    have x0 : (W1.alloc (.cells #[.int .i64 ((ee : Nat) : Int), .slice Aw wd.length cw, .int .i64 ((k : Nat) : Int), .slice Ap ps.length cp] 73)).cell? ⟨W1.heap.size, 0, none⟩ = some (.int .i64 ((ee : Nat) : Int)) := hXb.cell 0
    have x1 : (W1.alloc (.cells #[.int .i64 ((ee : Nat) : Int), .slice Aw wd.length cw, .int .i64 ((k : Nat) : Int), .slice Ap ps.length cp] 73)).cell? ⟨W1.heap.size, 1, none⟩ = some (.slice Aw wd.length cw) := hXb.cell 1
    have x2 : (W1.alloc (.cells #[.int .i64 ((ee : Nat) : Int), .slice Aw wd.length cw, .int .i64 ((k : Nat) : Int), .slice Ap ps.length cp] 73)).cell? ⟨W1.heap.size, 2, none⟩ = some (.int .i64 ((k : Nat) : Int)) := hXb.cell 2
    have x3 : (W1.alloc (.cells #[.int .i64 ((ee : Nat) : Int), .slice Aw wd.length cw, .int .i64 ((k : Nat) : Int), .slice Ap ps.length cp] 73)).cell? ⟨W1.heap.size, 3, none⟩ = some (.slice Ap ps.length cp) := hXb.cell 3
    have Hwi := Lib.hid (hwi.below (alloc_below W1 (.cells #[.int .i64 ((ee : Nat) : Int), .slice Aw wd.length cw, .int .i64 ((k : Nat) : Int), .slice Ap ps.length cp] 73)))
    have Hpi := Lib.hid (hpi.below (alloc_below W1 (.cells #[.int .i64 ((ee : Nat) : Int), .slice Aw wd.length cw, .int .i64 ((k : Nat) : Int), .slice Ap ps.length cp] 73)))
    clear hn hXb hB0 hwi hpi
    go_upto_region 2 with fail
    generalize W1.alloc (.cells #[.int .i64 ((ee : Nat) : Int), .slice Aw wd.length cw, .int .i64 ((k : Nat) : Int), .slice Ap ps.length cp] 73) = We at *
    clear hb1
    generalize W1.heap.size = gX at *
    go_wp2_with fail
    refine bodyPost_ret (results_tmp2 rfl _ _ _) rfl ?_
    exact ⟨HBx.out, .inr ⟨wd, ps, k, Hn.out, rfl⟩⟩

set_option maxRecDepth 20000 in
set_option maxHeartbeats 1000000 in
theorem rf21_Reductions (h : GH) (G : Gr) (At : Option Addr) (n c : Nat) (t : List Int) (w : World) (hg : GrAt w h G) (ht : Ints .i64 w At n c t) (hn2 : n ≤ 400) (h1 : h.n1 ≤ 100) (h2 : h.n2 ≤ 100) (h3 : h.n3 ≤ 100) :
    Calls Tryz.prog 33 #[GV h G.start, .slice At n c] w fun e w' => Below w.heap.size w w' ∧
      ((readT G t = none ∧ e = .returned (.tuple #[.slice none 0 0, .int .i64 1])) ∨ (∃ wd ps k A c', readT G t = some (wd, ps, k) ∧ e = .returned (.tuple #[.slice A ps.length c', .int .i64 0]) ∧ Ints .i64 w' A ps.length c' ps)) := by
  have hB0 := alloc_below w (.cells #[.slice h.a1 h.n1 h.c1, .slice h.a2 h.n2 h.c2, .slice h.a3 h.n3 h.c3, .int .i64 G.start] 26)
  have CR := Lib.hid (rf_Whole h G At n c t _ (hg.below hB0) (ht.below hB0) hn2 h1 h2 h3)
  have hHB := Lib.hid hB0
  clear hg ht
  go_enter Tryz.func33, Tryz.ntmps33
  go_wp2_with fail
  generalize w.alloc (.cells #[.slice h.a1 h.n1 h.c1, .slice h.a2 h.n2 h.c2, .slice h.a3 h.n3 h.c3, .int .i64 G.start] 26) = W0 at *
  (with_reducible refine CR.out.mono ?_)
  rintro e W1 ⟨hb1, ⟨hn, rfl⟩ | ⟨wd, ps, k, ee, Aw, cw, Ap, cp, hn, hee0, hee1, rfl, hwi, hpi⟩⟩
  · have Hn := Lib.hid hn
    have hXb := Blk.new W1 73 #[.int .i64 0, .slice none 0 0, .int .i64 0, .slice none 0 0]
    have HBx := Lib.hid (below_tail hHB.out (below_tail hb1 (alloc_below W1 (.cells #[.int .i64 0, .slice none 0 0, .int .i64 0, .slice none 0 0] 73))))
    have x0 : (W1.alloc (.cells #[.int .i64 0, .slice none 0 0, .int .i64 0, .slice none 0 0] 73)).cell? ⟨W1.heap.size, 0, none⟩ = some (.int .i64 0) := hXb.cell 0
    have x1 : (W1.alloc (.cells #[.int .i64 0, .slice none 0 0, .int .i64 0, .slice none 0 0] 73)).cell? ⟨W1.heap.size, 1, none⟩ = some (.slice none 0 0) := hXb.cell 1
    have x2 : (W1.alloc (.cells #[.int .i64 0, .slice none 0 0, .int .i64 0, .slice none 0 0] 73)).cell? ⟨W1.heap.size, 2, none⟩ = some (.int .i64 0) := hXb.cell 2
    have x3 : (W1.alloc (.cells #[.int .i64 0, .slice none 0 0, .int .i64 0, .slice none 0 0] 73)).cell? ⟨W1.heap.size, 3, none⟩ = some (.slice none 0 0) := hXb.cell 3
    clear hn hXb hB0
    go_upto_region 2 with fail
    generalize W1.alloc (.cells #[.int .i64 0, .slice none 0 0, .int .i64 0, .slice none 0 0] 73) = We at *
    clear hb1
    generalize W1.heap.size = gX at *
    go_wp2_with fail
    refine bodyPost_ret (results_tmp2 rfl _ _ _) rfl ?_
    exact ⟨HBx.out, .inl ⟨Hn.out, rfl⟩⟩
  · have Hn := Lib.hid hn
    have heq : ((ee : Int) == 0) = false := by rw [beq_eq_false_iff_ne]; omega
    have hXb := Blk.new W1 73 #[.int .i64 ((ee : Nat) : Int), .slice Aw wd.length cw, .int .i64 ((k : Nat) : Int), .slice Ap ps.length cp]
    have HBx := Lib.hid (below_tail hHB.out (below_tail hb1 (alloc_below W1 (.cells #[.int .i64 ((ee : Nat) : Int), .slice Aw wd.length cw, .int .i64 ((k : Nat) : Int), .slice Ap ps.length cp] 73))))
    have x0 : (W1.alloc (.cells #[.int .i64 ((ee : Nat) : Int), .slice Aw wd.length cw, .int .i64 ((k : Nat) : Int), .slice Ap ps.length cp] 73)).cell? ⟨W1.heap.size, 0, none⟩ = some (.int .i64 ((ee : Nat) : Int)) := hXb.cell 0
    have x1 : (W1.alloc (.cells #[.int .i64 ((ee : Nat) : Int), .slice Aw wd.length cw, .int .i64 ((k : Nat) : Int), .slice Ap ps.length cp] 73)).cell? ⟨W1.heap.size, 1, none⟩ = some (.slice Aw wd.length cw) := hXb.cell 1
    have x2 : (W1.alloc (.cells #[.int .i64 ((ee : Nat) : Int), .slice Aw wd.length cw, .int .i64 ((k : Nat) : Int), .slice Ap ps.length cp] 73)).cell? ⟨W1.heap.size, 2, none⟩ = some (.int .i64 ((k : Nat) : Int)) := hXb.cell 2
    have x3 : (W1.alloc (.cells #[.int .i64 ((ee : Nat) : Int), .slice Aw wd.length cw, .int .i64 ((k : Nat) : Int), .slice Ap ps.length cp] 73)).cell? ⟨W1.heap.size, 3, none⟩ = some (.slice Ap ps.length cp) := hXb.cell 3
    have Hwi := Lib.hid (hwi.below (alloc_below W1 (.cells #[.int .i64 ((ee : Nat) : Int), .slice Aw wd.length cw, .int .i64 ((k : Nat) : Int), .slice Ap ps.length cp] 73)))
    have Hpi := Lib.hid (hpi.below (alloc_below W1 (.cells #[.int .i64 ((ee : Nat) : Int), .slice Aw wd.length cw, .int .i64 ((k : Nat) : Int), .slice Ap ps.length cp] 73)))
    clear hn hXb hB0 hwi hpi
    go_upto_region 2 with fail
    generalize W1.alloc (.cells #[.int .i64 ((ee : Nat) : Int), .slice Aw wd.length cw, .int .i64 ((k : Nat) : Int), .slice Ap ps.length cp] 73) = We at *
    clear hb1
    generalize W1.heap.size = gX at *
    go_wp2_with fail
    refine bodyPost_ret (results_tmp2 rfl _ _ _) rfl ?_
    exact ⟨HBx.out, .inr ⟨wd, ps, k, Ap, cp, Hn.out, rfl, Hpi.out⟩⟩

set_option maxRecDepth 20000 in
set_option maxHeartbeats 1000000 in
theorem rf21_Right (h : GH) (G : Gr) (At : Option Addr) (n c : Nat) (t : List Int) (w : World) (hg : GrAt w h G) (ht : Ints .i64 w At n c t) (hn2 : n ≤ 400) (h1 : h.n1 ≤ 100) (h2 : h.n2 ≤ 100) (h3 : h.n3 ≤ 100) :
    Calls Tryz.prog 31 #[GV h G.start, .slice At n c] w fun e w' => Below w.heap.size w w' ∧ e = .returned (.bool (readT G t).isSome) := by
  have hB0 := alloc_below w (.cells #[.slice h.a1 h.n1 h.c1, .slice h.a2 h.n2 h.c2, .slice h.a3 h.n3 h.c3, .int .i64 G.start] 26)
  have CR := Lib.hid (rf_Whole h G At n c t _ (hg.below hB0) (ht.below hB0) hn2 h1 h2 h3)
  have hHB := Lib.hid hB0
  have kf : ∀ (v0 v1 v2 v3 : Value) (W : World), (Instr.field 73 (.agg #[v0, v1, v2, v3]) 0).run Tryz.prog W = .ok v0 W := fun v0 v1 v2 v3 W => by kernel_rfl
  clear hg ht
  go_enter Tryz.func31, Tryz.ntmps31
  go_wp2_with fail
  generalize w.alloc (.cells #[.slice h.a1 h.n1 h.c1, .slice h.a2 h.n2 h.c2, .slice h.a3 h.n3 h.c3, .int .i64 G.start] 26) = W0 at *
  (with_reducible refine CR.out.mono ?_)
  rintro e W1 ⟨hb1, ⟨hn, rfl⟩ | ⟨wd, ps, k, ee, Aw, cw, Ap, cp, hn, hee0, hee1, rfl, hwi, hpi⟩⟩
  · have Hn := Lib.hid hn
    have HBx := Lib.hid (below_tail hHB.out hb1)
    clear hn hb1 hB0
    go_wp2_with fail
    go_ret
    exact ⟨HBx.out, by rw [Hn.out]; rfl⟩
  · have Hn := Lib.hid hn
    have HBx := Lib.hid (below_tail hHB.out hb1)
    have hgt : decide ((0 : Int) < (ee : Int)) = true := by rw [decide_eq_true_iff]; omega
    clear hn hb1 hB0 hwi hpi
    go_wp2_with fail
    go_ret
    exact ⟨HBx.out, by rw [Hn.out]; rfl⟩
end Go.Proofs.YtfdbpafenhdkbaaGreat
