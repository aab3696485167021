/- trees: the reference's node, walked. -/
import Derived.Test.YtfdbpafenhdkbaaGreatQTrR1
import Derived.Deep.RegionLaw
namespace Go.Proofs.YtfdbpafenhdkbaaGreat
open Go.RowKit
set_option linter.unusedVariables false
set_option linter.unusedSimpArgs false

theorem Tryz.infoI64R : (Tryz.prog.info? 3).map (fun i => (i.zero, i.size, i.bytes)) = some (some (.int .i64 0), 1, 8) := by kernel_rfl
set_option maxRecDepth 20000 in
set_option maxHeartbeats 4000000 in
theorem rf_node (h : GH) (G : Gr) (hfit : G.Fits) (At : Option Addr) (n c : Nat) (t : List Int) (hn2 : n ≤ 400) (h3 : h.n3 ≤ 100) : ∀ (q at_ : Nat) (non : Int) (w : World),
    GrAt w h G → Ints .i64 w At n c t → q ≤ 400 → at_ ≤ n → n - at_ ≤ q → -100 ≤ non → non ≤ 100 →
    Calls Tryz.prog 78 #[GV h G.start, .slice At n c, .int .i64 (at_ : Int), .int .i64 non] w (NodeRet G q at_ non t w) := by
  intro q
  induction q with
  | zero =>
    intro at_ non w hg ht hq hat hr hn0 hn1
    exact rf_node_bad h G At n c t hn2 0 at_ non w hg ht hat h3 (.inl (by omega))
  | succ q ih =>
    intro at_ non w hg ht hq hat hr hn0 hn1
    by_cases hal : at_ = n
    · exact rf_node_bad h G At n c t hn2 (q + 1) at_ non w hg ht hat h3 (.inl hal)
    have hlt : at_ < n := by omega
    obtain ⟨b, off, i, rfl, hb, Hi, q0⟩ := ht.get hlt
    by_cases hbad : ∀ r, ruleAt G i = some r → r.left ≠ non
    · exact rf_node_bad h G _ n c t hn2 (q + 1) at_ non w hg ht hat h3 (.inr ⟨i, Hi.out, hbad⟩)
    obtain ⟨r, hrat, hleft⟩ : ∃ r, ruleAt G i = some r ∧ r.left = non := by
      rcases Classical.not_forall.1 hbad with ⟨r, hr⟩
      rcases Classical.not_imp.1 hr with ⟨h1, h2⟩
      exact ⟨r, h1, Classical.not_not.1 h2⟩
    obtain rfl := ht.len
    have hcap := ht.cap
    have Hret : Hid (walkP G (q + 1) ⟨t.drop at_, [], []⟩ non = (symsP (walkP G q) r.right ⟨t.drop (at_ + 1), [], []⟩ 0).map fun x => ({ x.1 with posts := x.1.posts ++ [i] }, x.2 + 1)) := Lib.hid (walkP_good (rest := t.drop (at_ + 1)) (drop_get Hi.out) hrat hleft)
    obtain ⟨ir, rfl, hrg⟩ := ruleAt_some hrat
    obtain ⟨a1, n1, c1, a2, n2, c2, a3, n3, c3⟩ := h
    simp only [] at h3
    have e3 : G.rules.length = n3 := hg.rules.len
    have k3 := hg.rules.cap
    simp only [] at k3
    have hir : ir < n3 := by rw [← e3]; exact (List.getElem?_eq_some_iff.1 hrg).1
    obtain ⟨rb, roff, r', Arr, crr, hA3, hrb, Hr0, w0c, w1c, w2c, hri⟩ := hg.rules.get hir
    simp only [] at hA3
    subst hA3
    obtain rfl : r = r' := by
      have := Hr0.out
      rw [hrg] at this
      injection this
    have hrm := List.mem_of_getElem? hrg
    have hlen := hfit.len r hrm
    have hsym := hfit.sym r hrm
    have hfn := hfit.n2
    have hft := hfit.n1
    have hcapr := hri.cap
    have hsb : ∀ s ∈ r.right, -16 ≤ s ∧ s < 24 := fun s hs => by have := hsym s hs; omega
    have hne : (r.left != non) = false := by rw [bne_eq_false_iff_eq]; exact hleft
    have hB0 := alloc_below w (.cells #[.slice a1 n1 c1, .slice a2 n2 c2, .slice (some ⟨rb, roff, none⟩) n3 c3, .int .i64 G.start] 26)
    have hbox := GBox.new w 26 ⟨a1, n1, c1, a2, n2, c2, some ⟨rb, roff, none⟩, n3, c3⟩ G.start
    have hb1 := alloc_below (w.alloc (.cells #[.slice a1 n1 c1, .slice a2 n2 c2, .slice (some ⟨rb, roff, none⟩) n3 c3, .int .i64 G.start] 26)) (.cells #[.int .i64 0, .slice none 0 0, .int .i64 0, .slice none 0 0] 73)
    have hO := Blk.new (w.alloc (.cells #[.slice a1 n1 c1, .slice a2 n2 c2, .slice (some ⟨rb, roff, none⟩) n3 c3, .int .i64 G.start] 26)) 73 #[.int .i64 0, .slice none 0 0, .int .i64 0, .slice none 0 0]
    have hB1 := below_tail hB0 hb1
    have hbx1 := hbox.below hb1
    have p5 := alloc_size w (.cells #[.slice a1 n1 c1, .slice a2 n2 c2, .slice (some ⟨rb, roff, none⟩) n3 c3, .int .i64 G.start] 26)
    rw [p5] at hO
    have Hg := Lib.hid hg
    have Ht := Lib.hid ht
    have Hri := Lib.hid hri
    have Hsb := Lib.hid hsb
    have IH := Lib.hid ih
    have Hfit := Lib.hid hfit
    clear hb1 hbox p5 hB0 hg ht hri hsb ih hfit hrm hsym hleft hrat hbad hal Hr0
    have ⟨z5, z0, z1, z2, z3⟩ := hbx1
    simp only [] at z0 z1 z2 z3
    go_enter Tryz.func78, Tryz.ntmps78
    go_wp2_with fail
    rw [← hB1.cell (p := ⟨b, off + at_, none⟩) hb] at q0
    rw [← hB1.cell (p := ⟨rb, roff + ir * 3, none⟩) hrb] at w0c
    rw [← hB1.cell (p := ⟨rb, roff + ir * 3 + 1, none⟩) hrb] at w1c
    rw [← hB1.cell (p := ⟨rb, roff + ir * 3 + 2, none⟩) hrb] at w2c
    generalize (w.alloc (.cells #[.slice a1 n1 c1, .slice a2 n2 c2, .slice (some ⟨rb, roff, none⟩) n3 c3, .int .i64 G.start] 26)).alloc (.cells #[.int .i64 0, .slice none 0 0, .int .i64 0, .slice none 0 0] 73) = W0 at *
    have bc := bl_cell W0
    have hs0 : w.heap.size ≤ W0.heap.size := hB1.size
    have hlO : w.heap.size + 1 < W0.heap.size := hO.lt
    have hb' : b < W0.heap.size := by omega
    have hrb' : rb < W0.heap.size := by omega
    have hd0 : decide (t.length ≤ at_) = false := by rw [decide_eq_false_iff_not]; omega
    have hd1 : decide (n3 ≤ ir) = false := by rw [decide_eq_false_iff_not]; omega
    have hd2 : decide ((ir : Int) < 0) = false := by rw [decide_eq_false_iff_not]; omega
    have HO := Lib.hid hO
    have HB1 := Lib.hid hB1
    have Hbx1 := Lib.hid hbx1
    clear hO hB1 hbx1
    generalize hleftv : r.left = rl at *
    generalize hprec : r.prec = rp at *
    generalize hright : r.right = right at *
    clear hleftv hprec hright
    refine wp_region_below (by kernel_rfl) (by kernel_rfl) ?_
    repeat (go_big_quiet_step (fail))
    refine wpQuiet_nil ?_
    rintro _ ⟨x, rfl⟩
    have hbx := bl_below W0 x
    have hO2 := HO.out.ext hbx
    have hbx2 := Hbx1.out.below hbx
    rw [← bc x _ _ hb'] at q0
    rw [← bc x _ _ hrb'] at w0c w1c w2c
    have ⟨y5, y0, y1, y2, y3⟩ := hbx2
    simp only [] at y0 y1 y2 y3
    have HB2 := Lib.hid (below_tail HB1.out hbx)
    have HO2 := Lib.hid hO2
    have Hbx2 := Lib.hid hbx2
    have hs2 := bl_size W0 x
    clear z0 z1 z2 z3 z5 hO2 hbx2 hbx bc Hbx1 HO
    generalize bl W0 x = W2 at *
    have hbW2 : b < W2.heap.size := by omega
    have hrW2 : rb < W2.heap.size := by omega
    have HS : Hid (∀ W', Below W2.heap.size W2 W' → W'.cell? ⟨w.heap.size, 2, none⟩ = some (.slice (some ⟨rb, roff, none⟩) n3 c3) ∧ W'.cell? ⟨b, off + at_, none⟩ = some (.int .i64 (ir : Int)) ∧ W'.cell? ⟨rb, roff + ir * 3, none⟩ = some (.int .i64 rl) ∧ W'.cell? ⟨rb, roff + ir * 3 + 1, none⟩ = some (.slice Arr right.length crr) ∧ W'.cell? ⟨rb, roff + ir * 3 + 2, none⟩ = some (.int .i64 rp) ∧ Below W2.heap.size W2 W') := Lib.hid fun W' hb2 => ⟨by rw [hb2.cell (by exact y5)]; exact y2, by rw [hb2.cell (by exact hbW2)]; exact q0, by rw [hb2.cell (by exact hrW2)]; exact w0c, by rw [hb2.cell (by exact hrW2)]; exact w1c, by rw [hb2.cell (by exact hrW2)]; exact w2c, hb2⟩
    go_wp2_with fail
    go_region_held3 (fun W' => W'.cell? ⟨w.heap.size, 2, none⟩ = some (.slice (some ⟨rb, roff, none⟩) n3 c3) ∧ W'.cell? ⟨b, off + at_, none⟩ = some (.int .i64 (ir : Int)) ∧ W'.cell? ⟨rb, roff + ir * 3, none⟩ = some (.int .i64 rl) ∧ W'.cell? ⟨rb, roff + ir * 3 + 1, none⟩ = some (.slice Arr right.length crr) ∧ W'.cell? ⟨rb, roff + ir * 3 + 2, none⟩ = some (.int .i64 rp) ∧ Below W2.heap.size W2 W')
      ((refine HS.out _ ?_; (repeat (first | assumption | exact Below.refl _ _ | refine Below.drew ?_ | refine below_alloc ?_ _ | refine below_set ?_ _ _ _ (by (first | exact Nat.le_refl _ | exact Nat.le_succ _ | exact Below.size (by assumption) | exact Nat.le_succ_of_le (Below.size (by assumption)) | (simp; done) | omega)))); done))
      (fail)
    have hRb := Blk.new W2 41 #[.int .i64 rl, .slice Arr right.length crr, .int .i64 rp]
    have hXb := Blk.new (W2.alloc (.cells #[.int .i64 rl, .slice Arr right.length crr, .int .i64 rp] 41)) 73 #[.int .i64 ((at_ : Int) + 1), .slice none 0 0, .int .i64 0, .slice none 0 0]
    have hbR := (Below.refl W2.heap.size W2).alloc (Nat.le_refl _) (.cells #[.int .i64 rl, .slice Arr right.length crr, .int .i64 rp] 41)
    have hszR : (W2.alloc (.cells #[.int .i64 rl, .slice Arr right.length crr, .int .i64 rp] 41)).heap.size = W2.heap.size + 1 := alloc_size _ _
    have hbX := (below_alloc hbR (.cells #[.int .i64 ((at_ : Int) + 1), .slice none 0 0, .int .i64 0, .slice none 0 0] 73)).drew
    have hRb2 := (hRb.ext (alloc_below _ (.cells #[.int .i64 ((at_ : Int) + 1), .slice none 0 0, .int .i64 0, .slice none 0 0] 73))).drew
    rw [hszR] at hXb
    have hXb := hXb.drew
    have hw1 : IntKind.i64.wrap ((at_ : Int) + 1) = (at_ : Int) + 1 := IntWalk.i64_in _ (by omega)
    go_wp2_with fail
    generalize ((W2.alloc (.cells #[.int .i64 rl, .slice Arr right.length crr, .int .i64 rp] 41)).alloc (.cells #[.int .i64 ((at_ : Int) + 1), .slice none 0 0, .int .i64 0, .slice none 0 0] 73)).drew = W3 at *
    have hX3 := hXb.lt
    have HX3 : Hid (Blk W3 (W2.heap.size + 1) 73 (NdC (at_ + 1) none 0 0 0 none 0 0)) := Lib.hid hXb
    have HR3 := Lib.hid hRb2
    have HB3 := Lib.hid hbX
    clear hRb hXb hbR hszR hbX hRb2 y0 y1 y2 y3 HS q0 w0c w1c w2c
    generalize hgR : W2.heap.size = gR at *
    go_loopw [11] (fun i wr => ∃ (k e hg : Nat) (Aw : Option Addr) (cw : Nat) (Ap : Option Addr) (cp : Nat) (wd ps : List Int), i = .int .i64 (k : Int) ∧ k ≤ right.length ∧ at_ + 1 ≤ e ∧ e ≤ t.length ∧ hg ≤ q ∧ wd.length ≤ 6 * (e - at_ - 1) + k ∧ ps.length ≤ e - at_ - 1 ∧
      Hid (Blk wr (gR + 1) 73 (NdC e Aw wd.length cw hg Ap ps.length cp)) ∧ Hid (Rows2 wr W3.heap.size Aw cw wd Ap cp ps) ∧ Hid (Below (gR + 1) W3 wr) ∧ W3.heap.size ≤ wr.heap.size ∧
      Hid (symsP (walkP G q) right ⟨t.drop (at_ + 1), [], []⟩ 0 = symsP (walkP G q) (right.drop k) ⟨t.drop e, wd, ps⟩ hg)) (fun i _ => right.length - (intOf i).toNat)
    case atStart => exact ⟨0, at_ + 1, 0, none, 0, none, 0, [], [], rfl, Nat.zero_le _, Nat.le_refl _, by omega, Nat.zero_le _, by simp, by simp, HX3, Lib.hid (Rows2.nil _ _), Lib.hid (Below.refl _ _), Nat.le_refl _, Lib.hid rfl⟩
    case round =>
      obtain ⟨k, e, hgt, Aw, cw, Ap, cp, wd, ps, rfl, hk, he1, he2, hhq, hwl, hpl, HX, HR, HB, hsw, Hsy⟩ := hrel
      have HBr : Hid (Below gR W2 wr) := Lib.hid (HB3.out.trans (HB.out.mono (Nat.le_succ _)))
      have HBw : Hid (Below w.heap.size w wr) := Lib.hid (HB2.out.trans (HBr.out.mono (by rw [← hgR]; exact HB2.out.size)))
      have hxl := HX.out.lt
      have x0 : wr.cell? ⟨gR + 1, 0, none⟩ = some (.int .i64 (e : Int)) := HX.out.cell 0
      have x1 : wr.cell? ⟨gR + 1, 1, none⟩ = some (.slice Aw wd.length cw) := HX.out.cell 1
      have x2 : wr.cell? ⟨gR + 1, 2, none⟩ = some (.int .i64 (hgt : Int)) := HX.out.cell 2
      have x3 : wr.cell? ⟨gR + 1, 3, none⟩ = some (.slice Ap ps.length cp) := HX.out.cell 3
      have v0 := HX.out.frozen 0
      have v1 := HX.out.frozen 1
      have v2 := HX.out.frozen 2
      have v3 := HX.out.frozen 3
      have HRr := Lib.hid (HR3.out.below HB.out (by omega))
      have r1 : wr.cell? ⟨gR, 1, none⟩ = some (.slice Arr right.length crr) := HRr.out.cell 1
      have HOr : Hid (Blk wr (w.heap.size + 1) 73 #[.int .i64 0, .slice none 0 0, .int .i64 0, .slice none 0 0]) := Lib.hid (HO2.out.below HBr.out (by have := HO2.out.lt; omega))
      have u0 : wr.cell? ⟨w.heap.size + 1, 0, none⟩ = some (.int .i64 0) := HOr.out.cell 0
      have u1 : wr.cell? ⟨w.heap.size + 1, 1, none⟩ = some (.slice none 0 0) := HOr.out.cell 1
      have u2 : wr.cell? ⟨w.heap.size + 1, 2, none⟩ = some (.int .i64 0) := HOr.out.cell 2
      have u3 : wr.cell? ⟨w.heap.size + 1, 3, none⟩ = some (.slice none 0 0) := HOr.out.cell 3
      have ou0 := HOr.out.frozen 0
      have ou1 := HOr.out.frozen 1
      have ou2 := HOr.out.frozen 2
      have ou3 := HOr.out.frozen 3
      by_cases hkl : k < right.length
      case neg =>
        have hkr : k = right.length := by omega
        have hfin : walkP G (q + 1) ⟨t.drop at_, [], []⟩ non = some (⟨t.drop e, wd, ps ++ [(ir : Int)]⟩, hgt + 1) := by
          rw [Hret.out, Hsy.out, List.drop_eq_nil_of_le (by omega), symsP]
          rfl
        obtain ⟨e', s1, s2, s3, s4, s5, s6, s7⟩ := walkP_shape Hfit.out hfin
        simp only at s3 s4 s5
        have hee : e' = e := by
          have := congrArg List.length s3
          rw [List.length_drop, List.length_drop] at this
          omega
        subst hee
        have hpn : (ps ++ [(ir : Int)]).length = ps.length + 1 := by simp
        have Hfinal : Hid (∀ (w' : World) (A4 : Option Addr) (c4 : Nat), Below w.heap.size w w' → Rows2 w' w.heap.size Aw cw wd A4 c4 (ps ++ [(ir : Int)]) → NodeRet G (q + 1) at_ non t w (.returned (.agg #[.int .i64 ((e' : Nat) : Int), .slice Aw wd.length cw, .int .i64 ((hgt + 1 : Nat) : Int), .slice A4 (ps.length + 1) c4])) w') := Lib.hid fun w' A4 c4 hb hrw => ⟨hb, .inr ⟨_, _, e', Aw, cw, A4, c4, hfin, rfl, s1, s2, s4, s5, s6, s7, by rw [hpn], hrw⟩⟩
        have hcast : ((hgt + 1 : Nat) : Int) = (hgt : Int) + 1 := by omega
        rw [hcast] at Hfinal
        have hwh : IntKind.i64.wrap ((hgt : Int) + 1) = (hgt : Int) + 1 := IntWalk.i64_in _ (by omega)
        have q0r : wr.cell? ⟨b, off + at_, none⟩ = some (.int .i64 (ir : Int)) := by
          obtain ⟨b', off', i', hbo, hb', Hi', q0'⟩ := (Ht.out.below HBw.out).get hlt
          injection hbo with hbo
          injection hbo with h1 h2 h3
          subst h1; subst h2
          rw [q0']
          have := Hi.out.symm.trans Hi'.out
          injection this with this
          rw [this]
        have hbg : b < gR + 1 := by omega
        have HX1 : Hid (Blk (wr.setCell ⟨gR + 1, 2, none⟩ (.int .i64 ((hgt : Int) + 1))) (gR + 1) 73 #[.int .i64 (e' : Int), .slice Aw wd.length cw, .int .i64 ((hgt : Int) + 1), .slice Ap ps.length cp]) := Lib.hid (HX.out.set 2 (.int .i64 ((hgt : Int) + 1)))
        have HR1 := Lib.hid (HR.out.set (gR + 1) 2 (.int .i64 ((hgt : Int) + 1)) (by omega))
        have hB1 := bC_set (Below.refl (gR + 1) wr) (by omega) (gR + 1) 2 (.int .i64 ((hgt : Int) + 1)) (Nat.le_refl _)
        have q1 : (wr.setCell ⟨gR + 1, 2, none⟩ (.int .i64 ((hgt : Int) + 1))).cell? ⟨b, off + at_, none⟩ = some (.int .i64 (ir : Int)) := by rw [hB1.cell (p := ⟨b, off + at_, none⟩) hbg]; exact q0r
        have HB1 := Lib.hid hB1
        have hs1 := hB1.size
        clear hfin s3 s4 s5 s6 s7 hpn hcast hB1 u0 u1 u2 u3 ou0 ou1 ou2 ou3 x0 x1 x3 v0 v1 v3
        go_upto_region 16 with fail
        generalize wr.setCell ⟨gR + 1, 2, none⟩ (.int .i64 ((hgt : Int) + 1)) = W1 at *
        have x3 : W1.cell? ⟨gR + 1, 3, none⟩ = some (.slice Ap ps.length cp) := HX1.out.cell 3
        have v3 := HX1.out.frozen 3
        have HoP := Lib.hid HR1.out.posts
        have HiA := Lib.hid Tryz.infoI64R
        have HBA := Lib.hid ((Below.refl W1.heap.size W1).drew.alloc (Nat.le_refl _) (.cells #[.int .i64 (ir : Int)] 3))
        have HS : Hid (∀ W', Below (gR + 1) W1 W' → W'.cell? ⟨b, off + at_, none⟩ = some (.int .i64 (ir : Int))) := Lib.hid fun W' hb2 => by rw [hb2.cell (by exact hbg)]; exact q1
        have hCw : gR + 1 ≤ W1.heap.size := by omega
        have hsw1 : W3.heap.size ≤ W1.heap.size := by omega
        have hxl1 : gR + 1 < W1.heap.size := HX1.out.lt
        clear x2 v2 q0r
        go_wp2_with fail
        go_region_law (first
            | (refine step_appendW (w := W1) rfl _ _ 32 rfl W3.heap.size 3 _ 1 8 Tryz.underlying32 HiA.out (by decide) (by decide) Ap ps.length cp (ints .i64 ps) (by simp [Act.eval, Act.put]) HoP.out [.int .i64 (ir : Int)] rfl (by simp [Act.eval, Act.put]) (by simp [Value.oneCell']) (by exact HBA.out) (by exact laid_cells W1 [.int .i64 (ir : Int)] _) (by omega) (by omega) (by exact hsw1) ?_; intro A4 c4 w4 ho hgr ha
               have b4 := HX1.out.grown hgr (by intro e; have := (HoP.out.lt _ e.symm).1; omega)
               have Hput := Lib.hid ((HR1.out.putP [(ir : Int)] ho hgr ha).set (gR + 1) 3 (.slice A4 (ps.length + 1) c4) (by omega))
               have hB4 : Below (gR + 1) W1 w4 := below_row HoP.out hgr (by omega) hCw
               have hv4 := b4.frozen 3
               have hx4 : w4.cell? ⟨gR + 1, 3, none⟩ = some (.slice Ap ps.length cp) := b4.cell 3
               have Hb4 := Lib.hid b4
               clear ho hgr ha b4))
        all_goals
          have HX5 : Hid (Blk (w4.setCell ⟨gR + 1, 3, none⟩ (.slice A4 (ps.length + 1) c4)) (gR + 1) 73 #[.int .i64 (e' : Int), .slice Aw wd.length cw, .int .i64 ((hgt : Int) + 1), .slice A4 (ps.length + 1) c4]) := Lib.hid (Hb4.out.set 3 (.slice A4 (ps.length + 1) c4))
          have hB5 := bC_set hB4 hCw (gR + 1) 3 (.slice A4 (ps.length + 1) c4) (Nat.le_refl _)
          have hB6 := HB1.out.trans hB5
          have HBw5 := Lib.hid (HBw.out.trans (hB6.mono (by omega)))
          have HO5 := Lib.hid (HOr.out.below hB6 (by omega))
          go_upto_region 17 with fail
          generalize w4.setCell ⟨gR + 1, 3, none⟩ (.slice A4 (ps.length + 1) c4) = W5 at *
          have u0 : W5.cell? ⟨w.heap.size + 1, 0, none⟩ = some (.int .i64 0) := HO5.out.cell 0
          have u1 : W5.cell? ⟨w.heap.size + 1, 1, none⟩ = some (.slice none 0 0) := HO5.out.cell 1
          have u2 : W5.cell? ⟨w.heap.size + 1, 2, none⟩ = some (.int .i64 0) := HO5.out.cell 2
          have u3 : W5.cell? ⟨w.heap.size + 1, 3, none⟩ = some (.slice none 0 0) := HO5.out.cell 3
          have ou0 := HO5.out.frozen 0
          have ou1 := HO5.out.frozen 1
          have ou2 := HO5.out.frozen 2
          have ou3 := HO5.out.frozen 3
          have k0 : W5.cell? ⟨gR + 1, 0, none⟩ = some (.int .i64 (e' : Int)) := HX5.out.cell 0
          have k1 : W5.cell? ⟨gR + 1, 1, none⟩ = some (.slice Aw wd.length cw) := HX5.out.cell 1
          have k2 : W5.cell? ⟨gR + 1, 2, none⟩ = some (.int .i64 ((hgt : Int) + 1)) := HX5.out.cell 2
          have k3' : W5.cell? ⟨gR + 1, 3, none⟩ = some (.slice A4 (ps.length + 1) c4) := HX5.out.cell 3
          clear x3 v3 hv4 hx4 hB4 hB5 hB6 q1
          go_wp2_with fail
          refine bodyPost_ret (results_cell_row (p := 8) (by kernel_rfl) _ _ (w.heap.size + 1) 73 #[.int .i64 (e' : Int), .slice Aw wd.length cw, .int .i64 ((hgt : Int) + 1), .slice A4 (ps.length + 1) c4] (0, 0) _ rfl ((((HO5.out.set 0 (.int .i64 (e' : Int))).set 1 (.slice Aw wd.length cw)).set 2 (.int .i64 ((hgt : Int) + 1))).set 3 (.slice A4 (ps.length + 1) c4)) Tryz.underlying73 rfl (by kernel_rfl)) rfl ?_
          exact Hfinal.out _ A4 c4 (below_set (below_set (below_set (below_set HBw5.out _ _ _ (by omega)) _ _ _ (by omega)) _ _ _ (by omega)) _ _ _ (by omega)) (((((Hput.out.set _ _ _ (by omega)).set _ _ _ (by omega)).set _ _ _ (by omega)).set _ _ _ (by omega)).mono (by omega))
      case pos =>
        obtain ⟨sb, so, s, rfl, hsb0, Hs, qs⟩ := Hri.out.get hkl
        rw [← HBw.out.cell (p := ⟨sb, so + k, none⟩) hsb0] at qs
        have hsb : sb < gR + 1 := by omega
        have hsbw : sb < wr.heap.size := by omega
        have hs16 := Hsb.out s (List.mem_of_getElem? Hs.out)
        have hCw : gR + 1 ≤ wr.heap.size := by omega
        by_cases h0 : 0 ≤ s
        case pos =>
          have HoW := Lib.hid HR.out.word
          have HiA := Lib.hid Tryz.infoI64R
          have HBA := Lib.hid ((Below.refl wr.heap.size wr).drew.alloc (Nat.le_refl _) (.cells #[.int .i64 s] 3))
          have HS : Hid (∀ W', Below (gR + 1) wr W' → W'.cell? ⟨gR, 1, none⟩ = some (.slice (some ⟨sb, so, none⟩) right.length crr) ∧ W'.cell? ⟨sb, so + k, none⟩ = some (.int .i64 s)) := Lib.hid fun W' hb2 => ⟨by rw [hb2.cell (by show gR < _; omega)]; exact r1, by rw [hb2.cell (by exact hsb)]; exact qs⟩
          go_wp2_with fail
          go_region_law (first
              | (refine step_appendW (w := wr) rfl _ _ 32 rfl W3.heap.size 3 _ 1 8 Tryz.underlying32 HiA.out (by decide) (by decide) Aw wd.length cw (ints .i64 wd) (by simp [Act.eval, Act.put]) HoW.out [.int .i64 s] rfl (by simp [Act.eval, Act.put]) (by simp [Value.oneCell']) (by exact HBA.out) (by exact laid_cells wr [.int .i64 s] _) (by omega) (by omega) (by exact hsw) ?_; intro A4 c4 w4 ho hgr ha
                 have b4 := HX.out.grown hgr (by intro e; have := (HoW.out.lt _ e.symm).1; omega)
                 have Hput := Lib.hid ((HR.out.putW [s] ho hgr ha).set (gR + 1) 1 (.slice A4 (wd.length + 1) c4) (by omega))
                 have hB4 : Below (gR + 1) wr w4 := below_row HoW.out hgr (by omega) hCw
                 have hv4 := b4.frozen 1
                 have hx4 : w4.cell? ⟨gR + 1, 1, none⟩ = some (.slice Aw wd.length cw) := b4.cell 1
                 have Hb4 := Lib.hid b4
                 clear ho hgr ha b4))
          all_goals go_wp2_with fail
          all_goals
            have hl1 : (wd ++ [s]).length = wd.length + 1 := by simp
            refine ⟨⟨k + 1, e, hgt, A4, c4, Ap, cp, wd ++ [s], ps, by go_num, by omega, he1, he2, hhq, by rw [hl1]; omega, hpl, Lib.hid (by rw [hl1]; exact Hb4.out.set 1 (.slice A4 (wd.length + 1) c4)), Lib.hid Hput.out, Lib.hid (HB.out.trans (bC_set hB4 hCw _ _ _ (Nat.le_refl _))), Nat.le_trans hsw (bC_set hB4 hCw _ _ _ (Nat.le_refl _)).size, Lib.hid (by rw [Hsy.out, symsP_word Hs.out h0])⟩, ?_⟩
            simp [intOf]
            omega
        case neg =>
          have hws : IntKind.i64.wrap (-1 - s) = -1 - s := IntWalk.i64_in _ (by omega)
          have ⟨y5, y0, y1, y2, y3⟩ := (Hbx2.out.below (show Below W2.heap.size W2 wr by rw [hgR]; exact HBr.out))
          simp only [] at y0 y1 y2 y3
          have HS : Hid (∀ W', Below wr.heap.size wr W' → W'.cell? ⟨w.heap.size, 0, none⟩ = some (.slice a1 n1 c1) ∧ W'.cell? ⟨w.heap.size, 1, none⟩ = some (.slice a2 n2 c2) ∧ W'.cell? ⟨w.heap.size, 2, none⟩ = some (.slice (some ⟨rb, roff, none⟩) n3 c3) ∧ W'.cell? ⟨w.heap.size, 3, none⟩ = some (.int .i64 G.start) ∧ W'.cell? ⟨gR + 1, 0, none⟩ = some (.int .i64 (e : Int)) ∧ W'.cell? ⟨gR, 1, none⟩ = some (.slice (some ⟨sb, so, none⟩) right.length crr) ∧ W'.cell? ⟨sb, so + k, none⟩ = some (.int .i64 s) ∧ Below wr.heap.size wr W') := Lib.hid fun W' hb2 => ⟨by rw [hb2.cell (by exact y5)]; exact y0, by rw [hb2.cell (by exact y5)]; exact y1, by rw [hb2.cell (by exact y5)]; exact y2, by rw [hb2.cell (by exact y5)]; exact y3, by rw [hb2.cell (by exact hxl)]; exact x0, by rw [hb2.cell (by show gR < _; omega)]; exact r1, by rw [hb2.cell (by exact hsbw)]; exact qs, hb2⟩
          have CI := Lib.hid fun W (hb : Below wr.heap.size wr W) => (IH.out e (-1 - s) W (Hg.out.below (below_tail HBw.out hb)) (Ht.out.below (below_tail HBw.out hb)) (by omega) (by omega) (by omega) (by omega) (by omega)).mono fun e' w' (hh : NodeRet G q e (-1 - s) t W e' w') => And.intro hh.form (And.intro (below_tail hb hh.1) (And.intro hh.1.size (And.intro (bcell hh.1).1 (And.intro (bcell hh.1).2 (Lib.hid hh.1)))))
          go_upto_region 10 with fail
          go_cut [12] (fun v wx => YAt G q e (-1 - s) t wr v wx)
          case first =>
            go_region_held3 (fun W' => W'.cell? ⟨w.heap.size, 0, none⟩ = some (.slice a1 n1 c1) ∧ W'.cell? ⟨w.heap.size, 1, none⟩ = some (.slice a2 n2 c2) ∧ W'.cell? ⟨w.heap.size, 2, none⟩ = some (.slice (some ⟨rb, roff, none⟩) n3 c3) ∧ W'.cell? ⟨w.heap.size, 3, none⟩ = some (.int .i64 G.start) ∧ W'.cell? ⟨gR + 1, 0, none⟩ = some (.int .i64 (e : Int)) ∧ W'.cell? ⟨gR, 1, none⟩ = some (.slice (some ⟨sb, so, none⟩) right.length crr) ∧ W'.cell? ⟨sb, so + k, none⟩ = some (.int .i64 s) ∧ Below wr.heap.size wr W')
              ((refine HS.out _ ?_; (repeat (first | assumption | exact Below.refl _ _ | refine Below.drew ?_ | refine below_alloc ?_ _ | refine below_set ?_ _ _ _ (by (first | exact Nat.le_refl _ | exact Nat.le_succ _ | exact Below.size (by assumption) | exact Nat.le_succ_of_le (Below.size (by assumption)) | (simp; done) | omega)))); done))
              (first
                | (go_at_call 78; refine (CI.out _ (by (repeat (first | assumption | exact Below.refl _ _ | refine Below.drew ?_ | refine below_alloc ?_ _ | refine below_set ?_ _ _ _ (by (first | exact Nat.le_refl _ | exact Nat.le_succ _ | exact Below.size (by assumption) | exact Nat.le_succ_of_le (Below.size (by assumption)) | (simp; done) | omega)))))).mono ?_; rintro e w2 ⟨⟨ee, kk, Ay, cy, Apy, cpy, yw, yp, rfl, hyr, hyo⟩, hb2, hs2', hc2, hf2, Hb2⟩))
            · have hY := Blk.new w2 73 (NdC ee Ay yw.length cy kk Apy yp.length cpy)
              go_wp2_with fail
              go_meet
              exact ⟨w2.heap.size, ee, kk, Ay, cy, Apy, cpy, yw, yp, rfl, hb2.size, below_alloc hb2 _, hY, (hyr.below (alloc_below w2 _)).mono (Nat.le_refl _), hyo⟩
            · have hY0 := (Blk.drew (Blk.new wr 73 #[.int .i64 0, .slice none 0 0, .int .i64 0, .slice none 0 0])).ext Hb2.out
              have hY := (((hY0.set 0 (.int .i64 ((ee : Nat) : Int))).set 1 (.slice Ay yw.length cy)).set 2 (.int .i64 ((kk : Nat) : Int))).set 3 (.slice Apy yp.length cpy)
              have hsW : (wr.alloc (.cells #[.int .i64 0, .slice none 0 0, .int .i64 0, .slice none 0 0] 73)).drew.heap.size = wr.heap.size + 1 := alloc_size _ _
              go_wp2_with fail
              go_meet
              rw [hsW] at hyr
              exact ⟨wr.heap.size, ee, kk, Ay, cy, Apy, cpy, yw, yp, rfl, Nat.le_refl _, below_set (below_set (below_set (below_set hb2 _ _ _ (Nat.le_refl _)) _ _ _ (Nat.le_refl _)) _ _ _ (Nat.le_refl _)) _ _ _ (Nat.le_refl _), hY, ((((hyr.set _ _ _ (Nat.lt_succ_self _)).set _ _ _ (Nat.lt_succ_self _)).set _ _ _ (Nat.lt_succ_self _)).set _ _ _ (Nat.lt_succ_self _)).mono (Nat.le_succ _), hyo⟩
          case rest =>
            obtain ⟨gY, ee, kk, Ay, cy, Apy, cpy, yw, yp, rfl, hgY, hbx, hY, hyr, hyo⟩ := hcut
            have HBc := Lib.hid (below_tail HBw.out hbx)
            have HXc := Lib.hid (HX.out.ext hbx)
            have HRc := Lib.hid (HR.out.below hbx)
            have HBc1 := Lib.hid (HB.out.trans (hbx.mono hCw))
            have HOc := Lib.hid (HOr.out.ext hbx)
            have HY := Lib.hid hY
            have HYr := Lib.hid hyr
            have hgXY : gR + 1 < gY := by omega
            have hsc : wr.heap.size ≤ wc.heap.size := hbx.size
            clear x0 x1 x2 x3 v0 v1 v2 v3 u0 u1 u2 u3 ou0 ou1 ou2 ou3 r1 qs y0 y1 y2 y3 y5 HS CI hY hyr hbx
            obtain ⟨wC, hwC⟩ : ∃ x, x = wc := ⟨_, rfl⟩
            subst hwC
            have y0 : wC.cell? ⟨gY, 0, none⟩ = some (.int .i64 (ee : Int)) := HY.out.cell 0
            rcases hyo with ⟨hn, rfl⟩ | ⟨st', hn, rfl, rfl, hrest, hee1, hee2, hyw, hyp, hkk0, hkk1⟩
            · have Hbad : Hid (walkP G (q + 1) ⟨t.drop at_, [], []⟩ non = none) := Lib.hid (by rw [Hret.out, Hsy.out, symsP_none Hs.out h0 (walkP_onto_none hn)]; rfl)
              have u0 : wC.cell? ⟨w.heap.size + 1, 0, none⟩ = some (.int .i64 0) := HOc.out.cell 0
              have u1 : wC.cell? ⟨w.heap.size + 1, 1, none⟩ = some (.slice none 0 0) := HOc.out.cell 1
              have u2 : wC.cell? ⟨w.heap.size + 1, 2, none⟩ = some (.int .i64 0) := HOc.out.cell 2
              have u3 : wC.cell? ⟨w.heap.size + 1, 3, none⟩ = some (.slice none 0 0) := HOc.out.cell 3
              have ou0 := HOc.out.frozen 0
              have ou1 := HOc.out.frozen 1
              have ou2 := HOc.out.frozen 2
              have ou3 := HOc.out.frozen 3
              clear hn
              go_wp2_with fail
              refine bodyPost_ret (results_cell_row (p := 8) (by kernel_rfl) _ _ (w.heap.size + 1) 73 #[.int .i64 0, .slice none 0 0, .int .i64 0, .slice none 0 0] (0, 0) _ rfl ((((HOc.out.set 0 (.int .i64 0)).set 1 (.slice none 0 0)).set 2 (.int .i64 0)).set 3 (.slice none 0 0)) Tryz.underlying73 rfl (by kernel_rfl)) rfl ?_
              exact ⟨below_set (below_set (below_set (below_set HBc.out _ _ _ (by omega)) _ _ _ (by omega)) _ _ _ (by omega)) _ _ _ (by omega), .inl ⟨Hbad.out, rfl⟩⟩
            · have Hn := Lib.hid (symsP_some (top := hgt) Hs.out h0 (walkP_onto (wd := wd) (ps := ps) hn))
              have Hrest := Lib.hid hrest
              have hyp2 : st'.posts.length ≤ ee - e := Nat.le_of_eq hyp
              clear hyp
              have heq : ((ee : Int) == 0) = false := by rw [beq_eq_false_iff_ne]; omega
              have x0 : wC.cell? ⟨gR + 1, 0, none⟩ = some (.int .i64 (e : Int)) := HXc.out.cell 0
              have x2 : wC.cell? ⟨gR + 1, 2, none⟩ = some (.int .i64 (hgt : Int)) := HXc.out.cell 2
              have y2 : wC.cell? ⟨gY, 2, none⟩ = some (.int .i64 (kk : Int)) := HY.out.cell 2
              have v0 := HXc.out.frozen 0
              have v2 := HXc.out.frozen 2
              have hmx : max (hgt : Int) (kk : Int) = ((max hgt kk : Nat) : Int) := by omega
              have HSY : Hid (∀ W', Blk W' gY 73 (NdC ee Ay st'.word.length cy kk Apy st'.posts.length cpy) → W'.cell? ⟨gY, 0, none⟩ = some (.int .i64 (ee : Int)) ∧ W'.cell? ⟨gY, 2, none⟩ = some (.int .i64 (kk : Int))) := Lib.hid fun W' hb => ⟨hb.cell 0, hb.cell 2⟩
              clear hn hrest
              go_upto_region 13 with fail
              go_cut [] (fun wx => Hid (Blk wx (gR + 1) 73 (NdC ee Aw wd.length cw (max hgt kk) Ap ps.length cp)) ∧ Hid (Blk wx gY 73 (NdC ee Ay st'.word.length cy kk Apy st'.posts.length cpy)) ∧ Hid (Rows2 wx W3.heap.size Aw cw wd Ap cp ps) ∧ Hid (Rows2 wx wr.heap.size Ay cy st'.word Apy cpy st'.posts) ∧ Hid (Below (gR + 1) W3 wx) ∧ wr.heap.size ≤ wx.heap.size)
              case first =>
                go_region_law (fail)
                all_goals go_wp2_with fail
                all_goals
                  go_meet
                  exact ⟨Lib.hid (((HXc.out.set 0 (.int .i64 (ee : Int))).set 2 (.int .i64 ((max hgt kk : Nat) : Int))).drew), Lib.hid (((HY.out.other _ _ _ (by omega)).other _ _ _ (by omega)).drew), Lib.hid (((HRc.out.set _ _ _ (by omega)).set _ _ _ (by omega)).drew), Lib.hid (((HYr.out.set _ _ _ (by omega)).set _ _ _ (by omega)).drew), Lib.hid ((bC_set (bC_set HBc1.out (by omega) _ _ _ (Nat.le_refl _)) (by omega) _ _ _ (Nat.le_refl _)).drew), by simp; omega⟩
              case rest =>
                obtain ⟨HX4, HY4, HR4, HYr4, HB4, hs4⟩ := hcut
                obtain ⟨wD, hwD⟩ : ∃ x, x = wc := ⟨_, rfl⟩
                subst hwD
                clear x0 x2 v0 v2 y0 HSY
                have x1 : wD.cell? ⟨gR + 1, 1, none⟩ = some (.slice Aw wd.length cw) := HX4.out.cell 1
                have x3 : wD.cell? ⟨gR + 1, 3, none⟩ = some (.slice Ap ps.length cp) := HX4.out.cell 3
                have y1 : wD.cell? ⟨gY, 1, none⟩ = some (.slice Ay st'.word.length cy) := HY4.out.cell 1
                have y3 : wD.cell? ⟨gY, 3, none⟩ = some (.slice Apy st'.posts.length cpy) := HY4.out.cell 3
                have v1 := HX4.out.frozen 1
                have v3 := HX4.out.frozen 3
                have HSY : Hid (∀ W', Blk W' gY 73 (NdC ee Ay st'.word.length cy kk Apy st'.posts.length cpy) → W'.cell? ⟨gY, 1, none⟩ = some (.slice Ay st'.word.length cy) ∧ W'.cell? ⟨gY, 3, none⟩ = some (.slice Apy st'.posts.length cpy)) := Lib.hid fun W' hb => ⟨hb.cell 1, hb.cell 3⟩
                have HneW : Hid (∀ b, wr.heap.size ≤ b → some b ≠ (Value.slice Aw wd.length cw).ownBlock) := Lib.hid fun b hb e => by have := (HR.out.word.lt b e.symm).2; omega
                have HneP : Hid (∀ b, wr.heap.size ≤ b → some b ≠ (Value.slice Ap ps.length cp).ownBlock) := Lib.hid fun b hb e => by have := (HR.out.posts.lt b e.symm).2; omega
                have HiA := Lib.hid Tryz.infoI64R
                go_wp2_with fail
                go_region_law (first
                    | (refine step_appendS rfl _ _ 32 rfl W3.heap.size 3 _ 8 Tryz.underlying32 HiA.out (by decide) Ap ps.length cp (ints .i64 ps) (by simp [Act.eval, Act.put]) (by exact HRa.out.posts) Apy st'.posts.length cpy (ints .i64 st'.posts) (by simp [Act.eval, Act.put]) (by exact own_sl HYa.out.posts) (ints_one _ _) (by omega) (by omega) (by exact Nat.le_trans hsw hsa) ?_; intro A5 c5 wq ho hgr0 ha
                       have hgr : wp.grownBy wq (Value.slice Ap ps.length cp).ownBlock := ⟨hgr0.os, hgr0.tape, hgr0.output, hgr0.size, hgr0.block⟩
                       have HRf := Lib.hid (HRa.out.putP st'.posts ho hgr ha)
                       have HXf := Lib.hid (HXa.out.grown hgr (by intro e; have := (HRa.out.posts.lt _ e.symm).1; omega))
                       have HBf := Lib.hid (HBa.out.trans (below_row HRa.out.posts hgr (by omega) (by omega)))
                       have hsf : wr.heap.size ≤ wq.heap.size := Nat.le_trans hsa hgr.size
                       have hyf : Blk wq gY 73 (NdC ee Ay st'.word.length cy kk Apy st'.posts.length cpy) := hya.grown hgr (HneP.out gY hgY)
                       have c1f : wq.cell? ⟨gR + 1, 1, none⟩ = some (.slice Aw wd.length cw) := HXf.out.cell 1
                       have c3f : wq.cell? ⟨gR + 1, 3, none⟩ = some (.slice Ap ps.length cp) := HXf.out.cell 3
                       have f1f := HXf.out.frozen 1
                       have f3f := HXf.out.frozen 3
                       clear ho hgr hgr0 ha)
                    | (refine step_appendS rfl _ _ 32 rfl W3.heap.size 3 _ 8 Tryz.underlying32 HiA.out (by decide) Aw wd.length cw (ints .i64 wd) (by simp [Act.eval, Act.put]) (by exact HRa.out.word) Ay st'.word.length cy (ints .i64 st'.word) (by simp [Act.eval, Act.put]) (by exact own_sl HYa.out.word) (ints_one _ _) (by omega) (by omega) (by exact Nat.le_trans hsw hsa) ?_; intro A4 c4 wq ho hgr0 ha
                       have hgr : wp.grownBy wq (Value.slice Aw wd.length cw).ownBlock := ⟨hgr0.os, hgr0.tape, hgr0.output, hgr0.size, hgr0.block⟩
                       have HRf := Lib.hid (HRa.out.putW st'.word ho hgr ha)
                       have HXf := Lib.hid (HXa.out.grown hgr (by intro e; have := (HRa.out.word.lt _ e.symm).1; omega))
                       have HBf := Lib.hid (HBa.out.trans (below_row HRa.out.word hgr (by omega) (by omega)))
                       have hsf : wr.heap.size ≤ wq.heap.size := Nat.le_trans hsa hgr.size
                       have hyf : Blk wq gY 73 (NdC ee Ay st'.word.length cy kk Apy st'.posts.length cpy) := hya.grown hgr (HneW.out gY hgY)
                       have c1f : wq.cell? ⟨gR + 1, 1, none⟩ = some (.slice Aw wd.length cw) := HXf.out.cell 1
                       have c3f : wq.cell? ⟨gR + 1, 3, none⟩ = some (.slice Ap ps.length cp) := HXf.out.cell 3
                       have f1f := HXf.out.frozen 1
                       have f3f := HXf.out.frozen 3
                       clear ho hgr hgr0 ha)
                    | (refine step_appendS rfl _ _ 32 rfl W3.heap.size 3 _ 8 Tryz.underlying32 HiA.out (by decide) Aw wd.length cw (ints .i64 wd) (by simp [Act.eval, Act.put]) (by exact HR4.out.word) Ay st'.word.length cy (ints .i64 st'.word) (by simp [Act.eval, Act.put]) (by exact own_sl HYr4.out.word) (ints_one _ _) (by omega) (by omega) (by exact Nat.le_trans hsw hs4) ?_; intro A4 c4 wp ho hgr0 ha
                       have hgr : wD.grownBy wp (Value.slice Aw wd.length cw).ownBlock := ⟨hgr0.os, hgr0.tape, hgr0.output, hgr0.size, hgr0.block⟩
                       have HRa := Lib.hid (HR4.out.putW st'.word ho hgr ha)
                       have HXa := Lib.hid (HX4.out.grown hgr (by intro e; have := (HR4.out.word.lt _ e.symm).1; omega))
                       have HBa := Lib.hid (HB4.out.trans (below_row HR4.out.word hgr (by omega) (by omega)))
                       have hsa : wr.heap.size ≤ wp.heap.size := Nat.le_trans hs4 hgr.size
                       have HYa := Lib.hid (HYr4.out.keepRow hgr HneW.out)
                       have hya : Blk wp gY 73 (NdC ee Ay st'.word.length cy kk Apy st'.posts.length cpy) := HY4.out.grown hgr (HneW.out gY hgY)
                       have y1a : wp.cell? ⟨gY, 1, none⟩ = some (.slice Ay st'.word.length cy) := hya.cell 1
                       have y3a : wp.cell? ⟨gY, 3, none⟩ = some (.slice Apy st'.posts.length cpy) := hya.cell 3
                       have c1a : wp.cell? ⟨gR + 1, 1, none⟩ = some (.slice Aw wd.length cw) := HXa.out.cell 1
                       have c3a : wp.cell? ⟨gR + 1, 3, none⟩ = some (.slice Ap ps.length cp) := HXa.out.cell 3
                       have f1a := HXa.out.frozen 1
                       have f3a := HXa.out.frozen 3
                       clear ho hgr hgr0 ha)
                    | (refine step_appendS rfl _ _ 32 rfl W3.heap.size 3 _ 8 Tryz.underlying32 HiA.out (by decide) Ap ps.length cp (ints .i64 ps) (by simp [Act.eval, Act.put]) (by exact HR4.out.posts) Apy st'.posts.length cpy (ints .i64 st'.posts) (by simp [Act.eval, Act.put]) (by exact own_sl HYr4.out.posts) (ints_one _ _) (by omega) (by omega) (by exact Nat.le_trans hsw hs4) ?_; intro A5 c5 wp ho hgr0 ha
                       have hgr : wD.grownBy wp (Value.slice Ap ps.length cp).ownBlock := ⟨hgr0.os, hgr0.tape, hgr0.output, hgr0.size, hgr0.block⟩
                       have HRa := Lib.hid (HR4.out.putP st'.posts ho hgr ha)
                       have HXa := Lib.hid (HX4.out.grown hgr (by intro e; have := (HR4.out.posts.lt _ e.symm).1; omega))
                       have HBa := Lib.hid (HB4.out.trans (below_row HR4.out.posts hgr (by omega) (by omega)))
                       have hsa : wr.heap.size ≤ wp.heap.size := Nat.le_trans hs4 hgr.size
                       have HYa := Lib.hid (HYr4.out.keepRow hgr HneP.out)
                       have hya : Blk wp gY 73 (NdC ee Ay st'.word.length cy kk Apy st'.posts.length cpy) := HY4.out.grown hgr (HneP.out gY hgY)
                       have y1a : wp.cell? ⟨gY, 1, none⟩ = some (.slice Ay st'.word.length cy) := hya.cell 1
                       have y3a : wp.cell? ⟨gY, 3, none⟩ = some (.slice Apy st'.posts.length cpy) := hya.cell 3
                       have c1a : wp.cell? ⟨gR + 1, 1, none⟩ = some (.slice Aw wd.length cw) := HXa.out.cell 1
                       have c3a : wp.cell? ⟨gR + 1, 3, none⟩ = some (.slice Ap ps.length cp) := HXa.out.cell 3
                       have f1a := HXa.out.frozen 1
                       have f3a := HXa.out.frozen 3
                       clear ho hgr hgr0 ha))
                all_goals
                  go_wp2_with fail
                  have hl1 : (wd ++ st'.word).length = wd.length + st'.word.length := List.length_append
                  have hl2 : (ps ++ st'.posts).length = ps.length + st'.posts.length := List.length_append
                  refine ⟨⟨k + 1, ee, max hgt kk, A4, c4, A5, c5, wd ++ st'.word, ps ++ st'.posts, by go_num, by omega, by omega, hee2, by omega, by rw [hl1]; omega, by rw [hl2]; omega, Lib.hid (by rw [hl1, hl2]; exact (HXf.out.set 1 (.slice A4 (wd.length + st'.word.length) c4)).set 3 (.slice A5 (ps.length + st'.posts.length) c5)), Lib.hid ((HRf.out.set _ _ _ (by omega)).set _ _ _ (by omega)), Lib.hid (bC_set (bC_set HBf.out (by omega) _ _ _ (Nat.le_refl _)) (by omega) _ _ _ (Nat.le_refl _)), by simp; omega, Lib.hid (by rw [Hsy.out, Hn.out, Hrest.out])⟩, ?_⟩
                  simp [intOf]
                  omega
end Go.Proofs.YtfdbpafenhdkbaaGreat
