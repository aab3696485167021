/- first: the law of rules, walked, but for the fixed fact. -/
import Derived.Test.YtfdbpafenhdkbaaGreatQGrL3
import Derived.Test.YtfdbpafenhdkbaaGreatQGrF4
namespace Go.Proofs.YtfdbpafenhdkbaaGreat
open Go.RowKit
set_option linter.unusedVariables false
set_option linter.unusedSimpArgs false

theorem andNot32 (a b : Nat) (ha : a < 4294967296) (hb : b < 4294967296) (h : b ||| a = b) : bits .andNot .u32 (a : Int) (b : Int) = 0 := by
  have e : (BitVec.ofInt 32 (a : Int) &&& ~~~ (BitVec.ofInt 32 (b : Int))) = 0 := by
    apply BitVec.eq_of_getLsbD_eq
    intro i hi
    rw [BitVec.ofInt_natCast, BitVec.ofInt_natCast, BitVec.getLsbD_and, BitVec.getLsbD_not, BitVec.getLsbD_ofNat, BitVec.getLsbD_ofNat]
    have h1 : a.testBit i = true → b.testBit i = true := fun h1 => by rw [← h, Nat.testBit_or, h1]; simp
    simp only [hi, decide_true, Bool.true_and, BitVec.ofNat_eq_ofNat, BitVec.getLsbD_zero]
    cases h2 : a.testBit i with
    | false => rfl
    | true => rw [h1 h2]; rfl
  show IntKind.u32.wrap ((BitVec.ofInt 32 (a : Int) &&& ~~~ (BitVec.ofInt 32 (b : Int))).toNat : Int) = 0
  rw [e]
  rfl
theorem has_of {G : Gr} {s : Int} (h1 : -(G.nons.length : Int) ≤ s) (h2 : s < (G.terms.length : Int)) : G.has s = true := by
  unfold Gr.has
  split
  · simpa using h2
  · simp; omega

set_option maxRecDepth 100000 in
set_option maxHeartbeats 4000000 in
theorem firstRules_walk' (hal : Alive12) (h : GH) (G : Gr) (w : World) (hgi : GrIn w h G) :
    Calls Tryz.prog 6 #[GV h G.start] w fun e w' => e = .returned (.bool true) ∧ Below w.heap.size w w' := by
  obtain ⟨hg, hs, hst⟩ := hgi
  obtain ⟨a1, n1, c1, a2, n2, c2, a3, n3, c3⟩ := h
  have e1 : G.terms.length = n1 := hg.terms.len
  have e2 : G.nons.length = n2 := hg.nons.len
  have e3 : G.rules.length = n3 := hg.rules.len
  have hB0 := alloc_below w (.cells #[.slice a1 n1 c1, .slice a2 n2 c2, .slice a3 n3 c3, .int .i64 G.start] 26)
  have hbox := GBox.new w 26 ⟨a1, n1, c1, a2, n2, c2, a3, n3, c3⟩ G.start
  have CA := Lib.hid hal
  have Hg := Lib.hid hg
  have Hs := Lib.hid hs
  clear hal hst hg hs
  go_enter Tryz.func6, Tryz.ntmps6
  go_wp2_with fail
  generalize w.alloc (.cells #[.slice a1 n1 c1, .slice a2 n2 c2, .slice a3 n3 c3, .int .i64 G.start] 26) = W0 at *
  (with_reducible refine (CA.out W0).mono ?_)
  rintro e W1 ⟨rfl, hb1⟩
  have hB1 := below_tail hB0 hb1
  have hbx1 := hbox.below hb1
  have ⟨y5, y0, y1, y2, y3⟩ := hbx1
  simp only [] at y0 y1 y2 y3
  go_wp2_with fail
  (with_reducible refine (rf_great ⟨a1, n1, c1, a2, n2, c2, a3, n3, c3⟩ G W1 (Hg.out.below hB1)).mono ?_)
  rintro e W2 ⟨rfl, hb2⟩
  have hB2 := below_tail hB1 hb2
  have hbx2 := hbx1.below hb2
  clear y0 y1 y2 y3 hbox hbx1
  have ⟨y5', y0, y1, y2, y3⟩ := hbx2
  simp only [] at y0 y1 y2 y3
  rcases hgr : G.great with _ | _
  case true =>
    clear hgr
    go_wp2_with fail
    go_ret
    exact ⟨rfl, hB2⟩
  obtain ⟨l1, l2, l3, _⟩ := great_false hgr
  rw [e1] at l1
  rw [e2] at l2
  rw [e3] at l3
  clear hgr
  go_wp2_with fail
  (with_reducible refine (rf_right9 ⟨a1, n1, c1, a2, n2, c2, a3, n3, c3⟩ G W2 (Hg.out.below hB2) (by simp only []; omega) (by simp only []; omega) (by simp only []; omega)).mono ?_)
  rintro e W3 ⟨rfl, hb3⟩
  have hB3 := below_tail hB2 hb3
  have hbx3 := hbx2.below hb3
  clear y0 y1 y2 y3 hbx2
  have ⟨y5'', y0, y1, y2, y3⟩ := hbx3
  simp only [] at y0 y1 y2 y3
  rcases hrt : G.right with _ | _
  case false =>
    clear hrt
    go_wp2_with fail
    go_ret
    exact ⟨rfl, hB3⟩
  have hfit := Gr.fits hrt
  obtain ⟨st, hst⟩ : ∃ st : Nat, G.start = (st : Int) := ⟨G.start.toNat, by have := hfit.st; omega⟩
  have hstn : st < n2 := by have := hfit.st; rw [e2, hst] at this; omega
  have Hfit := Lib.hid hfit
  have hn1 : n1 ≤ 24 := by have := hfit.n1; rw [e1] at this; exact this
  have hHS : ∀ W', Below W3.heap.size W3 W' → W'.cell? ⟨w.heap.size, 0, none⟩ = some (.slice a1 n1 c1) ∧ W'.cell? ⟨w.heap.size, 1, none⟩ = some (.slice a2 n2 c2) ∧ W'.cell? ⟨w.heap.size, 2, none⟩ = some (.slice a3 n3 c3) ∧ W'.cell? ⟨w.heap.size, 3, none⟩ = some (.int .i64 G.start) ∧ Below W3.heap.size W3 W' := fun W' hb => by
    have ⟨t5, t0, t1, t2, t3⟩ := hbx3.below hb
    exact ⟨t0, t1, t2, t3, hb⟩
  have HS := Lib.hid hHS
  have C1 := Lib.hid fun X (hb : Below W3.heap.size W3 X) => (pf_First ⟨a1, n1, c1, a2, n2, c2, a3, n3, c3⟩ G X ((Hg.out.below hB3).below hb) Hs.out (by simp only []; omega) (by simp only []; omega) (by simp only []; omega)).mono fun e w' hh => And.intro (below_tail hb hh.1) (And.intro (Lib.hid hh.1) (hh.2.resolve_left fun hc => by rw [hrt] at hc; cases hc.1).2)
  have C3 := Lib.hid fun X (hb : Below W3.heap.size W3 X) => (pf_Follow ⟨a1, n1, c1, a2, n2, c2, a3, n3, c3⟩ G X ((Hg.out.below hB3).below hb) Hs.out (by simp only []; omega) (by simp only []; omega) (by simp only []; omega)).mono fun e w' hh => And.intro (below_tail hb hh.1) (And.intro (Lib.hid hh.1) (hh.2.resolve_left fun hc => by rw [hrt] at hc; cases hc.1).2)
  have Hrt := Lib.hid hrt
  have Hst := Lib.hid hst
  have HB3 := Lib.hid hB3
  have Hbx3 := Lib.hid hbx3
  clear hrt hst hfit hHS hbx3 hB3 hB2 hB1 hB0 hb1 hb2 hb3
  go_upto_region 5 with fail
  go_cut [3, 4] (fun v u wx => ∃ gF gW, v = .slice (some ⟨gF, 0, none⟩) n2 n2 ∧ u = .slice (some ⟨gW, 0, none⟩) n2 n2 ∧ W3.heap.size ≤ gF ∧ W3.heap.size ≤ gW ∧ Hid (Below W3.heap.size W3 wx) ∧ Hid (SetT wx gF (firstN G)) ∧ Hid (SetT wx gW (followN G)))
  case first =>
    go_region_held3 (fun W' => W'.cell? ⟨w.heap.size, 0, none⟩ = some (.slice a1 n1 c1) ∧ W'.cell? ⟨w.heap.size, 1, none⟩ = some (.slice a2 n2 c2) ∧ W'.cell? ⟨w.heap.size, 2, none⟩ = some (.slice a3 n3 c3) ∧ W'.cell? ⟨w.heap.size, 3, none⟩ = some (.int .i64 G.start) ∧ Below W3.heap.size W3 W')
      ((refine HS.out _ ?_; (repeat (first | assumption | exact Below.refl _ _ | refine Below.drew ?_ | refine below_alloc ?_ _)); done))
      (first
        | (go_at_call 14; refine (C1.out _ (by (repeat (first | assumption | exact Below.refl _ _ | refine Below.drew ?_ | refine below_alloc ?_ _)))).mono ?_; rintro e w5 ⟨hB5, Hb5, gF, hgF, rfl, hTF⟩)
        | (go_at_call 16; refine (C3.out _ (by (repeat (first | assumption | exact Below.refl _ _ | refine Below.drew ?_ | refine below_alloc ?_ _)))).mono ?_; rintro e w6 ⟨hB6, Hb6, gW, hgW, rfl, hTW⟩))
    all_goals
      go_wp2_with fail
      go_meet
      first
        | exact ⟨gF, gW, rfl, rfl, hgF, Nat.le_trans hB5.size hgW, Lib.hid hB6, Lib.hid (Blk.ext hTF Hb6.out), Lib.hid hTW⟩
        | exact ⟨gF, gW, rfl, rfl, Nat.le_trans hB6.size hgF, hgW, Lib.hid hB5, Lib.hid hTF, Lib.hid (Blk.ext hTW Hb5.out)⟩
  case rest =>
    obtain ⟨gF, gW, rfl, rfl, hgF, hgW, HBc, HTF, HTW⟩ := hcut
    have hbxc := Hbx3.out.below HBc.out
    have HBw := Lib.hid (below_tail HB3.out HBc.out)
    have Hbxc := Lib.hid hbxc
    clear y0 y1 y2 y3
    have ⟨y5, y0, y1, y2, y3⟩ := hbxc
    simp only [] at y0 y1 y2 y3
    rw [Hst.out] at y3
    have lF : (firstN G).length = n2 := by rw [firstN_len, e2]
    have lW : (followN G).length = n2 := by rw [followN_len, e2]
    have LF := Lib.hid lF
    have LW := Lib.hid lW
    have hws := HTW.out.at (i := st) (by omega)
    have hwb : ((followN G).getD st 0).testBit n1 = true := by
      have h1 := follow_start Hfit.out
      rw [Hst.out, e1] at h1
      exact h1
    have hwlt : (followN G).getD st 0 < 4294967296 := Small.get (iterW_small _ (firstN_small G) _ (startW_small G) _) st
    have hmk := make_sets n2 (by omega)
    have Hmk := Lib.hid hmk
    clear lF lW hbxc
    generalize hx : (followN G).getD st 0 = x at *
    have Hx := Lib.hid hx
    have Hwb := Lib.hid hwb
    clear hx hwb
    have hbit : bits .and .u32 ((x : Int) / 2 ^ n1) 1 = 1 := by
      have e : (x : Int) / 2 ^ n1 = ((x / 2 ^ n1 : Nat) : Int) := by simp
      have h2 : x / 2 ^ n1 % 2 = 1 := by
        have := Hwb.out
        rw [Nat.testBit_eq_decide_div_mod_eq] at this
        simpa using this
      have h3 := and32 (x / 2 ^ n1) 1 (Nat.lt_of_le_of_lt (Nat.div_le_self _ _) hwlt) (by decide)
      rw [show ((1 : Nat) : Int) = 1 from rfl] at h3
      rw [e, h3, Nat.and_one_is_mod, h2]
      rfl
    clear hwlt
    go_wp2_with fail
    go_quiet (fail)
    go_wp2_with fail
    have hB5 : Below wc.heap.size wc ((wc.drewN nq).alloc (.cells (nums .u32 (List.replicate n2 0)).toArray 33)) := (below_drewN (Below.refl _ _) nq).alloc (Nat.le_refl _) _
    have hS5 : SetT ((wc.drewN nq).alloc (.cells (nums .u32 (List.replicate n2 0)).toArray 33)) wc.heap.size (List.replicate n2 0) := SetT.new _ _
    generalize (wc.drewN nq).alloc (.cells (nums .u32 (List.replicate n2 0)).toArray 33) = W5 at *
    have HB5 := Lib.hid hB5
    have HS5 := Lib.hid hS5
    clear hB5 hS5 y0 y1 y2 y3 hws hbit hmk
    go_loopw [6] (fun v wr => ∃ k : Nat, v = .int .i64 (k : Int) ∧ k ≤ n3 ∧ Hid (Below wc.heap.size wc wr) ∧ Hid (SetT wr wc.heap.size (sumF (nullN G) (firstN G) (G.rules.take k) (List.replicate n2 0)))) (fun v _ => n3 - (intOf v).toNat)
    case atStart => exact ⟨0, rfl, Nat.zero_le _, HB5, HS5⟩
    case round =>
      obtain ⟨k, rfl, hk, HB, HSm⟩ := hrel
      have hbxr := Hbxc.out.below HB.out
      have HBr := Lib.hid (below_tail HBw.out HB.out)
      have hgr := Hg.out.below HBr.out
      have ⟨t5, t0, t1, t2, t3⟩ := hbxr
      simp only [] at t0 t1 t2 t3
      rw [Hst.out] at t3
      by_cases hkn : k < n3
      case neg =>
        obtain rfl : k = n3 := by omega
        have hsum : sumF (nullN G) (firstN G) (G.rules.take k) (List.replicate n2 0) = firstN G := by
          rw [List.take_of_length_le (by omega), ← e2]
          exact sum_first Hfit.out
        have hS := HSm.out
        rw [hsum] at hS
        have h1 := SetT.nums hS (by rw [LF.out]; omega)
        have h2 := SetT.nums (Blk.ext HTF.out HB.out : SetT wr gF (firstN G)) (by rw [LF.out]; omega)
        rw [LF.out] at h1 h2
        have cS := ref_sets _ n2 n2 (firstN G) _ n2 n2 (firstN G) wr h1 h2
        rw [beq_self_eq_true] at cS
        have CS := Lib.hid cS
        clear hsum hS h1 h2 cS
        go_wp2_with fail
        (with_reducible refine CS.out.mono ?_)
        rintro e w9 ⟨rfl, hsm⟩
        go_wp2_with fail
        go_ret
        exact ⟨rfl, below_tail HBr.out (hsm.below _)⟩
      case pos =>
        obtain ⟨b, off, r, Ar, cr, rfl, hb, Hr0, q0, q1, q2, hri⟩ := Hg.out.rules.get hkn
        rw [← HBr.out.cell (p := ⟨b, off + k * 3, none⟩) hb] at q0
        rw [← HBr.out.cell (p := ⟨b, off + k * 3 + 1, none⟩) hb] at q1
        rw [← HBr.out.cell (p := ⟨b, off + k * 3 + 2, none⟩) hb] at q2
        have hrm := List.mem_of_getElem? Hr0.out
        have hfl := Hfit.out.left r hrm
        have hfn := Hfit.out.len r hrm
        have hfs := Hfit.out.sym r hrm
        obtain ⟨jl, hjl⟩ : ∃ jl : Nat, r.left = (jl : Int) := ⟨r.left.toNat, by omega⟩
        have hjn : jl < n2 := by rw [hjl, e2] at hfl; omega
        have hcap := hri.cap
        have hwf := hgr.wf r hrm
        have hball : r.right.all G.has = true := by
          rw [List.all_eq_true]
          exact fun s hs => has_of (hfs s hs).1 (hfs s hs).2
        rw [hjl] at q0
        have Hrm := Lib.hid hrm
        have Hball := Lib.hid hball
        have Hwf := Lib.hid hwf
        have Hfs := Lib.hid hfs
        have Hjl := Lib.hid hjl
        have Hri := Lib.hid hri
        have hBo := alloc_below wr (.cells #[.int .i64 (jl : Int), .slice Ar r.right.length cr, .int .i64 r.prec] 41)
        have hbo := Blk.new wr 41 #[.int .i64 (jl : Int), .slice Ar r.right.length cr, .int .i64 r.prec]
        have HBo := Lib.hid hBo
        have Hbo := Lib.hid hbo
        clear hrm hball hwf hfs hjl hri hfl hbo hBo hgr
        go_wp2_with fail
        generalize hWo : wr.alloc (.cells #[.int .i64 (jl : Int), .slice Ar r.right.length cr, .int .i64 r.prec] 41) = wo at *
        have hsz : wr.heap.size < wo.heap.size := Hbo.out.lt
        have HSo : Hid (SetT wo wc.heap.size (sumF (nullN G) (firstN G) (G.rules.take k) (List.replicate n2 0))) := Lib.hid (Blk.ext HSm.out HBo.out)
        have HBwo := Lib.hid (below_tail HBr.out HBo.out)
        have hbxo := hbxr.below HBo.out
        clear t0 t1 t2 t3 q0 q1 q2 hWo
        have ⟨i5, i0, i1, i2, i3⟩ := hbxo
        simp only [] at i0 i1 i2 i3
        have g0 : wo.cell? ⟨wr.heap.size, 0, none⟩ = some (.int .i64 (jl : Int)) := Hbo.out.cell 0
        have g1 : wo.cell? ⟨wr.heap.size, 1, none⟩ = some (.slice Ar r.right.length cr) := Hbo.out.cell 1
        have hSl : (sumF (nullN G) (firstN G) (G.rules.take k) (List.replicate n2 0)).length = n2 := by rw [sumF_len]; simp
        have hSs : Small (sumF (nullN G) (firstN G) (G.rules.take k) (List.replicate n2 0)) := sumF_small _ (firstN_small G) _ (Small.zero _)
        have hs0 := HSo.out.at (i := jl) (by omega)
        have hsf := Blk.frozen HSo.out jl
        have hsl : wc.heap.size < wo.heap.size := Blk.lt HSo.out
        have hput := fun x : Ext wo => SetT.put (Blk.ext HSo.out (bl_below wo x) : SetT (bl wo x) wc.heap.size (sumF (nullN G) (firstN G) (G.rules.take k) (List.replicate n2 0))) jl ((sumF (nullN G) (firstN G) (G.rules.take k) (List.replicate n2 0)).getD jl 0 ||| beginP (nullN G) (firstN G) r.right 0)
        have cO := fun x : Ext wo => pf_Of ⟨a1, n1, c1, a2, n2, c2, some ⟨b, off, none⟩, n3, c3⟩ G Ar r.right.length cr r.right 0 (bl wo x) ((Hg.out.below HBwo.out).below (bl_below wo x)) Hs.out ((Hri.out.below HBwo.out).ext (Nat.le_refl _) (bl_below wo x)) Hwf.out (by decide) (by simp only []; omega) (by simp only []; omega) (by simp only []; omega)
        rw [ofN_has Hrt.out Hball.out, show ((0 : Nat) : Int) = 0 from rfl] at cO
        have hlt1 := hSs.get jl
        have hlt2 : beginP (nullN G) (firstN G) r.right 0 < 4294967296 := beginGo_lt _ (firstN_small G) (by decide) _ _ (by decide)
        have hor := or32 _ _ hlt1 hlt2
        have hstep : Hid (sumF (nullN G) (firstN G) (G.rules.take (k + 1)) (List.replicate n2 0) = (sumF (nullN G) (firstN G) (G.rules.take k) (List.replicate n2 0)).set jl ((sumF (nullN G) (firstN G) (G.rules.take k) (List.replicate n2 0)).getD jl 0 ||| beginP (nullN G) (firstN G) r.right 0)) := Lib.hid (by
          rw [List.take_add_one, Hr0.out]
          show sumF _ _ (_ ++ [r]) _ = _
          rw [sumF_snoc, Hjl.out]
          rfl)
        have CO := Lib.hid cO
        have Hput := Lib.hid hput
        clear cO hput hSs hSl hlt1 hlt2
        generalize (sumF (nullN G) (firstN G) (G.rules.take k) (List.replicate n2 0)).getD jl 0 ||| beginP (nullN G) (firstN G) r.right 0 = z at *
        generalize (sumF (nullN G) (firstN G) (G.rules.take k) (List.replicate n2 0)).getD jl 0 = so at *
        generalize hbg : beginP (nullN G) (firstN G) r.right 0 = beg at *
        have bc := bl_cell wo
        have bf := bl_frozen wo
        clear hbg
        refine wp_region_below_tail 14 (by kernel_rfl) (by kernel_rfl) ?_
        simp only [List.take_succ_cons, List.take_zero, List.drop_succ_cons, List.drop_zero]
        repeat (go_big_quiet_step ((go_at_call 18; with_reducible exact bl_of (CO.out _))))
        refine wpQuiet_nil ?_
        rintro _ ⟨x, rfl⟩
        have hfx := bf x _ jl hsl
        rw [hsf] at hfx
        go_wp2_with fail
        have hcw : wc.heap.size < wr.heap.size := Blk.lt HSm.out
        have hB7 : Below wc.heap.size wc ((bl wo x).setCell ⟨wc.heap.size, jl, none⟩ (.int .u32 (z : Int))) := (below_tail (below_tail HB.out HBo.out) (bl_below wo x)).trans (grown_is_below (grown_set _ _ _ _) (Nat.le_trans (Nat.le_of_lt hsl) (bl_size wo x)) (Nat.le_refl _))
        have hS7 : SetT ((bl wo x).setCell ⟨wc.heap.size, jl, none⟩ (.int .u32 (z : Int))) wc.heap.size (sumF (nullN G) (firstN G) (G.rules.take (k + 1)) (List.replicate n2 0)) := by rw [hstep.out]; exact Hput.out x
        have hb7 : Blk ((bl wo x).setCell ⟨wc.heap.size, jl, none⟩ (.int .u32 (z : Int))) wr.heap.size 41 #[.int .i64 (jl : Int), .slice Ar r.right.length cr, .int .i64 r.prec] := (Hbo.out.ext (bl_below wo x)).other wc.heap.size jl _ (by omega)
        generalize (bl wo x).setCell ⟨wc.heap.size, jl, none⟩ (.int .u32 (z : Int)) = W7 at *
        have HB7 := Lib.hid hB7
        have HS7 := Lib.hid hS7
        have Hb7 := Lib.hid hb7
        have hwc7 : wc.heap.size ≤ W7.heap.size := hB7.size
        have hwl := Small.get (iterW_small (nullN G) (firstN_small G) G.rules (startW_small G) G.nons.length) jl
        have hwl2 : (followN G).getD jl 0 < 4294967296 := hwl
        have Hwl := Lib.hid hwl2
        clear hB7 hS7 hb7 i0 i1 i2 i3 g0 g1 hs0 hsf hfx bc bf hor CO Hput hwl hwl2
        generalize wr.heap.size = gr at *
        have HfI := Lib.hid fun (pp : Nat) (s : Int) (hs : r.right[pp]? = some s) (h0 : s < 0) => follow_in Hfit.out Hrm.out hs h0
        rw [Hjl.out, Int.toNat_natCast] at HfI
        generalize hwv : (followN G).getD jl 0 = wv at *
        go_loopw [8] (fun v w2 => ∃ p : Nat, v = .int .i64 (p : Int) ∧ p ≤ r.right.length ∧ Hid (Below W7.heap.size W7 w2)) (fun v _ => r.right.length - (intOf v).toNat)
        case atStart => exact ⟨0, rfl, Nat.zero_le _, Lib.hid (Below.refl _ _)⟩
        case round =>
          obtain ⟨p, rfl, hp, HB2⟩ := hrel
          have hBc2 : Below wc.heap.size wc wr := HB7.out.trans (HB2.out.mono hwc7)
          have hBw2 := below_tail HBw.out hBc2
          have hb2 := Hb7.out.ext HB2.out
          have g0 : wr.cell? ⟨gr, 0, none⟩ = some (.int .i64 (jl : Int)) := hb2.cell 0
          have g1 : wr.cell? ⟨gr, 1, none⟩ = some (.slice Ar r.right.length cr) := hb2.cell 1
          have hbx2 := Hbxc.out.below hBc2
          have ⟨i5, i0, i1, i2, i3⟩ := hbx2
          simp only [] at i0 i1 i2 i3
          have hW2 : SetT wr gW (followN G) := Blk.ext HTW.out hBc2
          have hwl := hW2.at (i := jl) (by rw [LW.out]; exact hjn)
          rw [hwv] at hwl
          have HBc2 := Lib.hid hBc2
          have HBw2 := Lib.hid hBw2
          have HW2 := Lib.hid hW2
          have hgl : gr < wr.heap.size := hb2.lt
          clear hBc2 hBw2 hb2 hbx2 hW2
          by_cases hpl : p < r.right.length
          case neg =>
            go_wp2_with fail
            go_roundw
            case rel => exact ⟨k + 1, by go_num, by omega, HBc2, Lib.hid (Blk.ext HS7.out HB2.out)⟩
            case measure => simp [intOf]; omega
          case pos =>
            obtain ⟨sb, so', s, rfl, hsb, Hsv, qs⟩ := (Hri.out.below HBw2.out).get hpl
            obtain ⟨slo, shi⟩ := Hfs.out s (List.mem_of_getElem? Hsv.out)
            by_cases h0 : s < 0
            case neg =>
              have hge : 0 ≤ s := by omega
              go_wp2_with fail
              go_roundw
              case rel => exact ⟨p + 1, by go_num, by omega, HB2⟩
              case measure => simp [intOf]; omega
            case pos =>
              have hnge : ¬ 0 ≤ s := by omega
              rw [e2] at slo
              obtain ⟨js, hjs, hns, hwj⟩ := non_place h0 slo (by omega)
              have hfo := HfI.out p s Hsv.out h0
              rw [hns] at hfo
              have hY := Small.get (iterW_small (nullN G) (firstN_small G) G.rules (startW_small G) G.nons.length) js
              have hY2 : (followN G).getD js 0 < 4294967296 := hY
              have hdrop : (r.right.drop (p + 1)).all G.has = true := by
                have h1 := Hball.out
                rw [List.all_eq_true] at h1 ⊢
                exact fun y hy => h1 y (List.mem_of_mem_drop hy)
              rw [← ofN_has Hrt.out hdrop] at hfo
              have hXlt : G.ofN (r.right.drop (p + 1)) wv < 4294967296 := ofN_lt' Hwl.out
              have hand := andNot32 _ _ hXlt hY2 hfo
              have hjsc := HW2.out.at (i := js) (by rw [LW.out]; exact hjs)
              have cO := fun x : Ext wr => pf_Of ⟨a1, n1, c1, a2, n2, c2, some ⟨b, off, none⟩, n3, c3⟩ G (if cr = p + 1 then some ⟨sb, so', none⟩ else some ⟨sb, so' + (p + 1), none⟩) (r.right.length - (p + 1)) (cr - (p + 1)) (r.right.drop (p + 1)) wv (bl wr x) ((Hg.out.below HBw2.out).below (bl_below wr x)) Hs.out (((Hri.out.below HBw2.out).ext (Nat.le_refl _) (bl_below wr x)).tail (p + 1) (by omega)) (fun y hy => Hwf.out y (List.mem_of_mem_drop hy)) Hwl.out (by simp only []; omega) (by simp only []; omega) (by simp only []; omega)
              generalize hXX : G.ofN (r.right.drop (p + 1)) wv = X at *
              generalize hYY : (followN G).getD js 0 = Y at *
              have CO := Lib.hid cO
              have hgwl : gW < wr.heap.size := Blk.lt HW2.out
              clear cO hXX hYY hdrop hfo hY hY2 hXlt
              have hm1 : IntKind.i64.wrap ((p : Int) + 1) = (p : Int) + 1 := IntWalk.i64_in _ (by omega)
              have hm2 : (0 : Int) ≤ (p : Int) + 1 := by omega
              have hm3 : ((p : Int) + 1).toNat = p + 1 := by omega
              have hm4 : (p : Int) + 1 ≤ (r.right.length : Int) := by omega
              have hm5 : (p : Int) + 1 ≤ (cr : Int) := by omega
              have bc := bl_cell wr
              go_wp2_with fail
              refine wp_region_below (by kernel_rfl) (by kernel_rfl) ?_
              repeat (go_big_quiet_step ((go_at_call 18; with_reducible exact bl_of (CO.out _))))
              refine wpQuiet_nil ?_
              rintro _ ⟨x, rfl⟩
              have hc1 := bc x gr 1 hgl
              have hc2 := bc x sb (so' + p) hsb
              have hc3 := bc x gW js hgwl
              rw [g1] at hc1
              rw [qs] at hc2
              rw [hjsc] at hc3
              go_wp2_with fail
              go_roundw
              case rel => exact ⟨p + 1, by go_num, by omega, Lib.hid (below_tail HB2.out (bl_below wr x))⟩
              case measure => simp [intOf]; omega
end Go.Proofs.YtfdbpafenhdkbaaGreat
