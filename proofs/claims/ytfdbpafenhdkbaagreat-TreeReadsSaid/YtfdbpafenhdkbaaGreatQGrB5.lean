/- first: the program's First and Of, the reference's Of, walked. -/
import Derived.Test.YtfdbpafenhdkbaaGreatQGrB4
namespace Go.Proofs.YtfdbpafenhdkbaaGreat
open Go.RowKit
set_option linter.unusedVariables false
set_option linter.unusedSimpArgs false

theorem book_first (A B : Option Addr) (n c m d : Nat) (w : World) : (Instr.field 56 (.agg #[.slice A n c, .slice B m d]) 1).run Tryz.prog w = .ok (.slice B m d) w := by kernel_rfl
set_option maxRecDepth 20000 in
set_option maxHeartbeats 1000000 in
theorem pf_First (h : GH) (G : Gr) (w : World) (hg : GrAt w h G) (hs : ∀ t ∈ G.terms, t.name.size ≤ maxLen) (h1 : h.n1 ≤ 100) (h2 : h.n2 ≤ 100) (h3 : h.n3 ≤ 100) :
    Calls Tryz.prog 14 #[GV h G.start] w fun e w' => Below w.heap.size w w' ∧
      ((G.right = false ∧ e = .returned (.slice none 0 0)) ∨ (G.right = true ∧ ∃ g, w.heap.size ≤ g ∧ e = .returned (.slice (some ⟨g, 0, none⟩) h.n2 h.n2) ∧ SetT w' g (firstN G))) := by
  obtain ⟨a1, n1, c1, a2, n2, c2, a3, n3, c3⟩ := h
  simp only [] at h1 h2 h3
  have hB0 := alloc_below w (.cells #[.slice a1 n1 c1, .slice a2 n2 c2, .slice a3 n3 c3, .int .i64 G.start] 26)
  have hbox := GBox.new w 26 ⟨a1, n1, c1, a2, n2, c2, a3, n3, c3⟩ G.start
  go_enter Tryz.func14, Tryz.ntmps14
  have ⟨z5, z0, z1, z2, z3⟩ := hbox
  simp only [] at z0 z1 z2 z3
  go_wp2_with fail
  generalize w.alloc (.cells #[.slice a1 n1 c1, .slice a2 n2 c2, .slice a3 n3 c3, .int .i64 G.start] 26) = W0 at *
  (with_reducible refine (cf_Right ⟨a1, n1, c1, a2, n2, c2, a3, n3, c3⟩ G W0 (hg.below hB0) hs (by simp only []; omega) (by simp only []; omega)).mono ?_)
  rintro e W1 ⟨rfl, hb1⟩
  have hB1 := below_tail hB0 hb1
  have ⟨y5, y0, y1, y2, y3⟩ := hbox.below hb1
  simp only [] at y0 y1 y2 y3
  clear z0 z1 z2 z3
  rcases hrt : G.right with _ | _
  · go_wp2_with fail
    go_ret
    exact ⟨hB1, .inl ⟨hrt, rfl⟩⟩
  · have CR := Lib.hid (pf_read ⟨a1, n1, c1, a2, n2, c2, a3, n3, c3⟩ G W1 (hg.below hB1) hs hrt (by simp only []; omega) (by simp only []; omega) (by simp only []; omega))
    have Hrt := Lib.hid hrt
    clear hrt
    go_wp2_with fail
    (with_reducible refine CR.out.mono ?_)
    rintro e W2 ⟨hb2, gN, gF, hgN, hgF, rfl, hTN, hTF⟩
    have hfd := book_first
    go_wp2_with fail
    go_ret
    exact ⟨below_tail hB1 hb2, .inr ⟨Hrt.out, gF, Nat.le_trans hB1.size hgF, rfl, hTF⟩⟩

/-! ### Of -/
/-- what symbols and a rest begin with, of any grammar -/
def Gr.ofN (G : Gr) (ss : List Int) (rest : Nat) : Nat := if G.right && ss.all G.has then beginP (nullN G) (firstN G) ss rest else 0
theorem Gr.has_lo (G : Gr) {s : Int} (h : G.has s = true) : -(G.nons.length : Int) ≤ s := by
  unfold Gr.has at h
  split at h
  · omega
  · simp at h; omega
theorem firstN_len (G : Gr) : (firstN G).length = G.nons.length := by unfold firstN; rw [iterF_len]; simp
theorem firstN_small (G : Gr) : Small (firstN G) := iterF_small _ _ (Small.zero _) _

set_option maxHeartbeats 2000000 in
theorem rf_Of (h : GH) (G : Gr) (Ar : Option Addr) (nr cr : Nat) (ss : List Int) (rest : Nat) (w : World) (hg : GrAt w h G) (hr : Ints .i64 w Ar nr cr ss) (hw : ∀ s ∈ ss, InI64 s) (hrest : rest < 4294967296) (h1 : h.n1 ≤ 100) (h2 : h.n2 ≤ 100) (h3 : h.n3 ≤ 100) :
    Calls Tryz.prog 19 #[GV h G.start, .slice Ar nr cr, .int .u32 (rest : Int)] w fun e w' => e = .returned (.int .u32 ((G.ofN ss rest : Nat) : Int)) ∧ Below w.heap.size w w' := by
  obtain rfl := hr.len
  have hcap := hr.cap
  obtain ⟨a1, n1, c1, a2, n2, c2, a3, n3, c3⟩ := h
  simp only [] at h1 h2 h3
  have e2 : G.nons.length = n2 := hg.nons.len
  have Hg := Lib.hid hg
  have Hw := Lib.hid hw
  have Hr := Lib.hid hr
  clear hw
  have hB0 := alloc_below w (.cells #[.slice a1 n1 c1, .slice a2 n2 c2, .slice a3 n3 c3, .int .i64 G.start] 26)
  have hbox := GBox.new w 26 ⟨a1, n1, c1, a2, n2, c2, a3, n3, c3⟩ G.start
  go_enter Tryz.func19, Tryz.ntmps19
  have ⟨z5, z0, z1, z2, z3⟩ := hbox
  simp only [] at z0 z1 z2 z3
  go_wp2_with fail
  generalize w.alloc (.cells #[.slice a1 n1 c1, .slice a2 n2 c2, .slice a3 n3 c3, .int .i64 G.start] 26) = W0 at *
  (with_reducible refine (rf_right9 ⟨a1, n1, c1, a2, n2, c2, a3, n3, c3⟩ G W0 (hg.below hB0) (by simp only []; omega) (by simp only []; omega) (by simp only []; omega)).mono ?_)
  rintro e W1 ⟨rfl, hb1⟩
  have hB1 := below_tail hB0 hb1
  have hbx1 := hbox.below hb1
  clear z0 z1 z2 z3 hg
  rcases hrt : G.right with _ | _
  · have Hfin : Hid (G.ofN ss rest = 0) := Lib.hid (by unfold Gr.ofN; rw [hrt]; rfl)
    go_wp2_with fail
    go_ret
    exact ⟨by rw [Hfin.out]; rfl, hB1⟩
  · have Hrt := Lib.hid hrt
    have Hf : Hid (G.ofN ss rest = if ss.all G.has then beginP (nullN G) (firstN G) ss rest else 0) := Lib.hid (by unfold Gr.ofN; rw [hrt]; rfl)
    clear hrt
    go_wp2_with fail
    go_loopw [7] (fun i wr => ∃ (k : Nat), k ≤ ss.length ∧ i = .int .i64 (k : Int) ∧ Below w.heap.size w wr ∧ GBox wr w.heap.size ⟨a1, n1, c1, a2, n2, c2, a3, n3, c3⟩ G.start ∧ Hid (∀ j, j < k → ∀ y, ss[j]? = some y → (!G.has y) = false)) (fun i _ => ss.length - (intOf i).toNat)
    case atStart => exact ⟨0, Nat.zero_le _, rfl, hB1, hbx1, Lib.hid fun j hj => by omega⟩
    case round =>
      clear hB1 hbx1
      obtain ⟨wo, rfl⟩ : ∃ wo : World, wo = wr := ⟨_, rfl⟩
      obtain ⟨k, hk, rfl, hB, hbx, Hk⟩ := hrel
      have ⟨y5, y0, y1, y2, y3⟩ := hbx
      simp only [] at y0 y1 y2 y3
      by_cases hkk : k < ss.length
      · obtain ⟨bb, off, s, rfl, hb, Hsv, q0⟩ := hr.get hkk
        rw [← hB.cell (by exact hb)] at q0
        have cH := fun x : Ext wo => rf_has ⟨a1, n1, c1, a2, n2, c2, a3, n3, c3⟩ G s (bl wo x) ((Hg.out.below hB).below (bl_below wo x)) (Hw.out s (List.mem_of_getElem? Hsv.out)) (by simp only []; omega) (by simp only []; omega)
        have hbw : bb < wo.heap.size := Nat.lt_of_lt_of_le hb hB.size
        have bc := bl_cell wo
        have CH := Lib.hid cH
        have HB := Lib.hid hB
        have Hbx := Lib.hid hbx
        clear cH hB hbx
        rcases hq : G.has s with _ | _
        · have Hfin : Hid (G.ofN ss rest = 0) := Lib.hid (by rw [Hf.out, all_false Hsv.out hq]; rfl)
          rw [hq] at CH
          clear hq
          go_wp2_with fail
          refine wp_region_below (by kernel_rfl) (by kernel_rfl) ?_
          repeat (go_big_quiet_step ((go_at_call 22; with_reducible exact bl_of (CH.out _))))
          refine wpQuiet_nil ?_
          rintro _ ⟨x, rfl⟩
          go_wp2_with fail
          go_ret
          exact ⟨by rw [Hfin.out]; rfl, HB.out.trans ((bl_below wo x).mono HB.out.size)⟩
        · have Hq := Lib.hid hq
          rw [hq] at CH
          clear hq
          go_wp2_with fail
          refine wp_region_below (by kernel_rfl) (by kernel_rfl) ?_
          repeat (go_big_quiet_step ((go_at_call 22; with_reducible exact bl_of (CH.out _))))
          refine wpQuiet_nil ?_
          rintro _ ⟨x, rfl⟩
          go_wp2_with fail
          go_roundw
          case rel => exact ⟨k + 1, by omega, by go_num, HB.out.trans ((bl_below wo x).mono HB.out.size), Hbx.out.below (bl_below wo x), Lib.hid (next_none Hk.out Hsv.out (by rw [Hq.out]; rfl))⟩
          case measure => simp [intOf]; omega
      · obtain rfl : k = ss.length := by omega
        have hall : ss.all G.has = true := all_true fun j y hy => by
          have := Hk.out j (List.getElem?_eq_some_iff.1 hy).1 y hy
          simpa using this
        have Hall := Lib.hid hall
        have Hfin : Hid (G.ofN ss rest = beginP (nullN G) (firstN G) ss rest) := Lib.hid (by rw [Hf.out, hall]; rfl)
        clear hall
        have HS : Hid (∀ W', Below wo.heap.size wo W' → W'.cell? ⟨w.heap.size, 0, none⟩ = some (.slice a1 n1 c1) ∧ W'.cell? ⟨w.heap.size, 1, none⟩ = some (.slice a2 n2 c2) ∧ W'.cell? ⟨w.heap.size, 2, none⟩ = some (.slice a3 n3 c3) ∧ W'.cell? ⟨w.heap.size, 3, none⟩ = some (.int .i64 G.start) ∧ Below wo.heap.size wo W') := Lib.hid fun W' hb => ⟨by rw [hb.cell (by exact y5)]; exact y0, by rw [hb.cell (by exact y5)]; exact y1, by rw [hb.cell (by exact y5)]; exact y2, by rw [hb.cell (by exact y5)]; exact y3, hb⟩
        have CN := Lib.hid fun X (hb : Below wo.heap.size wo X) => (rf_Nullable ⟨a1, n1, c1, a2, n2, c2, a3, n3, c3⟩ G X ((Hg.out.below hB).below hb) (by simp only []; omega) (by simp only []; omega) (by simp only []; omega)).mono fun e w' hh => And.intro (below_tail hb hh.1) (And.intro (Lib.hid hh.1) (hh.2.resolve_left fun hc => by rw [Hrt.out] at hc; cases hc.1).2)
        have CF := Lib.hid fun X (hb : Below wo.heap.size wo X) => (rf_First ⟨a1, n1, c1, a2, n2, c2, a3, n3, c3⟩ G X ((Hg.out.below hB).below hb) (by simp only []; omega) (by simp only []; omega) (by simp only []; omega)).mono fun e w' hh => And.intro (below_tail hb hh.1) (And.intro (Lib.hid hh.1) (hh.2.resolve_left fun hc => by rw [Hrt.out] at hc; cases hc.1).2)
        have hlo : ∀ s ∈ ss, -(n2 : Int) ≤ s := fun s hs => by
          have := G.has_lo ((List.all_eq_true.1 Hall.out) s hs)
          rwa [e2] at this
        have CO := Lib.hid fun X gN gF (hb : Below wo.heap.size wo X) (hN : BoolT X gN (nullN G)) (hF : SetT X gF (firstN G)) => rf_of Ar ss.length cr gN gF n2 ss (nullN G) (firstN G) rest X ((hr.below hB).below hb) hN hF (by rw [nullN_len, e2]) (by rw [firstN_len, e2]) (by omega) hlo (firstN_small G) hrest
        have HBw := Lib.hid hB
        clear hbx hlo Hr
        go_wp2_with fail
        go_region_held3 (fun W' => W'.cell? ⟨w.heap.size, 0, none⟩ = some (.slice a1 n1 c1) ∧ W'.cell? ⟨w.heap.size, 1, none⟩ = some (.slice a2 n2 c2) ∧ W'.cell? ⟨w.heap.size, 2, none⟩ = some (.slice a3 n3 c3) ∧ W'.cell? ⟨w.heap.size, 3, none⟩ = some (.int .i64 G.start) ∧ Below wo.heap.size wo W')
          ((refine HS.out _ ?_; (repeat (first | assumption | exact Below.refl _ _ | refine Below.drew ?_ | refine below_alloc ?_ _ | refine below_set ?_ _ _ _ (by (first | exact Nat.le_refl _ | exact Nat.le_succ _ | exact Below.size (by assumption) | exact Nat.le_succ_of_le (Below.size (by assumption)) | (simp; done) | omega)))); done))
          (first
            | (go_at_call 21; refine (CN.out _ (by (repeat (first | assumption | exact Below.refl _ _ | refine Below.drew ?_ | refine below_alloc ?_ _ | refine below_set ?_ _ _ _ (by (first | exact Nat.le_refl _ | exact Nat.le_succ _ | exact Below.size (by assumption) | exact Nat.le_succ_of_le (Below.size (by assumption)) | (simp; done) | omega)))))).mono ?_; rintro e w2 ⟨hB2, Hb2, gN, hgN, rfl, HTN⟩)
            | (go_at_call 15; refine (CF.out _ (by (repeat (first | assumption | exact Below.refl _ _ | refine Below.drew ?_ | refine below_alloc ?_ _ | refine below_set ?_ _ _ _ (by (first | exact Nat.le_refl _ | exact Nat.le_succ _ | exact Below.size (by assumption) | exact Nat.le_succ_of_le (Below.size (by assumption)) | (simp; done) | omega)))))).mono ?_; rintro e w3 ⟨hB3, Hb3, gF, hgF, rfl, HTF⟩)
            | (go_at_call 41; refine (CO.out _ gN gF (by (repeat (first | assumption | exact Below.refl _ _ | refine Below.drew ?_ | refine below_alloc ?_ _ | refine below_set ?_ _ _ _ (by (first | exact Nat.le_refl _ | exact Nat.le_succ _ | exact Below.size (by assumption) | exact Nat.le_succ_of_le (Below.size (by assumption)) | (simp; done) | omega))))) (by (first | exact HTN | exact Blk.drew HTN | exact Blk.hidden HTN Hb3 | exact Blk.hidden (Blk.drew HTN) Hb3 | exact Blk.drew (Blk.hidden HTN Hb3) | exact Blk.drew (Blk.hidden (Blk.drew HTN) Hb3))) (by (first | exact HTF | exact Blk.drew HTF | exact Blk.hidden HTF Hb2 | exact Blk.hidden (Blk.drew HTF) Hb2 | exact Blk.drew (Blk.hidden HTF Hb2) | exact Blk.drew (Blk.hidden (Blk.drew HTF) Hb2)))).mono ?_; rintro e w5 ⟨rfl, rfl⟩))
        all_goals
          go_wp2_with fail
          go_ret
          exact ⟨by rw [Hfin.out]; rfl, HBw.out.trans ((by (repeat (first | assumption | exact Below.refl _ _ | refine Below.drew ?_ | refine below_alloc ?_ _ | refine below_set ?_ _ _ _ (by (first | exact Nat.le_refl _ | exact Nat.le_succ _ | exact Below.size (by assumption) | exact Nat.le_succ_of_le (Below.size (by assumption)) | (simp; done) | omega)))) : Below wo.heap.size wo _).mono HBw.out.size)⟩
end Go.Proofs.YtfdbpafenhdkbaaGreat

namespace Go.Proofs.YtfdbpafenhdkbaaGreat
open Go.RowKit
set_option linter.unusedVariables false
set_option linter.unusedSimpArgs false

theorem enters_of1 : ∀ args w, (callFunc 47 args).run Tryz.prog w = .ok (.enter 47 args) w := fun args w => by kernel_rfl

theorem pf_of1 (h : GH) (G : Gr) (gb : Nat) (s : Int) (w : World) (hg : GrAt w h G) (hs : InI64 s) (h1 : h.n1 ≤ 1000) (h2 : h.n2 ≤ 1000) (hx : GBox w gb h G.start) :
    Calls Tryz.prog 47 #[.int .i64 s, .pointer (some ⟨gb, 0, none⟩)] w fun e w' => e = .returned (.bool (!G.has s)) ∧ Below w.heap.size w w' := by
  have cH := cf_has h G s w hg hs h1 h2
  generalize G.has s = b at *
  obtain ⟨a1, n1, c1, a2, n2, c2, a3, n3, c3⟩ := h
  have ⟨z5, z0, z1, z2, z3⟩ := hx
  simp only [] at z0 z1 z2 z3
  have CH := Lib.hid cH
  clear cH
  go_enter Tryz.func47, Tryz.ntmps47
  go_wp2_with fail
  (with_reducible refine CH.out.mono ?_)
  rintro e w2 ⟨rfl, hb⟩
  go_wp2_with fail
  go_ret
  exact ⟨rfl, hb⟩

set_option maxHeartbeats 1000000 in
theorem pf_Of (h : GH) (G : Gr) (Ar : Option Addr) (nr cr : Nat) (ss : List Int) (rest : Nat) (w : World) (hg : GrAt w h G) (hs : ∀ t ∈ G.terms, t.name.size ≤ maxLen) (hr : Ints .i64 w Ar nr cr ss) (hw : ∀ s ∈ ss, InI64 s) (hrest : rest < 4294967296) (h1 : h.n1 ≤ 100) (h2 : h.n2 ≤ 100) (h3 : h.n3 ≤ 100) :
    Calls Tryz.prog 18 #[GV h G.start, .slice Ar nr cr, .int .u32 (rest : Int)] w fun e w' => e = .returned (.int .u32 ((G.ofN ss rest : Nat) : Int)) ∧ Below w.heap.size w w' := by
  obtain rfl := hr.len
  have hcap := hr.cap
  obtain ⟨a1, n1, c1, a2, n2, c2, a3, n3, c3⟩ := h
  simp only [] at h1 h2 h3
  have e2 : G.nons.length = n2 := hg.nons.len
  have Hg := Lib.hid hg
  have Hw := Lib.hid hw
  have Hr := Lib.hid hr
  clear hw
  have hB0 := alloc_below w (.cells #[.slice a1 n1 c1, .slice a2 n2 c2, .slice a3 n3 c3, .int .i64 G.start] 26)
  have hbox := GBox.new w 26 ⟨a1, n1, c1, a2, n2, c2, a3, n3, c3⟩ G.start
  go_enter Tryz.func18, Tryz.ntmps18
  have ⟨z5, z0, z1, z2, z3⟩ := hbox
  simp only [] at z0 z1 z2 z3
  go_wp2_with fail
  generalize w.alloc (.cells #[.slice a1 n1 c1, .slice a2 n2 c2, .slice a3 n3 c3, .int .i64 G.start] 26) = W0 at *
  (with_reducible refine (cf_Right ⟨a1, n1, c1, a2, n2, c2, a3, n3, c3⟩ G W0 (hg.below hB0) hs (by simp only []; omega) (by simp only []; omega)).mono ?_)
  rintro e W1 ⟨rfl, hb1⟩
  have hB1 := below_tail hB0 hb1
  have hbx1 := hbox.below hb1
  have ⟨y5, y0, y1, y2, y3⟩ := hbx1
  simp only [] at y0 y1 y2 y3
  clear z0 z1 z2 z3 hg
  rcases hrt : G.right with _ | _
  · have Hfin : Hid (G.ofN ss rest = 0) := Lib.hid (by unfold Gr.ofN; rw [hrt]; rfl)
    go_wp2_with fail
    go_ret
    exact ⟨by rw [Hfin.out]; rfl, hB1⟩
  · have Hrt := Lib.hid hrt
    have Hf : Hid (G.ofN ss rest = if ss.all G.has then beginP (nullN G) (firstN G) ss rest else 0) := Lib.hid (by unfold Gr.ofN; rw [hrt]; rfl)
    clear hrt
    have hT : Tells 47 #[.pointer (some ⟨w.heap.size, 0, none⟩)] (Value.int .i64) W1 ss (fun s => !G.has s) := fun s hs' w' hb' =>
      pf_of1 ⟨a1, n1, c1, a2, n2, c2, a3, n3, c3⟩ G w.heap.size s w' ((Hg.out.below hB1).below hb') (Hw.out s hs') (by simp only []; omega) (by simp only []; omega) (hbx1.below hb')
    have hq : (ss.any fun s => !G.has s) = !ss.all G.has := by rw [List.all_eq_not_any_not]; simp
    have hc := (sl_contains_ints Ar ss.length cr ss 47 _ (fun s => !G.has s) W1 enters_of1 (hr.below hB1) hT).mono fun e w' hh => And.intro hh.1 (And.intro (bcell hh.2).1 (Lib.hid hh.2))
    rw [hq] at hc
    have CC := Lib.hid hc
    clear hc hT hq Hr
    rcases hall : ss.all G.has with _ | _
    · have Hfin : Hid (G.ofN ss rest = 0) := Lib.hid (by rw [Hf.out, hall]; rfl)
      rw [hall] at CC
      clear hall
      go_wp2_with (go_at_call 46; (with_reducible refine CC.out.mono ?_); rintro e w2 ⟨rfl, hc2, Hb2⟩)
      go_ret
      exact ⟨by rw [Hfin.out]; rfl, below_tail hB1 Hb2.out⟩
    · have Hfin : Hid (G.ofN ss rest = beginP (nullN G) (firstN G) ss rest) := Lib.hid (by rw [Hf.out, hall]; rfl)
      have hlo : ∀ s ∈ ss, -(n2 : Int) ≤ s := fun s hs => by
        have := G.has_lo ((List.all_eq_true.1 hall) s hs)
        rwa [e2] at this
      rw [hall] at CC
      have CR := Lib.hid fun X (hb : Below W1.heap.size W1 X) => pf_read ⟨a1, n1, c1, a2, n2, c2, a3, n3, c3⟩ G X ((Hg.out.below hB1).below hb) hs Hrt.out (by simp only []; omega) (by simp only []; omega) (by simp only []; omega)
      have CO := Lib.hid fun X gN gF (hb : Below W1.heap.size W1 X) (hN : BoolT X gN (nullN G)) (hF : SetT X gF (firstN G)) => pf_of Ar ss.length cr gN gF n2 ss (nullN G) (firstN G) rest X ((hr.below hB1).below hb) hN hF (by rw [nullN_len, e2]) (by rw [firstN_len, e2]) (by omega) hlo (firstN_small G) hrest
      have HB1 := Lib.hid hB1
      clear hall hlo
      go_wp2_with (first
        | (go_at_call 46; (with_reducible refine CC.out.mono ?_); rintro e w2 ⟨rfl, hc2, Hb2⟩; have x0 := (hc2 _ 0 y5).trans y0; have x1 := (hc2 _ 1 y5).trans y1; have x2 := (hc2 _ 2 y5).trans y2; have x3 := (hc2 _ 3 y5).trans y3)
        | (go_at_call 40; (with_reducible refine (CR.out _ Hb2.out).mono ?_); rintro e w3 ⟨hb3, gN, gF, hgN, hgF, rfl, hTN, hTF⟩)
        | (go_at_call 44; (with_reducible refine (CO.out _ gN gF (below_tail Hb2.out hb3) hTN hTF).mono ?_); rintro e w4 ⟨rfl, hb4⟩))
      go_ret
      exact ⟨by rw [Hfin.out]; rfl, below_tail HB1.out (below_tail (below_tail Hb2.out hb3) hb4)⟩
end Go.Proofs.YtfdbpafenhdkbaaGreat
