/- reachable: the program's, walked. -/
import Derived.Test.YtfdbpafenhdkbaaGreatDoorQCyP
import Derived.Test.YtfdbpafenhdkbaaGreatDoorQStp
namespace Go.Proofs.YtfdbpafenhdkbaaGreatDoor
open Go.RowKit
set_option linter.unusedVariables false
set_option linter.unusedSimpArgs false

theorem enters_reach1 : ∀ args w, (callFunc 88 args).run Tryz.prog w = .ok (.enter 88 args) w := fun args w => by kernel_rfl
theorem Tryz.infoI64C : (Tryz.prog.info? 3).map (fun i => (i.zero, i.size, i.bytes)) = some (some (.int .i64 0), 1, 8) := by kernel_rfl
set_option maxRecDepth 20000 in
set_option maxHeartbeats 2000000 in
theorem tr_reach1 (r : Rul) (Ar : Option Addr) (cr g gp bp n : Nat) (N P : List Bool) (w : World) (hr : Ints .i64 w Ar r.right.length cr r.right) (hN : BoolT w g N) (hP : BoolT w gp P) (hp : w.cell? ⟨bp, 0, none⟩ = some (.slice (some ⟨gp, 0, none⟩) n n)) (hn : N.length = n) (hpn : P.length = n) (hn2 : n ≤ 1000)
    (hl : 0 ≤ r.left ∧ r.left < (n : Int)) (hs : ∀ s ∈ r.right, -(n : Int) ≤ s ∧ s ≤ 1000) (hlen : r.right.length ≤ 1000) :
    Calls Tryz.prog 88 #[.agg #[.int .i64 r.left, .slice Ar r.right.length cr, .int .i64 r.prec], .slice (some ⟨g, 0, none⟩) n n, .pointer (some ⟨bp, 0, none⟩)] w fun e w' => Below w.heap.size w w' ∧ ∃ A m c, e = .returned (.slice A m c) ∧ Ints .i64 w' A m c (reachI P r N) ∧ Apart A g := by
  have hgl : g < w.heap.size := hN.lt
  have hbl : bp < w.heap.size := World.block_lt_of_cell? w ⟨bp, 0, none⟩ hp
  have hB0 := alloc_below w (.cells #[.int .i64 r.left, .slice Ar r.right.length cr, .int .i64 r.prec] 51)
  have hbox := RBox.new w 51 r.left Ar r.right.length cr r.prec
  have hsp := all_off P r.right
  obtain ⟨jl, hjl⟩ : ∃ jl : Nat, r.left = (jl : Int) := ⟨r.left.toNat, by omega⟩
  have hjl2 : jl < n := by omega
  have hat : (w.alloc (.cells #[.int .i64 r.left, .slice Ar r.right.length cr, .int .i64 r.prec] 51)).cell? ⟨g, jl, none⟩ = some (.bool (N.getD jl false)) := BoolT.at (Blk.ext hN hB0) (by rw [hn]; exact hjl2)
  have hp0 : (w.alloc (.cells #[.int .i64 r.left, .slice Ar r.right.length cr, .int .i64 r.prec] 51)).cell? ⟨bp, 0, none⟩ = some (.slice (some ⟨gp, 0, none⟩) n n) := (hB0.cell (p := ⟨bp, 0, none⟩) hbl).trans hp
  have cW := fun w' (hb : Below w.heap.size w w') => tr_within r.left Ar cr gp n r.right r.prec P w' (hr.below hb) (Blk.ext hP hb) hpn hn2 hs
  have hri : reachI P r N = if N.getD jl false && allP true P r.right then nonsI r.right else [] := by unfold reachI goesP; rw [show r.left.toNat = jl by omega]
  rw [hsp] at cW
  have Hri := Lib.hid hri
  have Hr := Lib.hid hr
  have CW := Lib.hid cW
  have Hs := Lib.hid hs
  rw [hjl] at hat hp0 hB0 hbox CW
  clear hri cW hsp hr hs hN hP hp hl
  rw [hjl]
  go_enter Tryz.func88, Tryz.ntmps88
  have ⟨z5, z0, z1, z2⟩ := hbox
  go_upto_region 1 with fail
  generalize w.alloc (.cells #[.int .i64 (jl : Int), .slice Ar r.right.length cr, .int .i64 r.prec] 51) = W0 at *
  have HB0 := Lib.hid hB0
  have cW := (CW.out W0 hB0).mono fun e w' hh => And.intro hh.1 (And.intro (bcell hh.2).1 (Lib.hid (below_tail HB0.out hh.2)))
  have CW0 := Lib.hid cW
  have hcapr := Hr.out.cap
  clear cW CW hB0 hbox
  generalize N.getD jl false = tl at *
  generalize allP true P r.right = ta at *
  rcases (by cases tl <;> cases ta <;> simp : tl = false ∨ (tl = true ∧ ta = false) ∨ (tl = true ∧ ta = true)) with rfl | ⟨rfl, rfl⟩ | ⟨rfl, rfl⟩
  · go_wp2_with fail
    go_ret
    exact ⟨HB0.out, none, 0, 0, rfl, by rw [Hri.out]; exact Ints.nil _ _ _ _ (by omega), fun b o h => by cases h⟩
  · go_wp2_with (go_at_call 62; (with_reducible refine CW0.out.mono ?_); rintro e w2 ⟨rfl, hc2, Hb2⟩)
    go_ret
    exact ⟨Hb2.out, none, 0, 0, rfl, by rw [Hri.out]; exact Ints.nil _ _ _ _ (by omega), fun b o h => by cases h⟩
  · go_wp2_with (go_at_call 62; (with_reducible refine CW0.out.mono ?_); rintro e w2 ⟨rfl, hc2, Hb2⟩; have x1 := (hc2 _ 1 z5).trans z1)
    have HiA := Lib.hid Tryz.infoI64C
    clear hc2 x1 z0 z1 z2 z5 hat hp0
    go_loopw [5, 23] (fun v i wr => ∃ (k m c : Nat) (A : Option Addr), v = .slice A m c ∧ i = .int .i64 (k : Int) ∧ k ≤ r.right.length ∧ m ≤ k ∧ Hid (m = (nonsI (r.right.take k)).length) ∧ Hid (wr.ownsRow w.heap.size 3 1 (.slice A m c) m (ints .i64 (nonsI (r.right.take k)))) ∧ Hid (Below w.heap.size w wr)) (fun _ i _ => r.right.length - (intOf i).toNat)
    case atStart => exact ⟨0, 0, 0, none, rfl, rfl, Nat.zero_le _, Nat.le_refl _, Lib.hid rfl, Lib.hid (World.ownsRow_nil _ _ _ _), Hb2⟩
    case round =>
      obtain ⟨k, m, c, A, rfl, rfl, hk, hm, Hm, Ho, HB⟩ := hrel
      have hbase : w.heap.size ≤ wr.heap.size := HB.out.size
      by_cases hkl : k < r.right.length
      · obtain ⟨sb, so, s, rfl, hsb, Hss, qs⟩ := (Hr.out.below HB.out).get hkl
        have hs1 := Hs.out s (List.mem_of_getElem? Hss.out)
        have hnt := nonsI_take Hss.out
        by_cases h0 : s < 0
        · have hws : IntKind.i64.wrap (-1 - s) = -1 - s := IntWalk.i64_in _ (by omega)
          rw [if_pos h0] at hnt
          have Hnt := Lib.hid hnt
          clear hnt
          go_wp2_with (first
            | (at_builtin; refine wpl_appendT rfl _ _ 29 rfl w.heap.size 3 _ 1 8 Tryz.underlying29 HiA.out (by decide) (by decide) A m c (ints .i64 (nonsI (r.right.take k))) rfl Ho.out [.int .i64 (-1 - s)] rfl rfl (by simp [Value.oneCell']) (by omega) (by omega) (by omega) ?_; intro A4 c4 w4 ho hgr ha
               have Ho4 := Lib.hid ho
               have HB4 := Lib.hid (below_append HB.out hgr Ho.out hbase)
               clear ho hgr ha))
          go_roundw
          case rel => exact ⟨k + 1, m + 1, c4, A4, rfl, by go_num, by omega, by omega, Lib.hid (by rw [Hnt.out, Hm.out]; simp), Lib.hid (by rw [Hnt.out, ints_append]; exact Ho4.out), HB4⟩
          case measure => simp [intOf]; omega
        · rw [if_neg h0] at hnt
          have Hnt := Lib.hid hnt
          clear hnt
          go_wp2_with fail
          go_roundw
          case rel => exact ⟨k + 1, m, c, A, rfl, by go_num, by omega, by omega, Lib.hid (by rw [Hnt.out]; exact Hm.out), Lib.hid (by rw [Hnt.out]; exact Ho.out), HB⟩
          case measure => simp [intOf]; omega
      · have Hf : Hid (Ints .i64 wr A m c (reachI P r N)) := Lib.hid (by
          have := own_sl Ho.out
          rw [List.take_of_length_le (by omega)] at this
          rw [Hri.out]
          exact this)
        go_wp2_with fail
        go_ret
        refine ⟨HB.out, A, m, c, rfl, Hf.out, fun b o h => ?_⟩
        have := Ho.out.lt b (by rw [h]; rfl)
        omega
set_option maxHeartbeats 2000000 in
theorem tr_Reachable (h : GH) (G : Gr) (w : World) (hg : GrAt w h G) (hs : ∀ t ∈ G.terms, t.name.size ≤ maxLen) (h1 : h.n1 ≤ 100) (h2 : h.n2 ≤ 100) (h3 : h.n3 ≤ 100) :
    Calls Tryz.prog 56 #[GV h G.start] w fun e w' => Below w.heap.size w w' ∧
      ((G.right = false ∧ e = .returned (.slice none 0 0)) ∨ (G.right = true ∧ ∃ g, w.heap.size ≤ g ∧ e = .returned (.slice (some ⟨g, 0, none⟩) h.n2 h.n2) ∧ BoolT w' g (reachN G))) := by
  obtain ⟨a1, n1, c1, a2, n2, c2, a3, n3, c3⟩ := h
  have e2 : G.nons.length = n2 := hg.nons.len
  have k2 := hg.nons.cap
  simp only [] at h1 h2 h3 k2
  have hB0 := alloc_below w (.cells #[.slice a1 n1 c1, .slice a2 n2 c2, .slice a3 n3 c3, .int .i64 G.start] 26)
  have hbox := GBox.new w 26 ⟨a1, n1, c1, a2, n2, c2, a3, n3, c3⟩ G.start
  have hmk := make_bools n2 (by omega)
  have Hg := Lib.hid hg
  have Hs := Lib.hid hs
  clear hg hs
  go_enter Tryz.func56, Tryz.ntmps56
  have ⟨z5, z0, z1, z2, z3⟩ := hbox
  simp only [] at z0 z1 z2 z3
  go_wp2_with fail
  generalize w.alloc (.cells #[.slice a1 n1 c1, .slice a2 n2 c2, .slice a3 n3 c3, .int .i64 G.start] 26) = W0 at *
  (with_reducible refine (cf_Right ⟨a1, n1, c1, a2, n2, c2, a3, n3, c3⟩ G W0 (Hg.out.below hB0) Hs.out (by simp only []; omega) (by simp only []; omega)).mono ?_)
  rintro e W1 ⟨rfl, hb1⟩
  have hB1 := below_tail hB0 hb1
  have hbx1 := hbox.below hb1
  clear z0 z1 z2 z3 z5 hbox
  have ⟨y5, y0, y1, y2, y3⟩ := hbx1
  simp only [] at y0 y1 y2 y3
  rcases hrt : G.right with _ | _
  · go_wp2_with fail
    go_ret
    exact ⟨hB1, .inl ⟨hrt, rfl⟩⟩
  have hfit := Gr.fits hrt
  have hst := hfit.st
  have Hrt := Lib.hid hrt
  have Hfit := Lib.hid hfit
  obtain ⟨js, hjs⟩ : ∃ js : Nat, G.start = (js : Int) := ⟨G.start.toNat, by omega⟩
  have hjs2 : js < n2 := by omega
  have HJs := Lib.hid hjs
  clear hjs
  have cP := (tr_Productive ⟨a1, n1, c1, a2, n2, c2, a3, n3, c3⟩ G W1 (Hg.out.below hB1) Hs.out (by simp only []; omega) (by simp only []; omega) (by simp only []; omega)).mono fun e w' hh => And.intro hh.1 (hh.2.resolve_left fun hc => by rw [Hrt.out] at hc; cases hc.1).2
  have CP := Lib.hid cP
  clear hrt hfit cP
  go_wp2_with fail
  (with_reducible refine CP.out.mono ?_)
  rintro e W2 ⟨hb2, gp, hgp, rfl, hP⟩
  have hB2 := below_tail hB1 hb2
  have hbx2 := hbx1.below hb2
  have hgp2 : gp < W2.heap.size := hP.lt
  have hbA := alloc_below W2 (.cells #[.slice (some ⟨gp, 0, none⟩) n2 n2] 39)
  have hFb := Blk.new W2 39 #[.slice (some ⟨gp, 0, none⟩) n2 n2]
  have hPA : BoolT (W2.alloc (.cells #[.slice (some ⟨gp, 0, none⟩) n2 n2] 39)) gp (prodN G) := Blk.ext hP hbA
  have hbxA := hbx2.below hbA
  have hszA := alloc_size W2 (.cells #[.slice (some ⟨gp, 0, none⟩) n2 n2] 39)
  clear y0 y1 y2 y3 y5 hbx1
  go_upto_region 4 with fail
  generalize W2.alloc (.cells #[.slice (some ⟨gp, 0, none⟩) n2 n2] 39) = WA at *
  generalize hgF : W2.heap.size = gF at *
  have hT0 := BoolT.new WA (List.replicate n2 false)
  have hB20 := alloc_below WA (.cells (bools (List.replicate n2 false)).toArray 4)
  have hF3 := hFb.ext hB20
  have hP3 : BoolT (WA.alloc (.cells (bools (List.replicate n2 false)).toArray 4)) gp (prodN G) := Blk.ext hPA hB20
  have hbx3 := hbxA.below hB20
  have ⟨y5, y0, y1, y2, y3⟩ := hbxA
  simp only [] at y0 y1 y2 y3
  have hb23 := hbA.trans (hB20.mono (by omega))
  go_upto_region 5 with fail
  generalize WA.alloc (.cells (bools (List.replicate n2 false)).toArray 4) = W3 at *
  generalize hgI : WA.heap.size = gI at *
  obtain rfl : gI = gF + 1 := hszA
  clear y0 y1 y2 y3 y5
  have ⟨y5, y0, y1, y2, y3⟩ := hbx3
  simp only [] at y0 y1 y2 y3
  rw [HJs.out] at y3
  have hfz := Blk.frozen hT0 js
  have hat := hT0.at (i := js) (by simpa using hjs2)
  have hput := hT0.put js true
  have hstart : startN G = (List.replicate n2 false).set js true := by unfold startN; rw [e2, HJs.out]; rfl
  rw [← hstart] at hput
  have hsl : (startN G).length = n2 := by unfold startN; simp [e2]
  have hF4 := hF3.other (gF + 1) js (.bool true) (by omega)
  have hP4 : BoolT (W3.setCell ⟨(gF + 1), js, none⟩ (.bool true)) gp (prodN G) := Blk.other hP3 (gF + 1) js (.bool true) (by omega)
  have hb24 := hb23.trans (grown_is_below (grown_set W3 (gF + 1) js (.bool true)) (by have := hb23.size; omega) (by omega))
  have hbx4 : GBox (W3.setCell ⟨(gF + 1), js, none⟩ (.bool true)) w.heap.size ⟨a1, n1, c1, a2, n2, c2, a3, n3, c3⟩ G.start := hbx2.below (by rw [hgF]; exact hb24)
  have Hput := Lib.hid hput
  have HF4 := Lib.hid hF4
  have HP4 := Lib.hid hP4
  have Hb24 := Lib.hid hb24
  have Hbx4 := Lib.hid hbx4
  have HB2 := Lib.hid hB2
  have hgIF : (gF + 1) ≠ gF := by omega
  have hgIp : (gF + 1) ≠ gp := by omega
  clear hput hbx3 hF3 hP3 hbxA hT0 hB20 hFb hPA hbA hb23 hmk hF4 hP4 hb24 hbx4 hB2 hbx2 hstart hP
  go_upto_region 6 with fail
  generalize W3.setCell ⟨(gF + 1), js, none⟩ (.bool true) = W4 at *
  clear y0 y1 y2 y3 y5 hfz hat
  have ⟨y5, y0, y1, y2, y3⟩ := Hbx4.out
  simp only [] at y0 y1 y2 y3
  have hq := tr_grow ⟨a1, n1, c1, a2, n2, c2, a3, n3, c3⟩ G 88 #[.pointer (some ⟨gF, 0, none⟩)] enters_reach1 (reachI (prodN G)) (gF + 1) n2 (startN G) W2 W4 (Hg.out.below HB2.out) (by rw [hgF]; exact Hb24.out) (by omega) (by omega) Hput.out hsl (by simp only []; omega)
    (fun r hr N hN s hsm => by
      unfold reachI at hsm
      split at hsm
      · unfold nonsI at hsm
        obtain ⟨x, hx, rfl⟩ := List.mem_map.1 hsm
        rw [List.mem_filter] at hx
        have h1 := Hfit.out.sym r hr x hx.1
        have h2 : x < 0 := by simpa using hx.2
        rw [e2] at h1
        omega
      · cases hsm)
    (fun r hr Ar cr N w' hgr hrr hN hl => tr_reach1 r Ar cr (gF + 1) gp gF n2 N (prodN G) w' hrr hN (Blk.grown HP4.out hgr (by intro e; injection e with e; exact hgIp e.symm)) ((HF4.out.grown hgr (by intro e; injection e with e; exact hgIF e.symm)).cell 0) hl (by rw [prodN_len]; exact e2) (by omega) (by have := Hfit.out.left r hr; rw [e2] at this; exact this) (by have := Hfit.out.symB hr; rwa [e2] at this) (by have := Hfit.out.len r hr; omega))
  have HQ := Lib.hid hq
  clear hq
  go_wp2_with fail
  (with_reducible refine HQ.out.mono ?_)
  rintro e W5 ⟨rfl, hgr, hT⟩
  have hfin : reachN G = iter (passI (reachI (prodN G)) G.rules) n2 (startN G) := by unfold reachN; rw [e2]
  rw [← hfin] at hT
  have HT := Lib.hid hT
  have HB5 := Lib.hid ((HB2.out.trans (Hb24.out.mono (by rw [← hgF]; exact HB2.out.size))).trans (grown_is_below hgr (HB2.out.trans (Hb24.out.mono (by rw [← hgF]; exact HB2.out.size))).size (by have := HB2.out.size; omega)))
  have hgw : w.heap.size ≤ (gF + 1) := by have := HB2.out.size; omega
  clear hT hfin hgr y0 y1 y2 y3 y5
  go_wp2_with fail
  go_ret
  exact ⟨HB5.out, .inr ⟨Hrt.out, (gF + 1), hgw, rfl, HT.out⟩⟩
end Go.Proofs.YtfdbpafenhdkbaaGreatDoor
