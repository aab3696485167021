/- follow: the reference's, walked. -/
import Derived.Test.YtfdbpafenhdkbaaGreatQGrB5
namespace Go.Proofs.YtfdbpafenhdkbaaGreat
open Go.RowKit
set_option linter.unusedVariables false
set_option linter.unusedSimpArgs false

theorem passW_len (N : List Bool) (F : List Nat) (rs : List Rul) (W : List Nat) : (passW N F rs W).length = W.length := (passW_grows N F rs).len W
theorem posW_len (N : List Bool) (F : List Nat) (r : Rul) (k : Nat) (W : List Nat) : (posW N F r k W).length = W.length := (posW_grows N F r k).len W
theorem iterW_len (N : List Bool) (F : List Nat) (rs : List Rul) (W : List Nat) : ∀ k, (iter (passW N F rs) k W).length = W.length
  | 0 => rfl
  | k + 1 => by rw [iter, passW_len, iterW_len N F rs W k]
theorem startW_len (G : Gr) : (startW G).length = G.nons.length := by simp [startW]

theorem Ints.tail {w : World} {b off n c : Nat} {zs : List Int} (h : Ints .i64 w (some ⟨b, off, none⟩) n c zs) (i : Nat) (hi : i ≤ n) :
    Ints .i64 w (if c = i then some ⟨b, off, none⟩ else some ⟨b, off + i, none⟩) (n - i) (c - i) (zs.drop i) := by
  have hl := h.len
  have hc := h.cap
  by_cases he : c = i
  · rw [if_pos he]
    obtain rfl : i = n := by omega
    rw [Nat.sub_self, ← hl, List.drop_length]
    exact Ints.nil _ _ _ _ (by omega)
  · rw [if_neg he]
    have := h.part i (n - i) (c - i) (by omega) (by omega) (by omega)
    rwa [List.take_of_length_le (by rw [List.length_drop]; omega)] at this

set_option maxHeartbeats 8000000 in
theorem rf_Follow (h : GH) (G : Gr) (w : World) (hg : GrAt w h G) (h1 : h.n1 ≤ 100) (h2 : h.n2 ≤ 100) (h3 : h.n3 ≤ 100) :
    Calls Tryz.prog 17 #[GV h G.start] w fun e w' => Below w.heap.size w w' ∧
      ((G.right = false ∧ e = .returned (.slice none 0 0)) ∨ (G.right = true ∧ ∃ g, w.heap.size ≤ g ∧ e = .returned (.slice (some ⟨g, 0, none⟩) h.n2 h.n2) ∧ SetT w' g (followN G))) := by
  obtain ⟨a1, n1, c1, a2, n2, c2, a3, n3, c3⟩ := h
  have e1 : G.terms.length = n1 := hg.terms.len
  have e2 : G.nons.length = n2 := hg.nons.len
  have e3 : G.rules.length = n3 := hg.rules.len
  have k3 := hg.rules.cap
  have k2 := hg.nons.cap
  have k1 := hg.terms.cap
  simp only [] at h1 h2 h3 k3 k2 k1
  have Hg := Lib.hid hg
  have hB0 := alloc_below w (.cells #[.slice a1 n1 c1, .slice a2 n2 c2, .slice a3 n3 c3, .int .i64 G.start] 26)
  have hbox := GBox.new w 26 ⟨a1, n1, c1, a2, n2, c2, a3, n3, c3⟩ G.start
  have hmk := make_sets n2 (by omega)
  go_enter Tryz.func17, Tryz.ntmps17
  have ⟨z5, z0, z1, z2, z3⟩ := hbox
  simp only [] at z0 z1 z2 z3
  go_wp2_with fail
  generalize w.alloc (.cells #[.slice a1 n1 c1, .slice a2 n2 c2, .slice a3 n3 c3, .int .i64 G.start] 26) = W0 at *
  (with_reducible refine (rf_right9 ⟨a1, n1, c1, a2, n2, c2, a3, n3, c3⟩ G W0 (hg.below hB0) (by simp only []; omega) (by simp only []; omega) (by simp only []; omega)).mono ?_)
  rintro e W1 ⟨rfl, hb1⟩
  have hB1 := below_tail hB0 hb1
  have hbx1 := hbox.below hb1
  have ⟨y5, y0, y1, y2, y3⟩ := hbx1
  simp only [] at y0 y1 y2 y3
  clear z0 z1 z2 z3 hg
  rcases hrt : G.right with _ | _
  · go_wp2_with fail
    go_ret
    exact ⟨hB1, .inl ⟨hrt, rfl⟩⟩
  · have hfit := Gr.fits hrt
    have Hrt := Lib.hid hrt
    have Hfit := Lib.hid hfit
    clear hfit hrt
    have HS : Hid (∀ W', Below W1.heap.size W1 W' → W'.cell? ⟨w.heap.size, 0, none⟩ = some (.slice a1 n1 c1) ∧ W'.cell? ⟨w.heap.size, 1, none⟩ = some (.slice a2 n2 c2) ∧ W'.cell? ⟨w.heap.size, 2, none⟩ = some (.slice a3 n3 c3) ∧ W'.cell? ⟨w.heap.size, 3, none⟩ = some (.int .i64 G.start) ∧ Below W1.heap.size W1 W') := Lib.hid fun W' hb => ⟨by rw [hb.cell (by exact y5)]; exact y0, by rw [hb.cell (by exact y5)]; exact y1, by rw [hb.cell (by exact y5)]; exact y2, by rw [hb.cell (by exact y5)]; exact y3, hb⟩
    have CN := Lib.hid fun X (hb : Below W1.heap.size W1 X) => (rf_Nullable ⟨a1, n1, c1, a2, n2, c2, a3, n3, c3⟩ G X ((Hg.out.below hB1).below hb) (by simp only []; omega) (by simp only []; omega) (by simp only []; omega)).mono fun e w' hh => And.intro (below_tail hb hh.1) (And.intro (Lib.hid hh.1) (hh.2.resolve_left fun hc => by rw [Hrt.out] at hc; cases hc.1).2)
    have CF := Lib.hid fun X (hb : Below W1.heap.size W1 X) => (rf_First ⟨a1, n1, c1, a2, n2, c2, a3, n3, c3⟩ G X ((Hg.out.below hB1).below hb) (by simp only []; omega) (by simp only []; omega) (by simp only []; omega)).mono fun e w' hh => And.intro (below_tail hb hh.1) (And.intro (Lib.hid hh.1) (hh.2.resolve_left fun hc => by rw [Hrt.out] at hc; cases hc.1).2)
    have HB1 := Lib.hid hB1
    have Hbx1 := Lib.hid hbx1
    clear hbx1 hbox
    go_wp2_with fail
    go_region_held3 (fun W' => W'.cell? ⟨w.heap.size, 0, none⟩ = some (.slice a1 n1 c1) ∧ W'.cell? ⟨w.heap.size, 1, none⟩ = some (.slice a2 n2 c2) ∧ W'.cell? ⟨w.heap.size, 2, none⟩ = some (.slice a3 n3 c3) ∧ W'.cell? ⟨w.heap.size, 3, none⟩ = some (.int .i64 G.start) ∧ Below W1.heap.size W1 W')
      ((refine HS.out _ ?_; (repeat (first | assumption | exact Below.refl _ _ | refine Below.drew ?_ | refine below_alloc ?_ _ | refine below_set ?_ _ _ _ (by (first | exact Nat.le_refl _ | exact Nat.le_succ _ | exact Below.size (by assumption) | exact Nat.le_succ_of_le (Below.size (by assumption)) | (simp; done) | omega)))); done))
      (first
        | (go_at_call 21; refine (CN.out _ (by (repeat (first | assumption | exact Below.refl _ _ | refine Below.drew ?_ | refine below_alloc ?_ _ | refine below_set ?_ _ _ _ (by (first | exact Nat.le_refl _ | exact Nat.le_succ _ | exact Below.size (by assumption) | exact Nat.le_succ_of_le (Below.size (by assumption)) | (simp; done) | omega)))))).mono ?_; rintro e w2 ⟨hB2, Hb2, gN, hgN, rfl, HTN⟩)
        | (go_at_call 15; refine (CF.out _ (by (repeat (first | assumption | exact Below.refl _ _ | refine Below.drew ?_ | refine below_alloc ?_ _ | refine below_set ?_ _ _ _ (by (first | exact Nat.le_refl _ | exact Nat.le_succ _ | exact Below.size (by assumption) | exact Nat.le_succ_of_le (Below.size (by assumption)) | (simp; done) | omega)))))).mono ?_; rintro e w3 ⟨hB3, Hb3, gF, hgF, rfl, HTF⟩))
    rename_i hHeld
    clear hHeld
    have hTN : BoolT w3 gN (nullN G) := Blk.hidden HTN Hb3
    have hNl : (nullN G).length = n2 := by rw [nullN_len, e2]
    have hFl : (firstN G).length = n2 := by rw [firstN_len, e2]
    have hFs := firstN_small G
    have hB3w := HB1.out.trans (hB3.mono HB1.out.size)
    have hbx3 := Hbx1.out.below hB3
    have Hfin : Hid (followN G = iter (passW (nullN G) (firstN G) G.rules) n2 (startW G)) := Lib.hid (by unfold followN; rw [e2])
    have hSt : startW G = (List.replicate n2 0).set G.start.toNat (bitN n1) := by unfold startW; rw [e1, e2]
    have hSl : (startW G).length = n2 := by rw [startW_len, e2]
    have hSs := startW_small G
    obtain ⟨s1, s2⟩ := Hfit.out.st
    obtain ⟨st, hst⟩ : ∃ st : Nat, G.start = (st : Int) := ⟨G.start.toNat, by omega⟩
    rw [show G.start.toNat = st by omega] at hSt
    have hst2 : st < n2 := by omega
    have HTF2 := Lib.hid HTF
    generalize nullN G = N at *
    generalize firstN G = F at *
    clear CN CF HS y0 y1 y2 y3 hB2 Hb2 HTN Hb3 hgN hb1 hB0 hB1
    have hT0 := SetT.new w3 (List.replicate n2 0)
    have hB30 := alloc_below w3 (.cells (nums .u32 (List.replicate n2 0)).toArray 33)
    have ⟨x5, x0, x1, x2, x3⟩ := hbx3.below hB30
    simp only [] at x0 x1 x2 x3
    rw [hst] at x3
    have ⟨v5, v0, v1, v2, v3⟩ := hbx3
    simp only [] at v0 v1 v2 v3
    go_wp2_with fail
    clear v0 v1 v2 v3
    have hlt3 : w3.heap.size < (w3.alloc (.cells (nums .u32 (List.replicate n2 0)).toArray 33)).heap.size := hT0.lt
    have hcl := hT0.at (i := st) (by simp; omega)
    have hfz : (w3.alloc (.cells (nums .u32 (List.replicate n2 0)).toArray 33)).frozen? ⟨w3.heap.size, st, none⟩ = false := Blk.frozen hT0 st
    generalize w3.alloc (.cells (nums .u32 (List.replicate n2 0)).toArray 33) = wv at *
    have CB := Lib.hid fun x : Ext wv => ref_bit (n1 : Int) (bl wv x)
    have Hput := Lib.hid fun x : Ext wv => SetT.put (Blk.ext hT0 (bl_below wv x) : SetT (bl wv x) w3.heap.size (List.replicate n2 0)) st (bitN n1)
    rw [← hSt] at Hput
    have HSt := Lib.hid hSt
    clear hSt
    generalize startW G = W0' at *
    generalize bitN (n1 : Int) = bt at *
    have bc := bl_cell wv
    have bf := bl_frozen wv
    refine wp_region_below_tail 8 (by kernel_rfl) (by kernel_rfl) ?_
    simp only [List.take_succ_cons, List.take_zero, List.drop_succ_cons, List.drop_zero]
    repeat (go_big_quiet_step ((go_at_call 45; with_reducible exact bl_of_same (CB.out _))))
    refine wpQuiet_nil ?_
    rintro _ ⟨x, rfl⟩
    have hcx := (bc x w3.heap.size st hlt3).trans hcl
    have hfx := (bf x w3.heap.size st hlt3).trans hfz
    have hsx := bl_size wv x
    have hput := Hput.out x
    have hB35 : Below w3.heap.size w3 ((bl wv x).setCell ⟨w3.heap.size, st, none⟩ (.int .u32 (bt : Int))) := (hB30.trans ((bl_below wv x).mono (by omega))).trans (grown_is_below (grown_set _ _ _ _) (by omega) (Nat.le_refl _))
    clear bc bf Hput CB x0 x1 x2 x3
    go_wp2_with fail
    clear hcx hfx
    generalize (bl wv x).setCell ⟨w3.heap.size, st, none⟩ (.int .u32 (bt : Int)) = W5 at *
    go_loopw [6, 7, 8, 9, 10] (fun i _ _ _ _ wr => ∃ (k : Nat), k ≤ n2 ∧ i = .int .i64 (k : Int) ∧ Below w3.heap.size w3 wr ∧ SetT wr w3.heap.size (iter (passW N F G.rules) k W0')) (fun i _ _ _ _ _ => n2 - (intOf i).toNat)
    case atStart => exact ⟨0, Nat.zero_le _, rfl, hB35, hput⟩
    case round =>
      clear hput hB35 hT0 hB30 hcl hfz hmk
      obtain ⟨k, hk, rfl, hB, hT⟩ := hrel
      have ⟨y5, y0, y1, y2, y3⟩ := hbx3.below hB
      simp only [] at y0 y1 y2 y3
      by_cases hkk : k < n2
      · go_wp2_with fail
        clear y0 y1 y2 y3
        have hWl : (iter (passW N F G.rules) k W0').length = n2 := by rw [iterW_len]; exact hSl
        have hWs := iterW_small N hFs G.rules hSs k
        have Hit : Hid (passW N F G.rules (iter (passW N F G.rules) k W0') = iter (passW N F G.rules) (k + 1) W0') := Lib.hid rfl
        generalize iter (passW N F G.rules) k W0' = W at *
        go_loopw [7, 8, 9, 10] (fun i _ _ _ wz => ∃ (j : Nat), j ≤ n3 ∧ i = .int .i64 (j : Int) ∧ Below w3.heap.size w3 wz ∧ SetT wz w3.heap.size (passW N F (G.rules.take j) W)) (fun i _ _ _ _ => n3 - (intOf i).toNat)
        case atStart => exact ⟨0, Nat.zero_le _, rfl, hB, by simpa [passW] using hT⟩
        case round =>
          clear hB hT
          obtain ⟨j, hj, rfl, hB, hT⟩ := hrel
          have ⟨y5, y0, y1, y2, y3⟩ := hbx3.below hB
          simp only [] at y0 y1 y2 y3
          by_cases hjj : j < n3
          · obtain ⟨bb, off, r, Ar, cr, rfl, hb, Hr, q0, q1, q2, hrr⟩ := Hg.out.rules.get hjj
            have hBw := hB3w.trans (hB.mono hB3w.size)
            rw [← hBw.cell (by exact hb)] at q0 q1 q2
            have hmem := List.mem_of_getElem? Hr.out
            have hWj : (passW N F (G.rules.take j) W).length = n2 := by rw [passW_len]; exact hWl
            have hWs2 := passW_small N hFs (G.rules.take j) hWs
            have hnx : passW N F (G.rules.take (j + 1)) W = posW N F r r.right.length (passW N F (G.rules.take j) W) := by rw [take_snoc' Hr.out, passW_snoc]
            obtain ⟨l1, l2⟩ := Hfit.out.left r hmem
            obtain ⟨jl, hjl⟩ : ∃ jl : Nat, r.left = (jl : Int) := ⟨r.left.toNat, by omega⟩
            have hjl2 : jl < n2 := by omega
            have hsy := Hfit.out.symN hmem
            rw [e2] at hsy
            have Hsy := Lib.hid hsy
            have hrc := hrr.cap
            generalize passW N F (G.rules.take j) W = Wj at *
            rw [hjl] at q0
            have hB1' := alloc_below wr (.cells #[.int .i64 (jl : Int), .slice Ar r.right.length cr, .int .i64 r.prec] 41)
            have hT1 : SetT (wr.alloc (.cells #[.int .i64 (jl : Int), .slice Ar r.right.length cr, .int .i64 r.prec] 41)) w3.heap.size Wj := Blk.ext hT hB1'
            have hy1 := Blk.new wr 41 #[.int .i64 (jl : Int), .slice Ar r.right.length cr, .int .i64 r.prec]
            have p5 := alloc_size wr (.cells #[.int .i64 (jl : Int), .slice Ar r.right.length cr, .int .i64 r.prec] 41)
            have hB3a := hB.trans (hB1'.mono hB.size)
            have hlt := hT.lt
            have Hnx := Lib.hid hnx
            have Hrr := Lib.hid hrr
            have hlr : Hid (r.left.toNat = jl) := Lib.hid (by omega)
            clear hnx hsy hB hT hrr hBw
            go_wp2_with fail
            generalize wr.alloc (.cells #[.int .i64 (jl : Int), .slice Ar r.right.length cr, .int .i64 r.prec] 41) = wv at *
            generalize wr.heap.size = gb at *
            clear q0 q1 q2 y0 y1 y2 y3
            go_loopw [9, 10] (fun i _ wz => ∃ (p : Nat), p ≤ r.right.length ∧ i = .int .i64 (p : Int) ∧ Below w3.heap.size w3 wz ∧ SetT wz w3.heap.size (posW N F r p Wj) ∧ Blk wz gb 41 #[.int .i64 (jl : Int), .slice Ar r.right.length cr, .int .i64 r.prec]) (fun i _ _ => r.right.length - (intOf i).toNat)
            case atStart => exact ⟨0, Nat.zero_le _, rfl, hB3a, hT1, hy1⟩
            case round =>
              clear hB3a hT1 hy1
              obtain ⟨wo, rfl⟩ : ∃ wo : World, wo = wr := ⟨_, rfl⟩
              obtain ⟨p, hp, rfl, hB, hT, hY⟩ := hrel
              have u0 := Blk.cell hY 0
              have u1 := Blk.cell hY 1
              simp only [List.getElem?_toArray, List.getElem?_cons_zero, List.getElem?_cons_succ] at u0 u1
              have hbo := hY.lt
              by_cases hpp : p < r.right.length
              · have hBw := hB3w.trans (hB.mono hB3w.size)
                obtain ⟨sb, so, s, rfl, hsb, Hsv, q0⟩ := Hrr.out.get hpp
                have hsbo : sb < wo.heap.size := Nat.lt_of_lt_of_le hsb hBw.size
                rw [← hBw.cell (by exact hsb)] at q0
                have hstp := posW_succ N F r p Wj s Hsv.out
                have slo := Hsy.out s (List.mem_of_getElem? Hsv.out)
                have hWp : (posW N F r p Wj).length = n2 := by rw [posW_len]; exact hWj
                have hWps := posW_small N hFs r hWs2 p (by omega)
                generalize posW N F r p Wj = Wp at *
                unfold growW at hstp
                by_cases h0 : s < 0
                · rw [if_pos h0, hlr.out] at hstp
                  obtain ⟨js, hjs, hns, hw⟩ := non_place h0 slo (by omega)
                  rw [hns] at hstp
                  have k0 := hT.at (i := js) (by omega)
                  have k1 := hT.at (i := jl) (by omega)
                  have hfz : wo.frozen? ⟨w3.heap.size, js, none⟩ = false := Blk.frozen hT js
                  have hlt9 : w3.heap.size < wo.heap.size := hT.lt
                  have hput := fun x : Ext wo => SetT.put (Blk.ext hT (bl_below wo x) : SetT (bl wo x) w3.heap.size Wp) js (Wp.getD js 0 ||| beginP N F (r.right.drop (p + 1)) (Wp.getD jl 0))
                  have hhi : beginP N F (r.right.drop (p + 1)) (Wp.getD jl 0) < 4294967296 := beginGo_lt N hFs (hWps.get jl) _ _ (by decide)
                  have hor := or32 (Wp.getD js 0) (beginP N F (r.right.drop (p + 1)) (Wp.getD jl 0)) (hWps.get js) hhi
                  have hrest := hWps.get jl
                  have cO := fun x : Ext wo => rf_of (if cr = p + 1 then some ⟨sb, so, none⟩ else some ⟨sb, so + (p + 1), none⟩) (r.right.length - (p + 1)) (cr - (p + 1)) gN gF n2 (r.right.drop (p + 1)) N F (Wp.getD jl 0) (bl wo x) (((Hrr.out.below hBw).ext (Nat.le_refl _) (bl_below wo x)).tail (p + 1) hpp) (Blk.ext (Blk.ext hTN hB) (bl_below wo x)) (Blk.ext (Blk.ext HTF2.out hB) (bl_below wo x)) hNl hFl (by omega) (fun s hs => Hsy.out s (List.mem_of_mem_drop hs)) hFs hrest
                  have hcy := fun x : Ext wo => Blk.ext hY (bl_below wo x)
                  unfold addAt at hstp
                  have CO := Lib.hid cO
                  have Hput := Lib.hid hput
                  have Hcy := Lib.hid hcy
                  have Hstp := Lib.hid hstp
                  have HB := Lib.hid hB
                  clear cO hput hcy hstp hrest
                  generalize Wp.getD js 0 ||| beginP N F (r.right.drop (p + 1)) (Wp.getD jl 0) = z at *
                  generalize beginP N F (r.right.drop (p + 1)) (Wp.getD jl 0) = beg at *
                  generalize Wp.getD jl 0 = ol at *
                  generalize Wp.getD js 0 = ov at *
                  have hm1 : IntKind.i64.wrap ((p : Int) + 1) = (p : Int) + 1 := IntWalk.i64_in _ (by omega)
                  have hm2 : (0 : Int) ≤ (p : Int) + 1 := by omega
                  have hm3 : ((p : Int) + 1).toNat = p + 1 := by omega
                  have hm4 : (p : Int) + 1 ≤ (r.right.length : Int) := by omega
                  have hm5 : (p : Int) + 1 ≤ (cr : Int) := by omega
                  have bc := bl_cell wo
                  have bf := bl_frozen wo
                  clear hB hT hY hBw
                  go_wp2_with fail
                  refine wp_region_below_tail 21 (by kernel_rfl) (by kernel_rfl) ?_
                  simp only [List.take_succ_cons, List.take_zero, List.drop_succ_cons, List.drop_zero]
                  repeat (go_big_quiet_step ((go_at_call 41; with_reducible exact bl_of_same (CO.out _))))
                  refine wpQuiet_nil ?_
                  rintro _ ⟨x, rfl⟩
                  have hcx := (bc x w3.heap.size js hlt9).trans k0
                  have hfx := (bf x w3.heap.size js hlt9).trans hfz
                  have hsx := bl_size wo x
                  clear hm1 hm2 hm3 hm4 hm5
                  go_wp2_with fail
                  go_roundw
                  case rel => exact ⟨p + 1, by omega, by go_num, (HB.out.trans ((bl_below wo x).mono (by omega))).trans (grown_is_below (grown_set _ _ _ _) (by omega) (Nat.le_refl _)), by rw [Hstp.out]; exact Hput.out x, (Hcy.out x).other _ _ _ (by omega)⟩
                  case measure => simp [intOf]; omega
                · rw [if_neg h0] at hstp
                  have Hstp := Lib.hid hstp
                  clear hstp
                  go_wp2_with fail
                  go_roundw
                  case rel => exact ⟨p + 1, by omega, by go_num, hB, by rw [Hstp.out]; exact hT, hY⟩
                  case measure => simp [intOf]; omega
              · obtain rfl : p = r.right.length := by omega
                rw [← Hnx.out] at hT
                go_wp2_with fail
                go_roundw
                case rel => exact ⟨j + 1, by omega, by go_num, hB, hT⟩
                case measure => simp [intOf]; omega
          · obtain rfl : j = n3 := by omega
            rw [List.take_of_length_le (by omega), Hit.out] at hT
            go_wp2_with fail
            go_roundw
            case rel => exact ⟨k + 1, by omega, by go_num, hB, hT⟩
            case measure => simp [intOf]; omega
      · obtain rfl : k = n2 := by omega
        rw [← Hfin.out] at hT
        have HT := Lib.hid hT
        have hgW : w.heap.size ≤ w3.heap.size := hB3w.size
        clear hT
        go_wp2_with fail
        go_ret
        exact ⟨below_tail hB3w hB, .inr ⟨Hrt.out, w3.heap.size, hgW, rfl, HT.out⟩⟩
end Go.Proofs.YtfdbpafenhdkbaaGreat
