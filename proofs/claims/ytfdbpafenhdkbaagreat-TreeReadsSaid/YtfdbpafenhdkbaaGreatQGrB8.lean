/- follow: the program's, walked. -/
import Derived.Test.YtfdbpafenhdkbaaGreatQGrB7
import Derived.Deep.RegionWith
namespace Go.Proofs.YtfdbpafenhdkbaaGreat
open Go.RowKit
set_option linter.unusedVariables false
set_option linter.unusedSimpArgs false

set_option maxHeartbeats 8000000 in
theorem pf_Follow (h : GH) (G : Gr) (w : World) (hg : GrAt w h G) (hs : ∀ t ∈ G.terms, t.name.size ≤ maxLen) (h1 : h.n1 ≤ 100) (h2 : h.n2 ≤ 100) (h3 : h.n3 ≤ 100) :
    Calls Tryz.prog 16 #[GV h G.start] w fun e w' => Below w.heap.size w w' ∧
      ((G.right = false ∧ e = .returned (.slice none 0 0)) ∨ (G.right = true ∧ ∃ g, w.heap.size ≤ g ∧ e = .returned (.slice (some ⟨g, 0, none⟩) h.n2 h.n2) ∧ SetT w' g (followN G))) := by
  obtain ⟨a1, n1, c1, a2, n2, c2, a3, n3, c3⟩ := h
  have e1 : G.terms.length = n1 := hg.terms.len
  have e2 : G.nons.length = n2 := hg.nons.len
  have e3 : G.rules.length = n3 := hg.rules.len
  have k3 := hg.rules.cap
  have k2 := hg.nons.cap
  have k1 := hg.terms.cap
  simp only [] at h1 h2 h3 k3 k2 k1
  have Hg := Lib.hid hg
  have hB0 := alloc_below w (.cells #[.slice a1 n1 c1, .slice a2 n2 c2, .slice a3 n3 c3, .int .i64 G.start] 26)
  have hbox := GBox.new w 26 ⟨a1, n1, c1, a2, n2, c2, a3, n3, c3⟩ G.start
  have hmk := make_sets n2 (by omega)
  go_enter Tryz.func16, Tryz.ntmps16
  have ⟨z5, z0, z1, z2, z3⟩ := hbox
  simp only [] at z0 z1 z2 z3
  go_wp2_with fail
  generalize w.alloc (.cells #[.slice a1 n1 c1, .slice a2 n2 c2, .slice a3 n3 c3, .int .i64 G.start] 26) = W0 at *
  (with_reducible refine (cf_Right ⟨a1, n1, c1, a2, n2, c2, a3, n3, c3⟩ G W0 (hg.below hB0) hs (by simp only []; omega) (by simp only []; omega)).mono ?_)
  rintro e W1 ⟨rfl, hb1⟩
  have hB1 := below_tail hB0 hb1
  have hbx1 := hbox.below hb1
  have ⟨y5, y0, y1, y2, y3⟩ := hbx1
  simp only [] at y0 y1 y2 y3
  clear z0 z1 z2 z3 hg
  rcases hrt : G.right with _ | _
  · go_wp2_with fail
    go_ret
    exact ⟨hB1, .inl ⟨hrt, rfl⟩⟩
  · have hfit := Gr.fits hrt
    have Hrt := Lib.hid hrt
    have Hfit := Lib.hid hfit
    have CR := Lib.hid (pf_read ⟨a1, n1, c1, a2, n2, c2, a3, n3, c3⟩ G W1 (Hg.out.below hB1) hs hrt (by simp only []; omega) (by simp only []; omega) (by simp only []; omega))
    clear hfit hrt hs
    go_wp2_with fail
    (with_reducible refine CR.out.mono ?_)
    rintro e w2 ⟨hb2, gN, gF, hgN, hgF, rfl, hTN0, hTF0⟩
    have hB2 := below_tail hB1 hb2
    have hbx2 := hbx1.below hb2
    have hb3 := alloc_below w2 (.cells #[.slice (some ⟨gN, 0, none⟩) n2 n2, .slice (some ⟨gF, 0, none⟩) n2 n2] 56)
    have hbk := Blk.new w2 56 #[.slice (some ⟨gN, 0, none⟩) n2 n2, .slice (some ⟨gF, 0, none⟩) n2 n2]
    have hTN : BoolT (w2.alloc (.cells #[.slice (some ⟨gN, 0, none⟩) n2 n2, .slice (some ⟨gF, 0, none⟩) n2 n2] 56)) gN (nullN G) := Blk.ext hTN0 hb3
    have hTF : SetT (w2.alloc (.cells #[.slice (some ⟨gN, 0, none⟩) n2 n2, .slice (some ⟨gF, 0, none⟩) n2 n2] 56)) gF (firstN G) := Blk.ext hTF0 hb3
    have hB3w := below_tail hB2 hb3
    have hbx3 := hbx2.below hb3
    have p5 := alloc_size w2 (.cells #[.slice (some ⟨gN, 0, none⟩) n2 n2, .slice (some ⟨gF, 0, none⟩) n2 n2] 56)
    have ⟨x5, x0, x1, x2, x3⟩ := hbx3
    simp only [] at x0 x1 x2 x3
    clear y0 y1 y2 y3 CR hTN0 hTF0 hb3 hb2 hbx1 hbx2 hbox hb1
    go_upto_region 4 with fail
    have hgBl := hbk.lt
    have hgNl : gN < w2.heap.size + 1 := by have := Blk.lt hTN; omega
    generalize w2.alloc (.cells #[.slice (some ⟨gN, 0, none⟩) n2 n2, .slice (some ⟨gF, 0, none⟩) n2 n2] 56) = w3 at *
    generalize w2.heap.size = gB at *
    have hNl : (nullN G).length = n2 := by rw [nullN_len, e2]
    have hFl : (firstN G).length = n2 := by rw [firstN_len, e2]
    have hFs := firstN_small G
    have Hfin : Hid (followN G = iter (passW (nullN G) (firstN G) G.rules) n2 (startW G)) := Lib.hid (by unfold followN; rw [e2])
    have hSt : startW G = (List.replicate n2 0).set G.start.toNat (bitN n1) := by unfold startW; rw [e1, e2]
    have hSl : (startW G).length = n2 := by rw [startW_len, e2]
    have hSs := startW_small G
    obtain ⟨s1, s2⟩ := Hfit.out.st
    obtain ⟨st, hst⟩ : ∃ st : Nat, G.start = (st : Int) := ⟨G.start.toNat, by omega⟩
    rw [show G.start.toNat = st by omega] at hSt
    have hst2 : st < n2 := by omega
    have HTF2 := Lib.hid hTF
    have HTN2 := Lib.hid hTN
    have HBK := Lib.hid hbk
    generalize nullN G = N at *
    generalize firstN G = F at *
    have hT0 := SetT.new w3 (List.replicate n2 0)
    have hB30 := alloc_below w3 (.cells (nums .u32 (List.replicate n2 0)).toArray 33)
    have ⟨v5, v0, v1, v2, v3⟩ := hbx3.below hB30
    simp only [] at v0 v1 v2 v3
    rw [hst] at v3
    have hlt3 : w3.heap.size < (w3.alloc (.cells (nums .u32 (List.replicate n2 0)).toArray 33)).heap.size := hT0.lt
    have hcl := hT0.at (i := st) (by simp; omega)
    have hfz : (w3.alloc (.cells (nums .u32 (List.replicate n2 0)).toArray 33)).frozen? ⟨w3.heap.size, st, none⟩ = false := Blk.frozen hT0 st
    clear hTF hTN hbk p5 hst
    go_upto_region 5 with fail
    generalize w3.alloc (.cells (nums .u32 (List.replicate n2 0)).toArray 33) = wv at *
    have CB := Lib.hid fun W gg (h : Ints .i64 W (some ⟨gg, 0, none⟩) 1 1 [(n1 : Int)]) => (ofN_one (n1 : Int)) ▸ set_of (some ⟨gg, 0, none⟩) 1 1 [(n1 : Int)] W h
    have hput : SetT (wv.setCell ⟨w3.heap.size, st, none⟩ (.int .u32 ((bitN (n1 : Int) : Nat) : Int))) w3.heap.size (startW G) := by rw [hSt]; exact hT0.put st (bitN n1)
    have hBs : Below w3.heap.size w3 (wv.setCell ⟨w3.heap.size, st, none⟩ (.int .u32 ((bitN (n1 : Int) : Nat) : Int))) := below_set hB30 _ _ _ (Nat.le_refl _)
    have Hput := Lib.hid hput
    have HBs := Lib.hid hBs
    clear hput hBs
    clear x0 x1 x2 x3
    go_cut [] (fun wx => Below w3.heap.size w3 wx ∧ SetT wx w3.heap.size (startW G))
    case first =>
      generalize hbt : bitN (n1 : Int) = bt at *
      clear hbt
      go_region_with (go_at_call 42; (with_reducible refine (CB.out _ _ ?_).mono ?_); exact one_int wv 3 (n1 : Int); rintro e w5 ⟨rfl, rfl⟩)
      all_goals
        go_wp2_with fail
        go_meet
        exact ⟨by first | exact below_alloc HBs.out _ | exact (below_alloc HBs.out _).drew, by first | exact Blk.ext Hput.out (alloc_below _ _) | exact Blk.drew (Blk.ext Hput.out (alloc_below _ _))⟩
    case rest =>
      obtain ⟨hB35, hT5⟩ := hcut
      clear CB Hput HBs hT0 hB30 v0 v1 v2 v3 hcl hfz hlt3 hmk hSt
      generalize hW0 : startW G = W0' at *
      have HW0 := Lib.hid hW0
      clear hW0
      go_wp2_with fail
      go_loopg [5] (n2 + 2) (fun q v wr => ∃ (m : Nat) (d : Bool), v = .bool d ∧ q + m = n2 + 2 ∧ Hid (d = false → m ≤ n2) ∧ Below w3.heap.size w3 wr ∧ SetT wr w3.heap.size (iter (passW N F G.rules) m W0') ∧ Hid (d = true → passW N F G.rules (iter (passW N F G.rules) m W0') = iter (passW N F G.rules) m W0'))
      case atStart => exact ⟨0, false, rfl, by omega, Lib.hid fun _ => by omega, hB35, hT5, Lib.hid fun h => by cases h⟩
      case round =>
        clear hB35 hT5
        obtain ⟨m, d, rfl, hq, Hm, hB, hT, Hfx⟩ := hrel
        have ⟨y5, y0, y1, y2, y3⟩ := hbx3.below hB
        simp only [] at y0 y1 y2 y3
        rcases (by cases d <;> simp : d = false ∨ d = true) with rfl | rfl
        · have hmn := Hm.out rfl
          go_wp2_with fail
          clear y0 y1 y2 y3
          have hWl : (iter (passW N F G.rules) m W0').length = n2 := by rw [iterW_len]; exact hSl
          have hWs := iterW_small N hFs G.rules hSs m
          have Hit : Hid (passW N F G.rules (iter (passW N F G.rules) m W0') = iter (passW N F G.rules) (m + 1) W0') := Lib.hid rfl
          have Hmore : Hid (passW N F G.rules (iter (passW N F G.rules) m W0') ≠ iter (passW N F G.rules) m W0' → m < n2) := Lib.hid fun hne => by
            have hall := (passW_grows N F G.rules).fix W0'
            rw [hSl] at hall
            exact iter_more hall hne
          generalize iter (passW N F G.rules) m W0' = W at *
          go_loopw [5, 7, 8, 9, 33] (fun v _ _ _ i wz => ∃ (j : Nat), j ≤ n3 ∧ i = .int .i64 (j : Int) ∧ v = .bool (decide (passW N F (G.rules.take j) W = W)) ∧ Below w3.heap.size w3 wz ∧ SetT wz w3.heap.size (passW N F (G.rules.take j) W)) (fun _ _ _ _ i _ => n3 - (intOf i).toNat)
          case atStart => exact ⟨0, Nat.zero_le _, rfl, by rw [show passW N F (G.rules.take 0) W = W from rfl]; simp, hB, hT⟩
          case round =>
            clear hB hT
            obtain ⟨j, hj, rfl, rfl, hB, hT⟩ := hrel
            by_cases hjj : j < n3
            · obtain ⟨bb, off, r, Ar, cr, rfl, hb, Hr, q0, q1, q2, hrr⟩ := Hg.out.rules.get hjj
              have hBw := hB3w.trans (hB.mono hB3w.size)
              rw [← hBw.cell (by exact hb)] at q0 q1 q2
              have hmem := List.mem_of_getElem? Hr.out
              have hWj : (passW N F (G.rules.take j) W).length = n2 := by rw [passW_len]; exact hWl
              have hWs2 := passW_small N hFs (G.rules.take j) hWs
              have hnx : passW N F (G.rules.take (j + 1)) W = posW N F r r.right.length (passW N F (G.rules.take j) W) := by rw [take_snoc' Hr.out, passW_snoc]
              have Hfs : Hid (∀ p s, r.right[p]? = some s → decide (posW N F r (p + 1) (passW N F (G.rules.take j) W) = W) = (decide (growW N F r p s (posW N F r p (passW N F (G.rules.take j) W)) = posW N F r p (passW N F (G.rules.take j) W)) && decide (posW N F r p (passW N F (G.rules.take j) W) = W))) := Lib.hid fun p s hs => by
                rw [posW_succ N F r p _ s hs]
                exact flag_step (GrowsS.comp (passW_grows N F (G.rules.take j)) (posW_grows N F r p)) (growW_grows N F r p s) W
              obtain ⟨l1, l2⟩ := Hfit.out.left r hmem
              obtain ⟨jl, hjl⟩ : ∃ jl : Nat, r.left = (jl : Int) := ⟨r.left.toNat, by omega⟩
              have hjl2 : jl < n2 := by omega
              have hsy := Hfit.out.symN hmem
              rw [e2] at hsy
              have Hsy := Lib.hid hsy
              have hrc := hrr.cap
              have h00 : decide (passW N F (G.rules.take j) W = W) = decide (posW N F r 0 (passW N F (G.rules.take j) W) = W) := rfl
              rw [h00]
              clear h00
              generalize passW N F (G.rules.take j) W = Wj at *
              rw [hjl] at q0
              have hB1' := alloc_below wr (.cells #[.int .i64 (jl : Int), .slice Ar r.right.length cr, .int .i64 r.prec] 41)
              have hT1 : SetT (wr.alloc (.cells #[.int .i64 (jl : Int), .slice Ar r.right.length cr, .int .i64 r.prec] 41)) w3.heap.size Wj := Blk.ext hT hB1'
              have hy1 := Blk.new wr 41 #[.int .i64 (jl : Int), .slice Ar r.right.length cr, .int .i64 r.prec]
              have z0 := Blk.cell hy1 0
              have z1 := Blk.cell hy1 1
              simp only [List.getElem?_toArray, List.getElem?_cons_zero, List.getElem?_cons_succ] at z0 z1
              have hB3a := hB.trans (hB1'.mono hB.size)
              have hlt := hT.lt
              have Hnx := Lib.hid hnx
              have Hrr := Lib.hid hrr
              have hlr : Hid (r.left.toNat = jl) := Lib.hid (by omega)
              clear hnx hsy hB hT hrr hBw
              go_wp2_with fail
              generalize wr.alloc (.cells #[.int .i64 (jl : Int), .slice Ar r.right.length cr, .int .i64 r.prec] 41) = wv2 at *
              generalize wr.heap.size = gb at *
              clear q0 q1 q2 z0 z1
              go_loopw [5, 8, 9, 40] (fun v _ _ i wz => ∃ (p : Nat), p ≤ r.right.length ∧ i = .int .i64 (p : Int) ∧ v = .bool (decide (posW N F r p Wj = W)) ∧ Below w3.heap.size w3 wz ∧ SetT wz w3.heap.size (posW N F r p Wj) ∧ Blk wz gb 41 #[.int .i64 (jl : Int), .slice Ar r.right.length cr, .int .i64 r.prec]) (fun _ _ _ i _ => r.right.length - (intOf i).toNat)
              case atStart => exact ⟨0, Nat.zero_le _, rfl, rfl, hB3a, hT1, hy1⟩
              case round =>
                clear hB3a hT1 hy1
                obtain ⟨wo, rfl⟩ : ∃ wo : World, wo = wr := ⟨_, rfl⟩
                obtain ⟨p, hp, rfl, rfl, hB, hT, hY⟩ := hrel
                have u0 := Blk.cell hY 0
                have u1 := Blk.cell hY 1
                simp only [List.getElem?_toArray, List.getElem?_cons_zero, List.getElem?_cons_succ] at u0 u1
                have hbo := hY.lt
                by_cases hpp : p < r.right.length
                · have hBw := hB3w.trans (hB.mono hB3w.size)
                  obtain ⟨sb, so, s, rfl, hsb, Hsv, q0⟩ := Hrr.out.get hpp
                  have hsbo : sb < wo.heap.size := Nat.lt_of_lt_of_le hsb hBw.size
                  rw [← hBw.cell (by exact hsb)] at q0
                  have hstp := posW_succ N F r p Wj s Hsv.out
                  have hfl := Hfs.out p s Hsv.out
                  have slo := Hsy.out s (List.mem_of_getElem? Hsv.out)
                  have hWp : (posW N F r p Wj).length = n2 := by rw [posW_len]; exact hWj
                  have hWps := posW_small N hFs r hWs2 p (by omega)
                  generalize hdd : decide (posW N F r p Wj = W) = d at *
                  clear hdd
                  generalize posW N F r p Wj = Wp at *
                  unfold growW at hstp hfl
                  by_cases h0 : s < 0
                  · rw [if_pos h0, hlr.out] at hstp hfl
                    obtain ⟨js, hjs, hns, hw⟩ := non_place h0 slo (by omega)
                    rw [hns] at hstp hfl
                    have k1 := hT.at (i := jl) (by omega)
                    have hlt9 : w3.heap.size < wo.heap.size := hT.lt
                    have hrest := hWps.get jl
                    have hhi : beginP N F (r.right.drop (p + 1)) (Wp.getD jl 0) < 4294967296 := beginGo_lt N hFs hrest _ _ (by decide)
                    have hput := fun x : Ext wo => SetT.put (Blk.ext hT (bl_below wo x) : SetT (bl wo x) w3.heap.size Wp) js (Wp.getD js 0 ||| beginP N F (r.right.drop (p + 1)) (Wp.getD jl 0))
                    have cO := fun x : Ext wo => pf_of (if cr = p + 1 then some ⟨sb, so, none⟩ else some ⟨sb, so + (p + 1), none⟩) (r.right.length - (p + 1)) (cr - (p + 1)) gN gF n2 (r.right.drop (p + 1)) N F (Wp.getD jl 0) (bl wo x) (((Hrr.out.below hBw).ext (Nat.le_refl _) (bl_below wo x)).tail (p + 1) hpp) (Blk.ext (Blk.ext HTN2.out hB) (bl_below wo x)) (Blk.ext (Blk.ext HTF2.out hB) (bl_below wo x)) hNl hFl (by omega) (fun s hs => Hsy.out s (List.mem_of_mem_drop hs)) hFs hrest
                    have cS := fun x : Ext wo => pf_still w3.heap.size n2 js (beginP N F (r.right.drop (p + 1)) (Wp.getD jl 0)) Wp (bl wo x) (Blk.ext hT (bl_below wo x)) hWp hjs (by omega) hWps hhi
                    have hcy := fun x : Ext wo => Blk.ext hY (bl_below wo x)
                    have hbkc := Blk.ext HBK.out hB
                    have b0 := Blk.cell hbkc 0
                    have b1 := Blk.cell hbkc 1
                    simp only [List.getElem?_toArray, List.getElem?_cons_zero, List.getElem?_cons_succ] at b0 b1
                    have hgbo := hbkc.lt
                    generalize hnd : decide (addAt js (beginP N F (r.right.drop (p + 1)) (Wp.getD jl 0)) Wp = Wp) = nd at *
                    clear hnd
                    unfold addAt at hstp
                    have CO := Lib.hid cO
                    have CS := Lib.hid cS
                    have Hput := Lib.hid hput
                    have Hcy := Lib.hid hcy
                    have Hstp := Lib.hid hstp
                    have Hfl := Lib.hid hfl
                    have HB := Lib.hid hB
                    clear cO cS hput hcy hstp hfl hrest hbkc
                    generalize Wp.getD js 0 ||| beginP N F (r.right.drop (p + 1)) (Wp.getD jl 0) = z at *
                    generalize beginP N F (r.right.drop (p + 1)) (Wp.getD jl 0) = beg at *
                    generalize Wp.getD jl 0 = ol at *
                    have hm1 : IntKind.i64.wrap ((p : Int) + 1) = (p : Int) + 1 := IntWalk.i64_in _ (by omega)
                    have hm2 : (0 : Int) ≤ (p : Int) + 1 := by omega
                    have hm3 : ((p : Int) + 1).toNat = p + 1 := by omega
                    have hm4 : (p : Int) + 1 ≤ (r.right.length : Int) := by omega
                    have hm5 : (p : Int) + 1 ≤ (cr : Int) := by omega
                    have bc := bl_cell wo
                    clear hB hT hY hBw
                    go_wp2_with fail
                    refine wp_region_below_tail 15 (by kernel_rfl) (by kernel_rfl) ?_
                    simp only [List.take_succ_cons, List.take_zero, List.drop_succ_cons, List.drop_zero]
                    repeat (go_big_quiet_step ((go_at_call 44; with_reducible exact bl_of (CO.out _))))
                    refine wpQuiet_nil ?_
                    rintro _ ⟨x, rfl⟩
                    have hsx := bl_size wo x
                    have CS1 := Lib.hid (CS.out x)
                    have HBx := Lib.hid (bl_below wo x)
                    clear CS CO bc hm1 hm2 hm3 hm4 hm5
                    rcases (by cases nd <;> simp : nd = false ∨ nd = true) with rfl | rfl
                    all_goals
                      go_wp2_with (go_at_call 43; (with_reducible refine CS1.out.mono ?_); rintro e w5 ⟨rfl, rfl⟩)
                      go_roundw
                      case rel => exact ⟨p + 1, by omega, by go_num, by rw [Hfl.out]; simp, (HB.out.trans (HBx.out.mono (by omega))).trans (grown_is_below (grown_set _ _ _ _) (by omega) (Nat.le_refl _)), by rw [Hstp.out]; exact Hput.out x, (Hcy.out x).other _ _ _ (by omega)⟩
                      case measure => simp [intOf]; omega
                  · rw [if_neg h0] at hstp hfl
                    have Hstp := Lib.hid hstp
                    have Hfl := Lib.hid hfl
                    clear hstp hfl
                    go_wp2_with fail
                    go_roundw
                    case rel => exact ⟨p + 1, by omega, by go_num, by rw [Hfl.out]; simp, hB, by rw [Hstp.out]; exact hT, hY⟩
                    case measure => simp [intOf]; omega
                · obtain rfl : p = r.right.length := by omega
                  rw [← Hnx.out] at hT ⊢
                  go_wp2_with fail
                  go_roundw
                  case rel => exact ⟨j + 1, by omega, by go_num, rfl, hB, hT⟩
                  case measure => simp [intOf]; omega
            · obtain rfl : j = n3 := by omega
              rw [List.take_of_length_le (by omega)] at hT ⊢
              have Hgf : Hid (decide (passW N F G.rules W = W) = false → m + 1 ≤ n2) := Lib.hid fun hgt => by
                have := Hmore.out (by simpa using hgt)
                omega
              have Hgf2 : Hid (decide (passW N F G.rules W = W) = true → passW N F G.rules (iter (passW N F G.rules) (m + 1) W0') = iter (passW N F G.rules) (m + 1) W0') := Lib.hid fun hgt => by
                have he : passW N F G.rules W = W := by simpa using hgt
                rw [← Hit.out, he, he]
              generalize decide (passW N F G.rules W = W) = y at *
              rw [Hit.out] at hT
              go_wp2_with fail
              go_roundg (n2 + 1 - m)
              case rel => exact ⟨m + 1, y, rfl, by omega, Hgf, hB, hT, Hgf2⟩
              case measure => omega
        · have hfx := Hfx.out rfl
          have hall := (passW_grows N F G.rules).fix W0'
          rw [hSl] at hall
          rw [iter_done hall hfx] at hT
          have hfe : followN G = iter (passW N F G.rules) n2 W0' := Hfin.out
          rw [← hfe] at hT
          have HT := Lib.hid hT
          have hgW : w.heap.size ≤ w3.heap.size := hB3w.size
          clear hT Hm Hfx hfx hall hfe
          go_wp2_with fail
          go_ret
          exact ⟨below_tail hB3w hB, .inr ⟨Hrt.out, w3.heap.size, hgW, rfl, HT.out⟩⟩
end Go.Proofs.YtfdbpafenhdkbaaGreat
