/- cycles: the law of orders, walked. -/
import Derived.Test.YtfdbpafenhdkbaaGreatDoorQCyL2
namespace Go.Proofs.YtfdbpafenhdkbaaGreatDoor
open Go.RowKit
set_option linter.unusedVariables false
set_option linter.unusedSimpArgs false

theorem intsOf_get {l : List Nat} {q j : Nat} (h : l[q]? = some j) : (intsOf l)[q]? = some (j : Int) := by
  unfold intsOf
  rw [List.getElem?_map, h]
  rfl

set_option maxRecDepth 100000 in
set_option maxHeartbeats 4000000 in
theorem cycleOrders_walk (h : GH) (G : Gr) (w : World) (hgi : GrIn w h G) (hTab : TabAt w) :
    Calls Tryz.prog 4 #[GV h G.start] w fun e w' => e = .returned (.bool true) ∧ Below w.heap.size w w' := by
  obtain ⟨hg, hs, hst⟩ := hgi
  obtain ⟨a1, n1, c1, a2, n2, c2, a3, n3, c3⟩ := h
  have e1 : G.terms.length = n1 := hg.terms.len
  have e2 : G.nons.length = n2 := hg.nons.len
  have e3 : G.rules.length = n3 := hg.rules.len
  have hB0 := alloc_below w (.cells #[.slice a1 n1 c1, .slice a2 n2 c2, .slice a3 n3 c3, .int .i64 G.start] 26)
  have hbox := GBox.new w 26 ⟨a1, n1, c1, a2, n2, c2, a3, n3, c3⟩ G.start
  have Hg := Lib.hid hg
  have Hs := Lib.hid hs
  have HT := Lib.hid hTab
  clear hst hg hs hTab
  go_enter Tryz.func4, Tryz.ntmps4
  go_wp2_with fail
  generalize w.alloc (.cells #[.slice a1 n1 c1, .slice a2 n2 c2, .slice a3 n3 c3, .int .i64 G.start] 26) = W0 at *
  (with_reducible refine (alive13 W0 (HT.out.below hB0)).mono ?_)
  rintro e W1 ⟨rfl, hb1⟩
  have hB1 := below_tail hB0 hb1
  have hbx1 := hbox.below hb1
  have ⟨y5, y0, y1, y2, y3⟩ := hbx1
  simp only [] at y0 y1 y2 y3
  go_wp2_with fail
  (with_reducible refine (rf_great ⟨a1, n1, c1, a2, n2, c2, a3, n3, c3⟩ G W1 (Hg.out.below hB1)).mono ?_)
  rintro e W2 ⟨rfl, hb2⟩
  have hB2 := below_tail hB1 hb2
  have hbx2 := hbx1.below hb2
  clear y0 y1 y2 y3 y5 hbox hbx1
  have ⟨y5, y0, y1, y2, y3⟩ := hbx2
  simp only [] at y0 y1 y2 y3
  rcases hgr : G.great with _ | _
  case true =>
    clear hgr
    go_wp2_with fail
    go_ret
    exact ⟨rfl, hB2⟩
  obtain ⟨l1, l2, l3, _⟩ := great_false hgr
  rw [e1] at l1
  rw [e2] at l2
  rw [e3] at l3
  clear hgr
  go_wp2_with fail
  (with_reducible refine (rf_right9 ⟨a1, n1, c1, a2, n2, c2, a3, n3, c3⟩ G W2 (Hg.out.below hB2) (by simp only []; omega) (by simp only []; omega) (by simp only []; omega)).mono ?_)
  rintro e W3 ⟨rfl, hb3⟩
  have hB3 := below_tail hB2 hb3
  have hbx3 := hbx2.below hb3
  clear y0 y1 y2 y3 y5 hbx2
  have ⟨y5, y0, y1, y2, y3⟩ := hbx3
  simp only [] at y0 y1 y2 y3
  rcases hrt : G.right with _ | _
  case false =>
    clear hrt
    go_wp2_with fail
    go_ret
    exact ⟨rfl, hB3⟩
  have hfit := Gr.fits hrt
  have Hrt := Lib.hid hrt
  have Hfit := Lib.hid hfit
  have hn2 := hfit.n2
  rw [e2] at hn2
  clear hrt hfit
  have hn1 : n1 ≤ 100 := by omega
  have hn22 : n2 ≤ 100 := by omega
  have hn3 : n3 ≤ 100 := by omega
  clear l1 l2 l3
  go_wp2_with fail
  have hO := tr_Order stepsSaid usefulSaid ⟨a1, n1, c1, a2, n2, c2, a3, n3, c3⟩ G W3 (Hg.out.below hB3) Hs.out (HT.out.below hB3) hn1 hn22 hn3
  unfold RetOrd at hO
  rcases heg : endG G with _ | _
  case true =>
    have hol : ordG G = ([], 10) := by unfold ordG; rw [Hrt.out, heg]; rfl
    rw [hol] at hO
    (with_reducible refine hO.mono ?_)
    rintro e W4 ⟨hb4, A4, c4, rfl, rO4⟩
    have hB4 := below_tail hB3 hb4
    have hbx4 := hbx3.below hb4
    clear y0 y1 y2 y3 y5 hbx3 hO rO4
    have ⟨y5, y0, y1, y2, y3⟩ := hbx4
    simp only [] at y0 y1 y2 y3
    go_wp2_with fail
    have cE := tr_Endless stepsSaid usefulSaid ⟨a1, n1, c1, a2, n2, c2, a3, n3, c3⟩ G W4 (Hg.out.below hB4) Hs.out (HT.out.below hB4) hn1 hn22 hn3
    rw [heg] at cE
    (with_reducible refine cE.mono ?_)
    rintro e W5 ⟨hb5, rfl⟩
    clear y0 y1 y2 y3 y5 hbx4 cE heg hol
    go_wp2_with fail
    go_ret
    exact ⟨rfl, below_tail hB4 hb5⟩
  have hol : ordG G = ((orderS (stepsN G) (useS G) G.nons.length G.nons.length).1, 0) := by unfold ordG; rw [Hrt.out, heg]; rfl
  have Heg := Lib.hid heg
  rw [hol] at hO
  have hul : useS G < 4294967296 := setB_lt _ _
  have hpre := orderS_pre (stepsN G) (useS G) G.nons.length G.nons.length
  have hno := order_next G Hrt.out heg (orderS_end (stepsN G) G.nons.length hul)
  unfold PreO at hpre
  rw [hpre.1] at hno
  have hpre2 := hpre.2
  have hub := useS_bit G Hfit.out
  have hln : (orderS (stepsN G) (useS G) G.nons.length G.nons.length).1.length ≤ n2 := by have := orderS_length (stepsN G) (useS G) G.nons.length G.nons.length; omega
  generalize (orderS (stepsN G) (useS G) G.nons.length G.nons.length).1 = ol at *
  rw [e2] at hpre2
  have Hno := Lib.hid hno
  have Hpre := Lib.hid hpre2
  have Hub := Lib.hid hub
  clear hpre hno hpre2 hub hol heg hul
  (with_reducible refine hO.mono ?_)
  rintro e W4 ⟨hb4, A4, c4, rfl, rO4⟩
  have hB4 := below_tail hB3 hb4
  have hbx4 := hbx3.below hb4
  have RO4 := Lib.hid rO4
  clear y0 y1 y2 y3 y5 hbx3 hO rO4
  have ⟨y5, y0, y1, y2, y3⟩ := hbx4
  simp only [] at y0 y1 y2 y3
  generalize hnl : ol.length = nl at *
  have Hnl := Lib.hid hnl
  clear hnl
  go_wp2_with fail
  have cE := tr_Endless stepsSaid usefulSaid ⟨a1, n1, c1, a2, n2, c2, a3, n3, c3⟩ G W4 (Hg.out.below hB4) Hs.out (HT.out.below hB4) hn1 hn22 hn3
  rw [Heg.out] at cE
  (with_reducible refine cE.mono ?_)
  rintro e W5 ⟨hb5, rfl⟩
  have hB5 := below_tail hB4 hb5
  have hbx5 := hbx4.below hb5
  have RO5 := Lib.hid (RO4.out.below hb5)
  clear y0 y1 y2 y3 y5 hbx4 cE RO4
  have ⟨y5, y0, y1, y2, y3⟩ := hbx5
  simp only [] at y0 y1 y2 y3
  go_wp2_with fail
  have cS := (tr_Steps ⟨a1, n1, c1, a2, n2, c2, a3, n3, c3⟩ G W5 (Hg.out.below hB5) Hs.out hn1 hn22 hn3).mono fun e w' hh => And.intro hh.1 (hh.2.resolve_left fun hc => by rw [Hrt.out] at hc; cases hc.1).2
  (with_reducible refine cS.mono ?_)
  rintro e W6 ⟨hb6, gS, hgS, rfl, hSt⟩
  have hB6 := below_tail hB5 hb6
  have hbx6 := hbx5.below hb6
  have RO6 := Lib.hid (RO5.out.below hb6)
  have HSt := Lib.hid hSt
  clear y0 y1 y2 y3 y5 hbx5 cS hgS hSt RO5
  have ⟨y5, y0, y1, y2, y3⟩ := hbx6
  simp only [] at y0 y1 y2 y3
  have HS : Hid (∀ W', Below W6.heap.size W6 W' → W'.cell? ⟨w.heap.size, 0, none⟩ = some (.slice a1 n1 c1) ∧ W'.cell? ⟨w.heap.size, 1, none⟩ = some (.slice a2 n2 c2) ∧ W'.cell? ⟨w.heap.size, 2, none⟩ = some (.slice a3 n3 c3) ∧ W'.cell? ⟨w.heap.size, 3, none⟩ = some (.int .i64 G.start) ∧ Below W6.heap.size W6 W') := Lib.hid fun W' hb => ⟨by rw [hb.cell (by exact y5)]; exact y0, by rw [hb.cell (by exact y5)]; exact y1, by rw [hb.cell (by exact y5)]; exact y2, by rw [hb.cell (by exact y5)]; exact y3, hb⟩
  have CP := Lib.hid fun X (hb : Below W6.heap.size W6 X) => (rf_Productive ⟨a1, n1, c1, a2, n2, c2, a3, n3, c3⟩ G X ((Hg.out.below hB6).below hb) hn1 hn22 hn3).mono fun e w' hh => And.intro (below_tail hb hh.1) (And.intro (Lib.hid hh.1) (hh.2.resolve_left fun hc => by rw [Hrt.out] at hc; cases hc.1).2)
  have CR := Lib.hid fun X (hb : Below W6.heap.size W6 X) => (rf_Reachable ⟨a1, n1, c1, a2, n2, c2, a3, n3, c3⟩ G X ((Hg.out.below hB6).below hb) hn1 hn22 hn3).mono fun e w' hh => And.intro (below_tail hb hh.1) (And.intro (Lib.hid hh.1) (hh.2.resolve_left fun hc => by rw [Hrt.out] at hc; cases hc.1).2)
  have HB6 := Lib.hid hB6
  have Hbx6 := Lib.hid hbx6
  clear hbx6 hB6 hB5 hB4 hB3 hB2 hB1 hB0 hb1 hb2 hb3 hb4 hb5 hb6
  go_wp2_with fail
  go_region_held3 (fun W' => W'.cell? ⟨w.heap.size, 0, none⟩ = some (.slice a1 n1 c1) ∧ W'.cell? ⟨w.heap.size, 1, none⟩ = some (.slice a2 n2 c2) ∧ W'.cell? ⟨w.heap.size, 2, none⟩ = some (.slice a3 n3 c3) ∧ W'.cell? ⟨w.heap.size, 3, none⟩ = some (.int .i64 G.start) ∧ Below W6.heap.size W6 W')
    ((refine HS.out _ ?_; (repeat (first | assumption | exact Below.refl _ _ | refine Below.drew ?_)); done))
    (first
      | (go_at_call 20; with_reducible refine (CP.out _ (by (repeat (first | assumption | exact Below.refl _ _ | refine Below.drew ?_)))).mono ?_; rintro e w7 ⟨hB7, Hb7, gP, hgP, rfl, HTP⟩)
      | (go_at_call 21; with_reducible refine (CR.out _ (by (repeat (first | assumption | exact Below.refl _ _ | refine Below.drew ?_)))).mono ?_; rintro e w8 ⟨hB8, Hb8, gQ, hgQ, rfl, HTQ⟩))
  have HS8 : Hid (SetT w8 gS (stepsN G)) := Lib.hid (Blk.ext HSt.out hB8)
  have HP8 : Hid (BoolT w8 gP (prodN G)) := Lib.hid (Blk.hidden HTP Hb8)
  have HQ8 : Hid (BoolT w8 gQ (reachN G)) := Lib.hid HTQ
  have RO8 := Lib.hid (RO6.out.below hB8)
  have HB8 := Lib.hid (below_tail HB6.out hB8)
  have hbx8 := Hbx6.out.below hB8
  have lS : Hid ((stepsN G).length = n2) := Lib.hid (by rw [stepsN_len, e2])
  have lP : Hid ((prodN G).length = n2) := Lib.hid (by rw [prodN_len, e2])
  have lQ : Hid ((reachN G).length = n2) := Lib.hid (by rw [reachN_len, e2])
  have Hsm := Lib.hid (stepsN_small G)
  have Hth := Lib.hid thereL_lt
  generalize stepsN G = S at *
  generalize prodN G = P at *
  generalize reachN G = Q at *
  generalize useS G = U at *
  clear hB7 Hb7 hgP HTP hB8 Hb8 hgQ HTQ CP CR HS y0 y1 y2 y3 y5 HSt RO6 Hbx6 HB6
  have ⟨y5, y0, y1, y2, y3⟩ := hbx8
  simp only [] at y0 y1 y2 y3
  clear hbx8
  have kA := RO8.out.cap
  go_wp2_with fail
  clear y0 y1 y2 y3 y5
  go_loopw [8, 9] (fun t i wr => ∃ q : Nat, q ≤ nl ∧ i = .int .i64 (q : Int) ∧ t = .int .u32 ((thereL (ol.take q) : Nat) : Int) ∧ wr = w8) (fun t i _ => nl - (intOf i).toNat)
  case atStart => exact ⟨0, Nat.zero_le _, rfl, rfl, rfl⟩
  case round =>
    obtain ⟨q, hq, rfl, rfl, rfl⟩ := hrel
    by_cases hqq : q < nl
    case neg =>
      obtain rfl : q = nl := by omega
      have Hto : Hid (thereL (ol.take q) = thereL ol) := Lib.hid (by rw [List.take_of_length_le (by rw [Hnl.out]; exact Nat.le_refl _)])
      rw [Hto.out]
      go_wp2_with fail
      go_loopw [10] (fun i wz => ∃ m : Nat, m ≤ n2 ∧ i = .int .i64 (m : Int) ∧ wz = wr) (fun i _ => n2 - (intOf i).toNat)
      case atStart => exact ⟨0, Nat.zero_le _, rfl, rfl⟩
      case round =>
        obtain ⟨m, hm, rfl, rfl⟩ := hrel
        by_cases hmm : m < n2
        case neg =>
          obtain rfl : m = n2 := by omega
          go_wp2_with fail
          go_ret
          exact ⟨rfl, HB8.out⟩
        case pos =>
          have cP := HP8.out.at (i := m) (by rw [lP.out]; exact hmm)
          have cQ := HQ8.out.at (i := m) (by rw [lQ.out]; exact hmm)
          have hall : Hid (P.getD m false = true → Q.getD m false = true → (thereL ol).testBit m = true) := Lib.hid fun h1 h2 => by
            have hu := (Hub.out m).2 ⟨h1, h2⟩
            have := andN_bit U (thereL ol) m
            rw [Hno.out, hu, Nat.zero_testBit] at this
            cases ht : (thereL ol).testBit m
            · rw [ht] at this; cases this
            · rfl
          have CH := Lib.hid fun X => ref_hasN (thereL ol) m X (Hth.out ol)
          generalize (thereL ol).testBit m = tb at *
          generalize thereL ol = tl at *
          generalize P.getD m false = pm at *
          generalize Q.getD m false = qm at *
          rcases pm with _ | _
          · clear hall
            go_wp2_with fail
            go_roundw
            case rel => exact ⟨m + 1, by omega, by go_num, trivial⟩
            case measure => simp [intOf]; omega
          rcases qm with _ | _
          · clear hall
            go_wp2_with fail
            go_roundw
            case rel => exact ⟨m + 1, by omega, by go_num, trivial⟩
            case measure => simp [intOf]; omega
          obtain rfl := hall.out rfl rfl
          clear hall
          go_wp2_with (go_at_call 22; (with_reducible refine (CH.out _).mono ?_); rintro e w6 ⟨rfl, rfl⟩)
          go_roundw
          case rel => exact ⟨m + 1, by omega, by go_num, trivial⟩
          case measure => simp [intOf]; omega
    case pos =>
      obtain ⟨bl_, ol_, x, rfl, hbl, Hx, cx⟩ := RO8.out.get hqq
      obtain ⟨j, hj⟩ : ∃ j, ol[q]? = some j := ⟨_, List.getElem?_eq_getElem (by rw [Hnl.out]; exact hqq)⟩
      obtain rfl : (j : Int) = x := by have := (intsOf_get hj).symm.trans Hx.out; exact Option.some.inj this
      obtain ⟨hj2, hpk⟩ := Hpre.out q j hj
      unfold pickB at hpk
      simp only [Bool.and_eq_true, Bool.not_eq_true', beq_iff_eq] at hpk
      obtain ⟨⟨hu, htf⟩, han⟩ := hpk
      obtain ⟨hp1, hq1⟩ := (Hub.out j).1 hu
      have c0 := HS8.out.at (i := j) (by rw [lS.out]; exact hj2)
      have cP := HP8.out.at (i := j) (by rw [lP.out]; exact hj2)
      have cQ := HQ8.out.at (i := j) (by rw [lQ.out]; exact hj2)
      rw [hp1] at cP
      rw [hq1] at cQ
      have ht32 := Hth.out (ol.take q)
      have hand := andn32 (S.getD j 0) (thereL (ol.take q)) (Hsm.out.get j) ht32
      rw [han] at hand
      have CH := Lib.hid fun X => ref_hasN (thereL (ol.take q)) j X ht32
      rw [htf] at CH
      have CB := Lib.hid fun X => ref_bit (j : Int) X
      have hor := or32 (thereL (ol.take q)) (bitN (j : Int)) ht32 (bitN_lt _)
      have Hnx : Hid (thereL (ol.take (q + 1)) = thereL (ol.take q) ||| bitN (j : Int)) := Lib.hid (by rw [take_snoc' hj, thereL_snoc])
      generalize thereL (ol.take q) = tl at *
      generalize S.getD j 0 = sj at *
      generalize bitN (j : Int) = bj at *
      have g1 : (j : Int) < (n2 : Int) := by omega
      have g0 : ¬ ((j : Int) < 0) := by omega
      have g2 : ¬ ((n2 : Int) ≤ (j : Int)) := by omega
      clear hp1 hq1 han htf hu ht32 hj
      go_wp2_with (first
        | (go_at_call 22; (with_reducible refine (CH.out _).mono ?_); rintro e w6 ⟨rfl, rfl⟩)
        | (go_at_call 23; (with_reducible refine (CB.out _).mono ?_); rintro e w6 ⟨rfl, rfl⟩))
      go_roundw
      case rel => exact ⟨q + 1, by omega, by go_num, by rw [Hnx.out], trivial⟩
      case measure => simp [intOf]; omega
end Go.Proofs.YtfdbpafenhdkbaaGreatDoor
