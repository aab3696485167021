/- cycles: the law that goes, walked. -/
import Derived.Test.YtfdbpafenhdkbaaGreatDoorQCyL1
import Derived.Test.YtfdbpafenhdkbaaGreatDoorQCyP6
namespace Go.Proofs.YtfdbpafenhdkbaaGreatDoor
open Go.RowKit
set_option linter.unusedVariables false
set_option linter.unusedSimpArgs false

theorem u8_nat {a : Int} (h : (Lit.int .u8 a).wf = true) : ∃ n : Nat, a = (n : Int) ∧ n < 256 := by
  have h0 : 0 ≤ a ∧ a ≤ 255 := by
    simpa [Lit.wf, IntKind.min, IntKind.max, IntKind.bits, IntKind.signed] using h
  exact ⟨a.toNat, by omega, by omega⟩

set_option maxRecDepth 100000 in
set_option maxHeartbeats 4000000 in
theorem cycleGoes_walk (h : GH) (G : Gr) (x : Int) (w : World) (hgi : GrIn w h G) (hx : (Lit.int .u8 x).wf = true) (hTab : TabAt w) :
    Calls Tryz.prog 5 #[GV h G.start, .int .u8 x] w fun e w' => e = .returned (.bool true) ∧ Below w.heap.size w w' := by
  obtain ⟨from', rfl, hfr⟩ := u8_nat hx
  obtain ⟨hg, hs, hst⟩ := hgi
  obtain ⟨a1, n1, c1, a2, n2, c2, a3, n3, c3⟩ := h
  have e1 : G.terms.length = n1 := hg.terms.len
  have e2 : G.nons.length = n2 := hg.nons.len
  have e3 : G.rules.length = n3 := hg.rules.len
  have hB0 := alloc_below w (.cells #[.slice a1 n1 c1, .slice a2 n2 c2, .slice a3 n3 c3, .int .i64 G.start] 26)
  have hbox := GBox.new w 26 ⟨a1, n1, c1, a2, n2, c2, a3, n3, c3⟩ G.start
  have Hg := Lib.hid hg
  have Hs := Lib.hid hs
  have HT := Lib.hid hTab
  clear hst hg hs hTab hx
  go_enter Tryz.func5, Tryz.ntmps5
  go_wp2_with fail
  generalize w.alloc (.cells #[.slice a1 n1 c1, .slice a2 n2 c2, .slice a3 n3 c3, .int .i64 G.start] 26) = W0 at *
  (with_reducible refine (alive13 W0 (HT.out.below hB0)).mono ?_)
  rintro e W1 ⟨rfl, hb1⟩
  have hB1 := below_tail hB0 hb1
  have hbx1 := hbox.below hb1
  have ⟨y5, y0, y1, y2, y3⟩ := hbx1
  simp only [] at y0 y1 y2 y3
  go_wp2_with fail
  (with_reducible refine (rf_great ⟨a1, n1, c1, a2, n2, c2, a3, n3, c3⟩ G W1 (Hg.out.below hB1)).mono ?_)
  rintro e W2 ⟨rfl, hb2⟩
  have hB2 := below_tail hB1 hb2
  have hbx2 := hbx1.below hb2
  clear y0 y1 y2 y3 y5 hbox hbx1
  have ⟨y5, y0, y1, y2, y3⟩ := hbx2
  simp only [] at y0 y1 y2 y3
  rcases hgr : G.great with _ | _
  case true =>
    clear hgr
    go_wp2_with fail
    go_ret
    exact ⟨rfl, hB2⟩
  obtain ⟨l1, l2, l3, _⟩ := great_false hgr
  rw [e1] at l1
  rw [e2] at l2
  rw [e3] at l3
  clear hgr
  go_wp2_with fail
  (with_reducible refine (rf_right9 ⟨a1, n1, c1, a2, n2, c2, a3, n3, c3⟩ G W2 (Hg.out.below hB2) (by simp only []; omega) (by simp only []; omega) (by simp only []; omega)).mono ?_)
  rintro e W3 ⟨rfl, hb3⟩
  have hB3 := below_tail hB2 hb3
  have hbx3 := hbx2.below hb3
  clear y0 y1 y2 y3 y5 hbx2
  have ⟨y5, y0, y1, y2, y3⟩ := hbx3
  simp only [] at y0 y1 y2 y3
  rcases hrt : G.right with _ | _
  case false =>
    clear hrt
    go_wp2_with fail
    go_ret
    exact ⟨rfl, hB3⟩
  have hfit := Gr.fits hrt
  have Hrt := Lib.hid hrt
  have Hfit := Lib.hid hfit
  have hn2 := hfit.n2
  rw [e2] at hn2
  clear hrt hfit
  go_wp2_with fail
  have cS := (tr_Steps ⟨a1, n1, c1, a2, n2, c2, a3, n3, c3⟩ G W3 (Hg.out.below hB3) Hs.out (by simp only []; omega) (by simp only []; omega) (by simp only []; omega)).mono fun e w' hh => And.intro hh.1 (hh.2.resolve_left fun hc => by rw [Hrt.out] at hc; cases hc.1).2
  (with_reducible refine cS.mono ?_)
  rintro e W4 ⟨hb4, gS, hgS, rfl, hSt⟩
  have hB4 := below_tail hB3 hb4
  have hbx4 := hbx3.below hb4
  have HSt := Lib.hid hSt
  clear y0 y1 y2 y3 y5 hbx3 cS hgS hSt
  have ⟨y5, y0, y1, y2, y3⟩ := hbx4
  simp only [] at y0 y1 y2 y3
  have lF : (stepsN G).length = n2 := by rw [stepsN_len, e2]
  have hmod : Int.tmod (from' : Int) (n2 : Int) = ((from' % n2 : Nat) : Int) := by rw [Int.tmod_eq_emod_of_nonneg (by omega)]; omega
  have hkl : from' % n2 < n2 := Nat.mod_lt _ (by omega)
  have hnz : ¬ ((n2 : Int) = 0) := by omega
  have Hin := Lib.hid (stepsN_in G Hfit.out)
  have Hsm := Lib.hid (stepsN_small G)
  have Hcg : Hid (cycG G = cycS (stepsN G)) := Lib.hid (by unfold cycG; rw [Hrt.out]; rfl)
  have hcb := fun i => cyc_bit Hfit.out i
  have Hcb := Lib.hid hcb
  have Hlt := Lib.hid (cycG_lt G)
  generalize hS : stepsN G = S at *
  have HS := Lib.hid hS
  generalize from' % n2 = k at *
  have c0 := HSt.out.at (i := k) (by rw [lF]; exact hkl)
  have LF := Lib.hid lF
  have hfw : IntKind.i64.wrap (from' : Int) = (from' : Int) := IntWalk.i64_in _ (by omega)
  have hkw : IntKind.i64.wrap (k : Int) = (k : Int) := IntWalk.i64_in _ (by omega)
  clear lF hcb hS
  go_wp2_with fail
  have hB4h := Lib.hid hB4
  have hbx4h := Lib.hid hbx4
  clear y0 y1 y2 y3 y5 hbx4 hB4 c0
  go_loopw [7, 8] (fun r i wr => ∃ p : Nat, p ≤ n2 ∧ i = .int .i64 (p : Int) ∧ r = .int .u32 ((iter (passG S n2) p (S.getD k 0) : Nat) : Int) ∧ wr = W4) (fun r i _ => n2 - (intOf i).toNat)
  case atStart => exact ⟨0, Nat.zero_le _, rfl, rfl, rfl⟩
  case round =>
    obtain ⟨p, hp, rfl, rfl, rfl⟩ := hrel
    by_cases hpp : p < n2
    case neg =>
      obtain rfl : p = n2 := by omega
      have hge : Hid (iter (passG S p) p (S.getD k 0) = (closeS S).getD k 0) := Lib.hid (by have := goes_eq Hin.out (k := k) (by rw [LF.out]; exact hkl); rwa [LF.out] at this)
      rw [hge.out]
      have hr32 : (closeS S).getD k 0 < 4294967296 := (closeS_small Hsm.out).get k
      have hcc : (cycG G).testBit k = ((closeS S).getD k 0).testBit k := by
        rw [Hcg.out, Bool.eq_iff_iff, Hcb.out k, e2]
        exact ⟨fun hh => hh.2, fun hh => ⟨hkl, hh⟩⟩
      have CC := Lib.hid (tr_Cycles stepsSaid ⟨a1, n1, c1, a2, p, c2, a3, n3, c3⟩ G wr (Hg.out.below hB4h.out) Hs.out (HT.out.below hB4h.out) (by simp only []; omega) (by simp only []; omega) (by simp only []; omega))
      have CH1 := Lib.hid fun X => ref_hasN (cycG G) k X Hlt.out
      have CH2 := Lib.hid fun X => ref_hasN ((closeS S).getD k 0) k X hr32
      rw [hcc] at CH1
      generalize ((closeS S).getD k 0).testBit k = tb at *
      generalize (closeS S).getD k 0 = cl at *
      generalize cycG G = cg at *
      have ⟨y5, y0, y1, y2, y3⟩ := hbx4h.out
      simp only [] at y0 y1 y2 y3
      clear hcc
      go_wp2_with (first
        | (go_at_call 14; (with_reducible refine CC.out.mono ?_); rintro e w5 ⟨hb5, rfl⟩)
        | (go_at_call 22; (with_reducible refine (CH1.out _).mono ?_); rintro e w6 ⟨rfl, rfl⟩)
        | (go_at_call 22; (with_reducible refine (CH2.out _).mono ?_); rintro e w6 ⟨rfl, rfl⟩))
      go_ret
      exact ⟨by simp, below_tail hB4h.out hb5⟩
    case pos =>
      have hR32 := iterG_lt Hsm.out n2 p (Hsm.out.get k)
      have Hnx : Hid (iter (passG S n2) (p + 1) (S.getD k 0) = passG S n2 (iter (passG S n2) p (S.getD k 0))) := Lib.hid rfl
      generalize iter (passG S n2) p (S.getD k 0) = R0 at *
      go_wp2_with fail
      go_loopw [7, 9] (fun r i wz => ∃ q : Nat, q ≤ n2 ∧ i = .int .i64 (q : Int) ∧ Hid (passG S q R0 < 4294967296) ∧ r = .int .u32 ((passG S q R0 : Nat) : Int) ∧ wz = wr) (fun r i _ => n2 - (intOf i).toNat)
      case atStart => exact ⟨0, Nat.zero_le _, rfl, Lib.hid hR32, rfl, rfl⟩
      case round =>
        obtain ⟨q, hq, rfl, H32, rfl, rfl⟩ := hrel
        by_cases hqq : q < n2
        case neg =>
          obtain rfl : q = n2 := by omega
          go_wp2_with fail
          go_roundw
          case rel => exact ⟨p + 1, by omega, by go_num, by rw [Hnx.out], trivial⟩
          case measure => simp [intOf]; omega
        case pos =>
          have hsc := passG_succ S q R0
          have hsq := Hsm.out.get q
          have hn32 : goI S (passG S q R0) q < 4294967296 := by
            unfold goI
            split
            · exact or_lt32 H32.out hsq
            · exact H32.out
          rw [← hsc] at hn32
          have Hn32 := Lib.hid hn32
          unfold goI at hsc
          have Hsc := Lib.hid hsc
          have CH := Lib.hid fun X => ref_hasN (passG S q R0) q X H32.out
          have c0 := HSt.out.at (i := q) (by rw [LF.out]; exact hqq)
          have hor := or32 (passG S q R0) (S.getD q 0) H32.out hsq
          generalize passG S q R0 = R at *
          generalize S.getD q 0 = sq at *
          clear hsc hn32 hR32
          rcases htb : R.testBit q with _ | _
          · rw [htb] at CH
            have e2' : Hid (passG S (q + 1) R0 = R) := Lib.hid (by rw [Hsc.out, htb]; rfl)
            clear htb
            go_wp2_with (go_at_call 22; (with_reducible refine (CH.out _).mono ?_); rintro e w6 ⟨rfl, rfl⟩)
            go_roundw
            case rel => exact ⟨q + 1, by omega, by go_num, Hn32, by rw [e2'.out], trivial⟩
            case measure => simp [intOf]; omega
          · rw [htb] at CH
            have e2' : Hid (passG S (q + 1) R0 = R ||| sq) := Lib.hid (by rw [Hsc.out, htb]; rfl)
            clear htb
            go_wp2_with (go_at_call 22; (with_reducible refine (CH.out _).mono ?_); rintro e w6 ⟨rfl, rfl⟩)
            go_roundw
            case rel => exact ⟨q + 1, by omega, by go_num, Hn32, by rw [e2'.out], trivial⟩
            case measure => simp [intOf]; omega
end Go.Proofs.YtfdbpafenhdkbaaGreatDoor
