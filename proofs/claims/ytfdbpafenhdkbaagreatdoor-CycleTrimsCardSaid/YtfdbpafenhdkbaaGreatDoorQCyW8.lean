/- the order: the reference's, walked. -/
import Derived.Test.YtfdbpafenhdkbaaGreatDoorQCyW6
import Derived.Test.YtfdbpafenhdkbaaGreatDoorQSetPlain
namespace Go.Proofs.YtfdbpafenhdkbaaGreatDoor
open Go.RowKit
set_option linter.unusedVariables false
set_option linter.unusedSimpArgs false

/-- the order and its error -/
def ordG (G : Gr) : List Nat × Int := if G.right then (if endG G then ([], 10) else ((orderS (stepsN G) (useS G) G.nons.length G.nons.length).1, 0)) else ([], 1)
def RetOrd (G : Gr) (w : World) (e : Ending) (w' : World) : Prop := Below w.heap.size w w' ∧ ∃ A c, e = .returned (.tuple #[.slice A (ordG G).1.length c, .int .i64 (ordG G).2]) ∧ Ints .i64 w' A (ordG G).1.length c (intsOf (ordG G).1)
theorem RetOrd.fail {G : Gr} {w w' : World} {er : Int} (h : ordG G = ([], er)) (hb : Below w.heap.size w w') : RetOrd G w (.returned (.tuple #[.slice none 0 0, .int .i64 er])) w' := by
  unfold RetOrd
  rw [h]
  exact ⟨hb, none, 0, rfl, own_sl (World.ownsRow_nil _ 0 3 1)⟩
theorem RetOrd.good {G : Gr} {w w' : World} {l : List Nat} (h : ordG G = (l, 0)) (hb : Below w.heap.size w w') {A : Option Addr} {c B : Nat} (ho : w'.ownsRow B 3 1 (.slice A l.length c) l.length (ints .i64 (intsOf l))) : RetOrd G w (.returned (.tuple #[.slice A l.length c, .int .i64 0])) w' := by
  unfold RetOrd
  rw [h]
  exact ⟨hb, A, c, rfl, own_sl ho⟩
theorem useS_lt (G : Gr) : useS G < 4294967296 := setB_lt _ _
theorem beq0_cast (z : Nat) : ((z : Int) == 0) = (z == 0) := by
  rw [Bool.eq_iff_iff, beq_iff_eq, beq_iff_eq]
  omega

set_option maxRecDepth 20000 in
set_option maxHeartbeats 4000000 in
theorem rf_Order (h : GH) (G : Gr) (w : World) (hg : GrAt w h G) (h1 : h.n1 ≤ 100) (h2 : h.n2 ≤ 100) (h3 : h.n3 ≤ 100) :
    Calls Tryz.prog 10 #[GV h G.start] w (RetOrd G w) := by
  obtain ⟨a1, n1, c1, a2, n2, c2, a3, n3, c3⟩ := h
  have e2 : G.nons.length = n2 := hg.nons.len
  have k2 := hg.nons.cap
  simp only [] at h1 h2 h3 k2
  have Hg := Lib.hid hg
  have hB0 := alloc_below w (.cells #[.slice a1 n1 c1, .slice a2 n2 c2, .slice a3 n3 c3, .int .i64 G.start] 26)
  have hbox := GBox.new w 26 ⟨a1, n1, c1, a2, n2, c2, a3, n3, c3⟩ G.start
  clear hg
  go_enter Tryz.func10, Tryz.ntmps10
  have ⟨z5, z0, z1, z2, z3⟩ := hbox
  simp only [] at z0 z1 z2 z3
  go_wp2_with fail
  generalize w.alloc (.cells #[.slice a1 n1 c1, .slice a2 n2 c2, .slice a3 n3 c3, .int .i64 G.start] 26) = W0 at *
  (with_reducible refine (rf_right9 ⟨a1, n1, c1, a2, n2, c2, a3, n3, c3⟩ G W0 (Hg.out.below hB0) (by simp only []; omega) (by simp only []; omega) (by simp only []; omega)).mono ?_)
  rintro e Wr ⟨rfl, hb1⟩
  have hB1 := below_tail hB0 hb1
  have hbx1 := hbox.below hb1
  clear z0 z1 z2 z3 z5 hbox
  have ⟨y5, y0, y1, y2, y3⟩ := hbx1
  simp only [] at y0 y1 y2 y3
  rcases hrt : G.right with _ | _
  · go_wp2_with fail
    go_ret2
    exact RetOrd.fail (by unfold ordG; rw [hrt]; rfl) hB1
  have Hrt := Lib.hid hrt
  have HB1 := Lib.hid hB1
  have cE := rf_Endless ⟨a1, n1, c1, a2, n2, c2, a3, n3, c3⟩ G Wr (Hg.out.below hB1) (by simp only []; omega) (by simp only []; omega) (by simp only []; omega)
  have Hord : Hid (ordG G = if endG G then ([], 10) else ((orderS (stepsN G) (useS G) G.nons.length G.nons.length).1, 0)) := Lib.hid (by unfold ordG; rw [hrt]; rfl)
  have CE := Lib.hid cE
  clear hrt hB0 hb1 hB1 cE
  go_wp2_with fail
  (with_reducible refine CE.out.mono ?_)
  rintro e W1 ⟨hb1, rfl⟩
  have HB2 := Lib.hid (below_tail HB1.out hb1)
  have hbx2 := hbx1.below hb1
  clear hb1 hbx1 y0 y1 y2 y3 y5 CE
  have ⟨y5, y0, y1, y2, y3⟩ := hbx2
  simp only [] at y0 y1 y2 y3
  rcases hend : endG G with _ | _
  case true =>
    have Hf : Hid (ordG G = ([], 10)) := Lib.hid (by rw [Hord.out, hend]; rfl)
    clear hend
    go_wp2_with fail
    go_ret2
    exact RetOrd.fail Hf.out HB2.out
  have Hf : Hid (ordG G = ((orderS (stepsN G) (useS G) n2 n2).1, 0)) := Lib.hid (by rw [Hord.out, hend, e2]; rfl)
  have hu : useG G = useS G := by unfold useG; rw [Hrt.out]; rfl
  have CN := Lib.hid fun X (hb : Below W1.heap.size W1 X) => (rf_Steps ⟨a1, n1, c1, a2, n2, c2, a3, n3, c3⟩ G X ((Hg.out.below HB2.out).below hb) (by simp only []; omega) (by simp only []; omega) (by simp only []; omega)).mono fun e w' hh => And.intro (below_tail hb hh.1) (And.intro (Lib.hid hh.1) (hh.2.resolve_left fun hc => by rw [Hrt.out] at hc; cases hc.1).2)
  have CP := Lib.hid fun X (hb : Below W1.heap.size W1 X) => (rf_useful ⟨a1, n1, c1, a2, n2, c2, a3, n3, c3⟩ G X ((Hg.out.below HB2.out).below hb) (by simp only []; omega) (by simp only []; omega) (by simp only []; omega)).mono fun e w' hh => And.intro (below_tail hb hh.1) (And.intro (Lib.hid hh.1) hh.2)
  rw [hu] at CP
  have HS : Hid (∀ W', Below W1.heap.size W1 W' → W'.cell? ⟨w.heap.size, 0, none⟩ = some (.slice a1 n1 c1) ∧ W'.cell? ⟨w.heap.size, 1, none⟩ = some (.slice a2 n2 c2) ∧ W'.cell? ⟨w.heap.size, 2, none⟩ = some (.slice a3 n3 c3) ∧ W'.cell? ⟨w.heap.size, 3, none⟩ = some (.int .i64 G.start) ∧ Below W1.heap.size W1 W') := Lib.hid fun W' hb => ⟨by rw [hb.cell (by exact y5)]; exact y0, by rw [hb.cell (by exact y5)]; exact y1, by rw [hb.cell (by exact y5)]; exact y2, by rw [hb.cell (by exact y5)]; exact y3, hb⟩
  clear hend hu
  go_upto_region 5 with fail
  go_region_held3 (fun W' => W'.cell? ⟨w.heap.size, 0, none⟩ = some (.slice a1 n1 c1) ∧ W'.cell? ⟨w.heap.size, 1, none⟩ = some (.slice a2 n2 c2) ∧ W'.cell? ⟨w.heap.size, 2, none⟩ = some (.slice a3 n3 c3) ∧ W'.cell? ⟨w.heap.size, 3, none⟩ = some (.int .i64 G.start) ∧ Below W1.heap.size W1 W')
    ((refine HS.out _ ?_; (repeat (first | assumption | exact Below.refl _ _ | refine Below.drew ?_ | refine below_alloc ?_ _ | refine below_set ?_ _ _ _ (by (first | exact Nat.le_refl _ | exact Nat.le_succ _ | exact Below.size (by assumption) | exact Nat.le_succ_of_le (Below.size (by assumption)) | (simp; done) | omega)))); done))
    (first
      | (go_at_call 13; refine (CN.out _ (by (repeat (first | assumption | exact Below.refl _ _ | refine Below.drew ?_ | refine below_alloc ?_ _ | refine below_set ?_ _ _ _ (by (first | exact Nat.le_refl _ | exact Nat.le_succ _ | exact Below.size (by assumption) | exact Nat.le_succ_of_le (Below.size (by assumption)) | (simp; done) | omega)))))).mono ?_; rintro e w2 ⟨hB2, Hb2, gS, hgS, rfl, HTN⟩)
      | (go_at_call 30; refine (CP.out _ (by (repeat (first | assumption | exact Below.refl _ _ | refine Below.drew ?_ | refine below_alloc ?_ _ | refine below_set ?_ _ _ _ (by (first | exact Nat.le_refl _ | exact Nat.le_succ _ | exact Below.size (by assumption) | exact Nat.le_succ_of_le (Below.size (by assumption)) | (simp; done) | omega)))))).mono ?_; rintro e w3 ⟨hB3, Hb3, rfl⟩))
  have HT3 : Hid (SetT w3 gS (stepsN G)) := Lib.hid (Blk.hidden HTN Hb3)
  have HB3 := Lib.hid (below_tail HB2.out hB3)
  have Hbx3 := Lib.hid (hbx2.below hB3)
  have hsl : (stepsN G).length = n2 := by rw [stepsN_len]; exact e2
  have hss := stepsN_small G
  have huu := useS_lt G
  generalize stepsN G = S at *
  generalize useS G = use at *
  have Hsl := Lib.hid hsl
  have Hss := Lib.hid hss
  have Huu := Lib.hid huu
  clear hB2 Hb2 hgS HTN Hb3 hB3 CN CP HS y0 y1 y2 y3 y5 hbx2 hsl hss huu
  go_wp2_with fail
  go_loopw [6, 7, 8] (fun o s i wr => ∃ (q : Nat) (A : Option Addr) (cp : Nat), q ≤ n2 ∧ i = .int .i64 (q : Int) ∧ o = .slice A (orderS S use n2 q).1.length cp ∧ s = .int .u32 (((orderS S use n2 q).2 : Nat) : Int) ∧
      wr.ownsRow w3.heap.size 3 1 (.slice A (orderS S use n2 q).1.length cp) (orderS S use n2 q).1.length (ints .i64 (intsOf (orderS S use n2 q).1)) ∧ Hid ((orderS S use n2 q).1.length ≤ q) ∧ Below w3.heap.size w3 wr) (fun o s i _ => n2 - (intOf i).toNat)
  case atStart => exact ⟨0, none, 0, Nat.zero_le _, rfl, rfl, rfl, World.ownsRow_nil _ _ _ _, Lib.hid (Nat.le_refl _), Below.refl _ _⟩
  case round =>
    obtain ⟨q, A, cp, hq, rfl, rfl, rfl, hown, Hlq, hbel⟩ := hrel
    have hbs := hbel.size
    have hbx := Hbx3.out.below hbel
    have ⟨y5, y0, y1, y2, y3⟩ := hbx
    simp only [] at y0 y1 y2 y3
    have hsucc := orderS_succ S use n2 q
    have hinv := orderS_inv S n2 Huu.out q
    by_cases hqq : q < n2
    case neg =>
      obtain rfl : q = n2 := by omega
      have Hown := Lib.hid hown
      have Hbel := Lib.hid hbel
      clear hsucc hinv hbx hown hbel
      go_wp2_with fail
      go_ret2
      exact RetOrd.good Hf.out (below_tail HB3.out Hbel.out) Hown.out
    case pos =>
      have hth := hinv.lt
      have Hth := Lib.hid hth
      have hlen := Hlq.out
      clear hinv hth hbx Hlq
      have hF : ∀ i, findB (pickB S use (orderS S use n2 q).2) n2 = some i → orderS S use n2 (q + 1) = ((orderS S use n2 q).1 ++ [i], (orderS S use n2 q).2 ||| bitN (i : Int)) := fun i hi => by rw [hsucc]; exact stepO_some hi
      have hN : findB (pickB S use (orderS S use n2 q).2) n2 = none → orderS S use n2 (q + 1) = orderS S use n2 q := fun hi => by rw [hsucc]; exact stepO_none hi
      clear hsucc
      generalize hst1 : orderS S use n2 (q + 1) = st1 at *
      have Hst1 := Lib.hid hst1
      clear hst1
      generalize orderS S use n2 q = st at *
      obtain ⟨l, there⟩ := st
      simp only [] at hF hN hown hlen Hth
      have HF := Lib.hid hF
      have HN := Lib.hid hN
      clear hF hN
      have Hown := Lib.hid hown
      have Hbel := Lib.hid hbel
      clear hown hbel
      simp only []
      go_wp2_with fail
      go_loop [6, 7, 9] (fun o s i => o = .slice A l.length cp ∧ s = .int .u32 (there : Int) ∧ ∃ j : Nat, j ≤ n2 ∧ i = .int .i64 (j : Int) ∧ Hid (∀ j', j' < j → pickB S use there j' = false)) (fun o s i => n2 - (intOf i).toNat)
      case atStart => exact ⟨rfl, rfl, 0, Nat.zero_le _, rfl, Lib.hid fun j h => by omega⟩
      case round =>
        obtain ⟨rfl, rfl, j, hj, rfl, Hj⟩ := hrel
        by_cases hjj : j < n2
        case neg =>
          obtain rfl : j = n2 := by omega
          have hst := HN.out (findB_none Hj.out)
          subst hst
          go_wp2_with fail
          go_roundw
          case rel =>
            refine ⟨q + 1, A, cp, by omega, by go_num, ?_⟩
            rw [Hst1.out]
            exact ⟨rfl, rfl, Hown.out, Lib.hid (Nat.le_succ_of_le hlen), Hbel.out⟩
          case measure => simp [intOf]; omega
        case pos =>
          have HTw : Hid (SetT wr gS S) := Lib.hid (Blk.ext HT3.out Hbel.out)
          have hat := HTw.out.at (i := j) (by rw [Hsl.out]; exact hjj)
          have c1H := ref_hasN use j wr Huu.out
          have c2H := ref_hasN there j wr Hth.out
          have hv := Hss.out.get j
          have han := andn32 (S.getD j 0) there hv Hth.out
          have hz := beq0_cast (andN (S.getD j 0) there)
          have hp : pickB S use there j = (use.testBit j && !there.testBit j && (andN (S.getD j 0) there == 0)) := rfl
          have hor := or32 there (bitN (j : Int)) Hth.out (bitN_lt _)
          have cB := fun X => ref_bit (j : Int) X
          generalize andN (S.getD j 0) there = z at *
          generalize S.getD j 0 = v at *
          generalize use.testBit j = b1 at *
          generalize there.testBit j = b2 at *
          generalize (z == 0) = b3 at *
          have Hp := Lib.hid hp
          have C1 := Lib.hid c1H
          have C2 := Lib.hid c2H
          have CB := Lib.hid cB
          clear c1H c2H cB hp hv
          have hno : pickB S use there j = false → Hid (∀ j', j' < j + 1 → pickB S use there j' = false) := fun hf => Lib.hid fun j' hj' => by
            rcases Nat.lt_or_ge j' j with h | h
            · exact Hj.out j' h
            · rw [show j' = j by omega]; exact hf
          have Hno := Lib.hid hno
          clear hno
          rcases (by cases b1 <;> cases b2 <;> cases b3 <;> simp : b1 = false ∨ (b1 = true ∧ b2 = true) ∨ (b1 = true ∧ b2 = false ∧ b3 = false) ∨ (b1 = true ∧ b2 = false ∧ b3 = true)) with rfl | ⟨rfl, rfl⟩ | ⟨rfl, rfl, rfl⟩ | ⟨rfl, rfl, rfl⟩
          case inr.inr.inr =>
            have hst := HF.out j (findB_some hjj (by rw [Hp.out]; rfl) Hj.out)
            subst hst
            have hown := Hown.out
            have hbw := Hbel.out.size
            have hll : (l ++ [j]).length = l.length + 1 := by simp
            have hli : ints .i64 (intsOf (l ++ [j])) = ints .i64 (intsOf l) ++ [.int .i64 (j : Int)] := by simp [ints, intsOf]
            have Hll := Lib.hid hll
            have Hli := Lib.hid hli
            clear hll hli
            go_wp2_with (first
              | (go_at_call 22; (first | (with_reducible refine C1.out.mono ?_) | (with_reducible refine C2.out.mono ?_)); rintro e w' ⟨rfl, rfl⟩)
              | (go_at_call 23; (with_reducible refine (CB.out _).mono ?_); rintro e w' ⟨rfl, rfl⟩)
              | (at_builtin; refine wpl_append1 (w := wr) rfl _ _ 29 rfl w3.heap.size 3 (.int .i64 0) 8 Tryz.underlying29 Tryz.infoInt rfl _ l.length _ _ rfl hown (.int .i64 ((j : Int))) rfl rfl (by omega) (by omega) (by omega) ?_; intro A4 c4 w2 ho hg))
            go_roundw
            case rel =>
              refine ⟨q + 1, A4, c4, by omega, by go_num, ?_⟩
              rw [Hst1.out]
              refine ⟨?_, rfl, ?_, Lib.hid (by show (l ++ [j]).length ≤ q + 1; rw [Hll.out]; omega), below_append Hbel.out hg hown hbw⟩
              · show _ = Value.slice A4 (l ++ [j]).length c4
                rw [Hll.out]
              · show w2.ownsRow w3.heap.size 3 1 (.slice A4 (l ++ [j]).length c4) (l ++ [j]).length (ints .i64 (intsOf (l ++ [j])))
                rw [Hll.out, Hli.out]
                exact ho
            case measure => simp [intOf]; omega
          all_goals
            have hf := Hno.out (by rw [Hp.out]; rfl)
            go_wp2_with (go_at_call 22; (first | (with_reducible refine C1.out.mono ?_) | (with_reducible refine C2.out.mono ?_)); rintro e w' ⟨rfl, rfl⟩)
            go_round
            case rel => exact ⟨rfl, rfl, j + 1, by omega, by go_num, hf⟩
            case measure => simp [intOf]; omega
end Go.Proofs.YtfdbpafenhdkbaaGreatDoor
