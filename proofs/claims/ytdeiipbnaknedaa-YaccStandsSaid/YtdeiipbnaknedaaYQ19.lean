/- yacc: the program's reader: group. -/
import Derived.Test.YtdeiipbnaknedaaYQ18
import Derived.Deep.DeepCutAuto
import Derived.Deep.CutRange
import Derived.Deep.RegionWith
namespace Go.Proofs.Ytdeiipbnaknedaa
open Go.RowKit
set_option linter.unusedVariables false
set_option linter.unusedSimpArgs false

/-- what 'group' hands back -/
def GroupV (w : World) (ps : List PrdY) (e : Ending) (w' : World) : Prop := ∃ A c zs, e = .returned (.slice A ps.length c) ∧ zs.map WithY.val = ps ∧
  w'.ownsRow w.heap.size 44 5 (.slice A ps.length c) ps.length (zs.flatMap prdCells) ∧ InY PrdY.right w' (fun b => w.heap.size ≤ b ∧ (Value.slice A ps.length c).ownBlock ≠ some b) zs
/-- what holds at the label 'again' -/
def GrpJ (W1 : World) (p : Nat) (en : List Nat) (left : RefY) (R : ResY (List PrdY)) (lst : Value) (wr : World) : Prop :=
  ∃ (d c q : Nat) (A : Option Addr) (zs : List (WithY PrdY)) (us : List Tok), lst = .slice A d c ∧ d + us.length ≤ 4000 ∧ Hid (d = zs.length) ∧ Hid (us.length + 1 ≤ q) ∧ Hid (altsY en left q us (zs.map WithY.val) = R) ∧
    Hid (wr.ownsRow W1.heap.size 44 5 (.slice A d c) d (zs.flatMap prdCells)) ∧ Hid (InY PrdY.right wr (fun b => W1.heap.size ≤ b ∧ (Value.slice A d c).ownBlock ≠ some b) zs) ∧ Hid (YrAt wr p en us) ∧ Hid (W1.grownBy wr (some p))
theorem refsY_len (us : List Tok) : (refsY us).1.length + (refsY us).2.length = us.length := by
  induction us with
  | nil => rfl
  | cons t us ih =>
    rw [refsY]
    split
    · simp only [List.length_cons]; omega
    · simp
/-- what holds at the label, frame and all -/
def GrpF (w : World) (p : Nat) (en : List Nat) (Rf : ResY (List PrdY)) (a' : Act) (wr : World) : Prop :=
  ∃ (W1 : World) (g x y : Nat) (left : RefY) (lst u4 u5 u6 u7 u8 u9 u10 u11 u12 u13 u14 u15 u16 u17 u18 u19 u20 u21 u22 u23 u24 u25 u26 u27 u28 u29 u30 u31 u32 u33 u34 u35 u36 u37 u38 : Value), Hid (PA left.2 = .complex .f64 x y) ∧ Hid (Blk W1 g 40 #[.string (str left.1), .complex .f64 x y]) ∧ g ≠ p ∧ p < W1.heap.size ∧ Hid (w.grownBy W1 (some p)) ∧ Hid (GrpJ W1 p en left Rf lst wr) ∧
    a' = { tmps := (.pointer (some ⟨p, 0, none⟩) :: undef :: lst :: .pointer (some ⟨g, 0, none⟩) :: u4 :: u5 :: u6 :: u7 :: u8 :: u9 :: u10 :: u11 :: u12 :: u13 :: u14 :: u15 :: u16 :: u17 :: u18 :: u19 :: u20 :: u21 :: u22 :: u23 :: u24 :: u25 :: u26 :: u27 :: u28 :: u29 :: u30 :: u31 :: u32 :: u33 :: u34 :: u35 :: u36 :: u37 :: u38 :: []).toArray, defers := [] }
def remF (p : Nat) (wr : World) : Nat := remY wr p

set_option maxRecDepth 20000 in
set_option maxHeartbeats 2000000 in
theorem yc_group (p : Nat) (en : List Nat) (ts : List Tok) (w : World) (h : YrAt w p en ts) :
    Calls Try.prog 56 #[.pointer (some ⟨p, 0, none⟩)] w (RetY w p en (GroupV w) (groupY en ts)) := by
  have hl := h.len
  have hp := h.lt
  have ksc : ∀ (w : World) (a : Addr) (k : FloatKind) (x y : Nat) (m : Mode), (store a (.complex k x y) m).run Try.prog w = stored Try.prog w a (.complex k x y) m := fun w a k x y m => run_store Try.prog w a _ m rfl
  have H := Lib.hid h
  obtain ⟨Rf, hRf⟩ : ∃ Rf, groupY en ts = Rf := ⟨_, rfl⟩
  rw [hRf]
  have HRf := Lib.hid hRf
  clear hRf h
  go_enter Try.func56, Try.ntmps56
  go_wp2_with fail
  refine wp_scope_pre2 0 (GrpF w p en Rf) (fun _ wr => remF p wr) (by rfl) (by rfl) ?first ?pass
  case first =>
    intro Y R hY hpan
    have HY := Lib.hid hY
    clear hY
    have hRf := HRf.out
    unfold groupY at hRf
    cases hT1 : takeY en [1] ts with
    | bad pre er =>
      rw [hT1] at hRf
      obtain ⟨x, y, hxy⟩ := PA_form pre
      have CT := Lib.hid (yc_take_bad p en ts [1] 1 rfl (by decide) w H.out #[.int .i64 1] rfl _ rfl pre er hT1 x y hxy)
      have hRf : ResY.bad pre er = Rf := hRf
      subst hRf
      have hpan2 : ∀ a w2, w.grownBy w2 (some p) → a.defers = [] → R (.panic [{ v := .iface 68 (.agg #[.complex .f64 x y, .int .i64 (er : Int)]), recovered := false }]) a w2 := fun a w2 hg hd => hpan _ _ _ ⟨hd, by
        refine ⟨?_, hg⟩
        unfold wrongY
        rw [hxy]⟩
      clear hT1 hxy H hpan HRf
      go_wp2_with (go_at_call 55; (with_reducible refine CT.out.mono ?_); rintro e w2 ⟨rfl, hg2⟩)
      exact hpan2 _ _ hg2 rfl
    | ok left r =>
      rw [hT1] at hRf
      have hRf : ((takeY en [10] r).bind fun _ r' => altsY en left (r'.length + 1) r' []) = Rf := hRf
      obtain ⟨x, y, hxy⟩ := PA_form left.2
      have CT := Lib.hid (yc_take_ok p en ts [1] 1 rfl (by decide) w H.out #[.int .i64 1] rfl _ rfl left r hT1 x y hxy)
      have hlen1 := (takeY_tail hT1).len
      cases hT2 : takeY en [10] r with
      | bad pre er =>
        rw [hT2] at hRf
        have hRf : ResY.bad pre er = Rf := hRf
        subst hRf
        obtain ⟨x2, y2, hxy2⟩ := PA_form pre
        have CT2 := Lib.hid fun (W : World) (hW : YrAt W p en r) => yc_take_bad p en r [10] 1 rfl (by decide) W hW #[.int .i64 10] rfl _ rfl pre er hT2 x2 y2 hxy2
        have hpan2 : ∀ a w2, w.grownBy w2 (some p) → a.defers = [] → R (.panic [{ v := .iface 68 (.agg #[.complex .f64 x2 y2, .int .i64 (er : Int)]), recovered := false }]) a w2 := fun a w2 hg hd => hpan _ _ _ ⟨hd, by
          refine ⟨?_, hg⟩
          unfold wrongY
          rw [hxy2]⟩
        clear hT1 hT2 hxy hxy2 H hpan HRf hlen1
        generalize str left.1 = L at *
        go_wp2_with (first
          | (go_at_call 55; (with_reducible refine CT.out.mono ?_); rintro e w2 ⟨rfl, hr2, hg2⟩
             have hr2' := hr2.below (alloc_below w2 (.cells #[.string L, .complex .f64 x y] 40))
             have hga : w2.grownBy (w2.alloc (.cells #[.string L, .complex .f64 x y] 40)) (some p) := grown_below _ (alloc_below _ _)
             have CT3 := Lib.hid (CT2.out _ hr2')
             rw [alloc_size] at CT3)
          | (go_at_call 55; (with_reducible refine CT3.out.mono ?_); rintro e w3 ⟨rfl, hg3⟩))
        exact hpan2 _ _ (grown_trans hg2 (grown_trans hga hg3)) rfl
      | ok lf2 r' =>
        rw [hT2] at hRf
        have hRf : altsY en left (r'.length + 1) r' [] = Rf := hRf
        obtain ⟨x2, y2, hxy2⟩ := PA_form lf2.2
        have CT2 := Lib.hid fun (W : World) (hW : YrAt W p en r) => yc_take_ok p en r [10] 1 rfl (by decide) W hW #[.int .i64 10] rfl _ rfl lf2 r' hT2 x2 y2 hxy2
        have hlen2 := (takeY_tail hT2).len
        have HRf2 := Lib.hid hRf
        have Hxy := Lib.hid hxy
        clear hT1 hT2 hxy hxy2 H hpan HRf hRf
        generalize hL : str left.1 = L at *
        generalize str lf2.1 = L2 at *
        go_wp2_with (first
          | (go_at_call 55; (with_reducible refine CT.out.mono ?_); rintro e w2 ⟨rfl, hr2, hg2⟩
             have hr2' := hr2.below (alloc_below w2 (.cells #[.string L, .complex .f64 x y] 40))
             have hga : w2.grownBy (w2.alloc (.cells #[.string L, .complex .f64 x y] 40)) (some p) := grown_below _ (alloc_below _ _)
             have hbk := Blk.new w2 40 #[.string L, .complex .f64 x y]
             have hg2s := hg2.size
             have CT3 := Lib.hid (CT2.out _ hr2')
             rw [alloc_size] at CT3)
          | (go_at_call 55; (with_reducible refine CT3.out.mono ?_); rintro e w3 ⟨rfl, hr3, hg3⟩))
        rename_i K hK
        refine wp_label (hK _ _ ?_)
        have hbk3 := hbk.grown hg3 (by intro e; injection e with e; omega)
        have hgW := grown_trans hg2 (grown_trans hga hg3)
        refine HY.out _ _ ⟨w3, w2.heap.size, x, y, left, .slice none 0 0, _, _, _, _, _, _, _, _, _, _, _, _, _, _, _, _, _, _, _, _, _, _, _, _, _, _, _, _, _, _, _, _, _, _, _, Hxy, Lib.hid ?_, by omega, hr3.lt, Lib.hid hgW, Lib.hid ?_, rfl⟩
        · rw [hL]
          exact hbk3
        · exact ⟨0, 0, r'.length + 1, none, [], r', rfl, by omega, Lib.hid rfl, Lib.hid (Nat.le_refl _), HRf2, Lib.hid (World.ownsRow_nil _ _ _ _), Lib.hid (InY.nil _ _ _), Lib.hid hr3, Lib.hid (grown_refl _ _)⟩
  case pass =>
    rintro a' wr ⟨W1, g, x, y, left, lst, u4, u5, u6, u7, u8, u9, u10, u11, u12, u13, u14, u15, u16, u17, u18, u19, u20, u21, u22, u23, u24, u25, u26, u27, u28, u29, u30, u31, u32, u33, u34, u35, u36, u37, u38, Hxy, Hbk, hgp, hpW, HgW, Hj, rfl⟩
    obtain ⟨d, c, q, A, zs, us, rfl, hdu, Hd, Hq, Hk, Ho, Hc, Hr, Hg⟩ := Hj.out
    obtain ⟨q, rfl⟩ : ∃ q', q = q' + 1 := ⟨q - 1, by have := Hq.out; omega⟩
    have hst : Rf = ((precY en (refsY us).2).bind fun pr r =>
      if nextY [11] r then (takeY en [11] r).bind fun _ r' => altsY en left q r' (zs.map WithY.val ++ [⟨left, (refsY us).1, pr⟩])
      else (takeY en [12] r).bind fun _ r' => .ok (zs.map WithY.val ++ [⟨left, (refsY us).1, pr⟩]) r') := by
      rw [← Hk.out]
      rfl
    have hlen := refsY_len us
    have CR := Lib.hid fun (W : World) (hW : YrAt W p en us) => yc_refs p en us W hW
    unfold RefsV at CR
    have hi5 : (Try.prog.info? 44).map (fun i => (i.zero, i.size, i.bytes)) = some (some (.agg #[.string ⟨#[]⟩, .complex .f64 0 0, .slice none 0 0, .string ⟨#[]⟩, .complex .f64 0 0]), 5, 88) := by kernel_rfl
    have Hi := Lib.hid hi5
    have hgr0 := Hbk.out.lt
    have hbk4 := Hbk.out.grown Hg.out (by intro e; injection e with e; omega)
    have g0 : wr.cell? ⟨g, 0, none⟩ = some (.string (str left.1)) := hbk4.cell 0
    have g1 : wr.cell? ⟨g, 1, none⟩ = some (.complex .f64 x y) := hbk4.cell 1
    have hgr : g < wr.heap.size := hbk4.lt
    have Hst := Lib.hid hst
    have Hlen := Lib.hid hlen
    have Hrem : Hid (remF p wr = us.length) := Lib.hid Hr.out.rem
    clear hi5 hst hbk4 Hk Hj hlen
    generalize hL : str left.1 = L at *
    generalize (refsY us).1 = rs at *
    generalize (refsY us).2 = u1 at *
    go_upto_region 3 with fail
    go_cut [4] (fun v wx => ∃ gB Ar cr, v = .pointer (some ⟨gB, 0, none⟩) ∧ MidY wr wx p gB Ar cr en L x y rs ⟨#[]⟩ 0 0 u1)
    case first =>
      have HrA := Lib.hid (Hr.out.below (alloc_below wr (.cells #[.string ⟨#[]⟩, .complex .f64 0 0, .slice none 0 0, .string ⟨#[]⟩, .complex .f64 0 0] 44)).drew)
      have a0 := ((alloc_below wr (.cells #[.string ⟨#[]⟩, .complex .f64 0 0, .slice none 0 0, .string ⟨#[]⟩, .complex .f64 0 0] 44)).drew.cell (p := ⟨g, 0, none⟩) hgr).trans g0
      have a1 := ((alloc_below wr (.cells #[.string ⟨#[]⟩, .complex .f64 0 0, .slice none 0 0, .string ⟨#[]⟩, .complex .f64 0 0] 44)).drew.cell (p := ⟨g, 1, none⟩) hgr).trans g1
      have hgrA : g < (wr.alloc (.cells #[.string ⟨#[]⟩, .complex .f64 0 0, .slice none 0 0, .string ⟨#[]⟩, .complex .f64 0 0] 44)).drew.heap.size := Nat.lt_of_lt_of_le hgr (alloc_below wr _).size
      have hpr : p < wr.heap.size := Hr.out.lt
      have hcl : ∀ W w2 : World, W.grownBy w2 (some p) → g < W.heap.size → W.cell? ⟨g, 0, none⟩ = some (.string L) → W.cell? ⟨g, 1, none⟩ = some (.complex .f64 x y) → w2.cell? ⟨g, 0, none⟩ = some (.string L) ∧ w2.cell? ⟨g, 1, none⟩ = some (.complex .f64 x y) :=
        fun W w2 h1 h2 h3 h4 => ⟨(grown_frozen h1 h2 hgp).trans h3, (grown_frozen h1 h2 hgp).trans h4⟩
      go_region_with (first
        | (go_at_call 67; refine (CR.out _ (by exact Hr.out)).mono ?_; rintro e w2 ⟨⟨Ar, cr, rfl, ho2⟩, hr2, hg2⟩; obtain ⟨f0, f1⟩ := hcl _ _ hg2 hgr g0 g1; have hgs : g < w2.heap.size := Nat.lt_of_lt_of_le hgr hg2.size)
        | (go_at_call 67; refine (CR.out _ (by exact HrA.out)).mono ?_; rintro e w2 ⟨⟨Ar, cr, rfl, ho2⟩, hr2, hg2⟩; obtain ⟨f0, f1⟩ := hcl _ _ hg2 hgrA a0 a1
           have hgs : g < w2.heap.size := Nat.lt_of_lt_of_le hgrA hg2.size
           have hbB : Blk w2 wr.heap.size 44 #[.string ⟨#[]⟩, .complex .f64 0 0, .slice none 0 0, .string ⟨#[]⟩, .complex .f64 0 0] := Blk.grown (Blk.drew (Blk.new wr _ _)) hg2 (by intro e; injection e with e; omega)
           have v0 := hbB.frozen 0
           have v1 := hbB.frozen 1
           have v2 := hbB.frozen 2
           have v3 := hbB.frozen 3
           have v4 := hbB.frozen 4
           have z0 : w2.cell? ⟨wr.heap.size, 0, none⟩ = some (.string ⟨#[]⟩) := hbB.cell 0
           have z1 : w2.cell? ⟨wr.heap.size, 1, none⟩ = some (.complex .f64 0 0) := hbB.cell 1
           have z2 : w2.cell? ⟨wr.heap.size, 2, none⟩ = some (.slice none 0 0) := hbB.cell 2
           have z3 : w2.cell? ⟨wr.heap.size, 3, none⟩ = some (.string ⟨#[]⟩) := hbB.cell 3
           have z4 : w2.cell? ⟨wr.heap.size, 4, none⟩ = some (.complex .f64 0 0) := hbB.cell 4
           have HbB := Lib.hid hbB
           clear hbB))
      all_goals
        go_wp2_with fail
        go_meet
        first
          | exact ⟨_, Ar, cr, rfl, MidY.late hg2 ho2 hr2⟩
          | exact ⟨_, Ar, cr, rfl, MidY.early hpr hg2 ho2 hr2 HbB.out⟩
    case rest =>
      obtain ⟨gB, Ar, cr, rfl, hM⟩ := hcut
      have HM := Lib.hid hM
      have hpr : p < wr.heap.size := Hr.out.lt
      have CN := Lib.hid (yc_next p en u1 [8] 1 rfl (by decide) wc hM.rd #[.int .i64 8] rfl _ rfl)
      have hAB := alloc_below wc (.cells #[.int .i64 8] 3)
      have HM1 := Lib.hid (hM.step (grown_below (some p) hAB) (hM.rd.below hAB) hpr)
      clear CR g0 g1 hM hAB
      go_upto_if 17 with (go_at_call 53; (with_reducible refine CN.out.mono ?_); rintro e w2 ⟨rfl, rfl⟩)
      go_cut [] from 5 (fun wx => ∃ (pr : Option RefY) (r : List Tok) (s : ByteArray) (x2 y2 : Nat), Hid (precY en u1 = .ok pr r) ∧ Hid (precCells pr = [.string s, .complex .f64 x2 y2]) ∧ MidY wr wx p gB Ar cr en L x y rs s x2 y2 r)
      case first =>
        have hpost : ∀ (pre : List Nat) (er : Nat) (x3 y3 : Nat) (w3 : World), Rf = .bad pre er → PA pre = .complex .f64 x3 y3 → wr.grownBy w3 (some p) → RetY w p en (GroupV w) Rf (.panicked [{ v := .iface 68 (.agg #[.complex .f64 x3 y3, .int .i64 (er : Int)]), recovered := false }]) w3 := fun pre er x3 y3 w3 h1 h2 h3 => by
          rw [h1]
          refine ⟨?_, grown_trans HgW.out (grown_trans Hg.out h3)⟩
          unfold wrongY
          rw [h2]
        cases hb : nextY [8] u1 with
        | false =>
          have Hpc : Hid (precY en u1 = .ok none u1) := Lib.hid (by unfold precY; rw [hb]; rfl)
          clear hb CN
          go_wp2_with fail
          go_meet
          exact ⟨none, u1, ⟨#[]⟩, 0, 0, Hpc, Lib.hid rfl, HM1.out⟩
        | true =>
          cases u1 with
          | nil => cases hb
          | cons t u2 =>
            have hT8 : takeY en [8] (t :: u2) = .ok t.2 u2 := by
              have h8 : [8].contains t.1 = true := hb
              simp only [takeY, h8, if_true]
            have hpr2 : precY en (t :: u2) = (takeY en [1, 2] u2).bind fun n r' => .ok (some n) r' := by
              unfold precY
              rw [hb, if_pos rfl, hT8]
              rfl
            obtain ⟨x8, y8, hxy8⟩ := PA_form t.2.2
            have C8 := Lib.hid (yc_take_ok p en (t :: u2) [8] 1 rfl (by decide) _ HM1.out.rd #[.int .i64 8] rfl (wc.heap.size + 1) (by simp) t.2 u2 hT8 x8 y8 hxy8)
            cases hT : takeY en [1, 2] u2 with
            | bad pre er =>
              obtain ⟨x3, y3, hxy3⟩ := PA_form pre
              have hRb : Rf = .bad pre er := by rw [Hst.out, hpr2, hT]; rfl
              have C12 := Lib.hid fun (W : World) (hW : YrAt W p en u2) => yc_take_bad p en u2 [1, 2] 2 rfl (by decide) W hW #[.int .i64 1, .int .i64 2] rfl _ rfl pre er hT x3 y3 hxy3
              have hpo := fun w3 => hpost pre er x3 y3 w3 hRb hxy3
              clear hb CN hT8 hpr2 hxy8 hT hxy3 hRb hpost
              generalize str t.2.1 = s8 at *
              go_wp2_with (first
                | (go_at_call 55; (with_reducible refine C8.out.mono ?_); rintro e w3 ⟨rfl, hr3, hg3⟩)
                | (go_at_call 55; (with_reducible refine (C12.out _ hr3).mono ?_); rintro e w4 ⟨rfl, hg4⟩))
              rw [jumps_panic]
              exact ⟨rfl, hpo _ (grown_trans HM1.out.gr (grown_trans hg3 hg4))⟩
            | ok v u3 =>
              obtain ⟨x3, y3, hxy3⟩ := PA_form v.2
              have hpr3 : precY en (t :: u2) = .ok (some v) u3 := by rw [hpr2, hT]; rfl
              have C12 := Lib.hid fun (W : World) (hW : YrAt W p en u2) => yc_take_ok p en u2 [1, 2] 2 rfl (by decide) W hW #[.int .i64 1, .int .i64 2] rfl _ rfl v u3 hT x3 y3 hxy3
              have Hpc := Lib.hid hpr3
              have Hcs : Hid (precCells (some v) = [.string (str v.1), .complex .f64 x3 y3]) := Lib.hid (by rw [← hxy3]; rfl)
              clear hb CN hT8 hpr2 hxy8 hT hxy3 hpr3 hpost
              generalize str t.2.1 = s8 at *
              generalize str v.1 = s12 at *
              go_wp2_with (first
                | (go_at_call 55; (with_reducible refine C8.out.mono ?_); rintro e w3 ⟨rfl, hr3, hg3⟩)
                | (go_at_call 55; (with_reducible refine (C12.out _ hr3).mono ?_); rintro e w4 ⟨rfl, hr4, hg4⟩
                   have hM4 := (HM1.out.step hg3 hr3 hpr).step hg4 hr4 hpr
                   have k3 : w4.cell? ⟨gB, 3, none⟩ = some (.string ⟨#[]⟩) := hM4.blk.cell 3
                   have k4 : w4.cell? ⟨gB, 4, none⟩ = some (.complex .f64 0 0) := hM4.blk.cell 4
                   have f3 := hM4.blk.frozen 3
                   have f4 := hM4.blk.frozen 4
                   have HM4 := Lib.hid hM4
                   clear hM4))
              go_meet
              exact ⟨some v, u3, s12, x3, y3, Hpc, Hcs, HM4.out.prec hpr s12 x3 y3⟩
      case rest =>
        obtain ⟨pr, r, s, x2, y2, Hpr, Hcs, hM⟩ := hcut
        have k0 : wc.cell? ⟨gB, 0, none⟩ = some (.string L) := hM.blk.cell 0
        have k1 : wc.cell? ⟨gB, 1, none⟩ = some (.complex .f64 x y) := hM.blk.cell 1
        have k2 : wc.cell? ⟨gB, 2, none⟩ = some (.slice Ar rs.length cr) := hM.blk.cell 2
        have k3 : wc.cell? ⟨gB, 3, none⟩ = some (.string s) := hM.blk.cell 3
        have k4 : wc.cell? ⟨gB, 4, none⟩ = some (.complex .f64 x2 y2) := hM.blk.cell 4
        have hst2 : Rf = (if nextY [11] r then (takeY en [11] r).bind fun _ r' => altsY en left q r' (zs.map WithY.val ++ [⟨left, rs, pr⟩])
          else (takeY en [12] r).bind fun _ r' => .ok (zs.map WithY.val ++ [⟨left, rs, pr⟩]) r') := by
          rw [Hst.out, Hpr.out]
          rfl
        have hrl : r.length ≤ u1.length := (precY_ok Hpr.out).2.len
        have Hst2 := Lib.hid hst2
        have Hrl := Lib.hid hrl
        have HM2 := Lib.hid hM
        have Ho2 := Lib.hid (own_grown Ho.out hM.gr hpW)
        have hbs : W1.heap.size ≤ wc.heap.size := Nat.le_trans Hg.out.size hM.gr.size
        have Hnew : Hid (zs.flatMap prdCells ++ [.string L, .complex .f64 x y, .slice Ar rs.length cr, .string s, .complex .f64 x2 y2] = (zs ++ ([⟨⟨left, rs, pr⟩, Ar, cr⟩] : List (WithY PrdY))).flatMap prdCells) := Lib.hid (by
          rw [List.flatMap_append]
          congr 1
          show _ = prdCells ⟨⟨left, rs, pr⟩, Ar, cr⟩ ++ []
          rw [List.append_nil]
          unfold prdCells
          rw [hL, Hxy.out, Hcs.out])
        have hlen2 := Hlen.out
        have hdm : d + 1 ≤ 4002 := by omega
        clear hM CN HM HM1 hst2 hrl
        cases hb : nextY [11] r with
        | true =>
          cases r with
          | nil => cases hb
          | cons t r2 =>
            have hT : takeY en [11] (t :: r2) = .ok t.2 r2 := by
              have h8 : [11].contains t.1 = true := hb
              simp only [takeY, h8, if_true]
            have Hst3 : Hid (Rf = altsY en left q r2 (zs.map WithY.val ++ [⟨left, rs, pr⟩])) := Lib.hid (by rw [Hst2.out, hb, if_pos rfl, hT]; rfl)
            obtain ⟨x8, y8, hxy8⟩ := PA_form t.2.2
            have C11 := Lib.hid fun (W : World) (hW : YrAt W p en (t :: r2)) => yc_next p en (t :: r2) [11] 1 rfl (by decide) W hW #[.int .i64 11] rfl _ rfl
            rw [hb] at C11
            have CT := Lib.hid fun (W : World) (hW : YrAt W p en (t :: r2)) => yc_take_ok p en (t :: r2) [11] 1 rfl (by decide) _ (hW.below (alloc_below W (.cells #[.int .i64 11] 3))) #[.int .i64 11] rfl (W.heap.size + 1) (by simp) t.2 r2 hT x8 y8 hxy8
            clear hb hT hxy8 Hst2 Hst
            generalize str t.2.1 = s8 at *
            go_wp2_with (first
              | (go_at_call 53; (with_reducible refine (C11.out _ hr4).mono ?_); rintro e w5 ⟨rfl, rfl⟩)
              | (go_at_call 55; (with_reducible refine (CT.out _ hr4).mono ?_); rintro e w5 ⟨rfl, hr5, hg5⟩)
              | (at_builtin; refine wpl_appendT rfl _ _ 25 rfl W1.heap.size 44 _ 5 88 Try.underlying25 Hi.out (by decide) (by decide) A d c (zs.flatMap prdCells) rfl Ho2.out [.string L, .complex .f64 x y, .slice Ar rs.length cr, .string s, .complex .f64 x2 y2] rfl rfl (by simp [Value.oneCell']) (by omega) (by omega) hbs ?_; intro A4 c4 w4 ho hgr4 ha4
                 have hmk := prd_moreY ⟨left, rs, pr⟩ rfl hpW Hg.out Ho.out Hc.out HM2.out hgr4 ha4
                 have HP := Lib.hid hmk.1
                 have HG := Lib.hid hmk.2.1
                 have hr4 := hmk.2.2
                 rw [Hnew.out] at ho
                 have Ho4 := Lib.hid ho
                 clear hmk ho hgr4 ha4))
            have hg45 : w4.grownBy w5 (some p) := grown_trans (grown_below (some p) (alloc_below w4 (.cells #[.int .i64 11] 3))) hg5
            have hr2l := Hrl.out
            simp only [List.length_cons] at hr2l
            have hdr : d + 1 + r2.length ≤ 4000 := by omega
            have hqr : r2.length + 1 ≤ q := by have := Hq.out; omega
            have hmeas : remF p w5 < remF p wr := by
              rw [Hrem.out]
              show remY w5 p < us.length
              rw [hr5.rem]
              omega
            have hd2 : d + 1 = (zs ++ ([⟨⟨left, rs, pr⟩, Ar, cr⟩] : List (WithY PrdY))).length := by rw [List.length_append, ← Hd.out]; rfl
            have hk2 : altsY en left q r2 ((zs ++ ([⟨⟨left, rs, pr⟩, Ar, cr⟩] : List (WithY PrdY))).map WithY.val) = Rf := by rw [List.map_append, Hst3.out]; rfl
            have hbk2 : Blk W1 g 40 #[.string (str left.1), .complex .f64 x y] := by rw [hL]; exact Hbk.out
            go_step3
            refine ⟨rfl, ⟨W1, g, x, y, left, .slice A4 (d + 1) c4, _, _, _, _, _, _, _, _, _, _, _, _, _, _, _, _, _, _, _, _, _, _, _, _, _, _, _, _, _, _, _, _, _, _, _, Hxy, Lib.hid hbk2, hgp, hpW, HgW, Lib.hid ⟨d + 1, c4, q, A4, _, r2, rfl, hdr, Lib.hid hd2, Lib.hid hqr, Lib.hid hk2, Lib.hid (own_grown Ho4.out hg45 hpW), Lib.hid (HP.out.grown hg45 hpW), Lib.hid hr5, Lib.hid (grown_trans HG.out hg45)⟩, rfl⟩, hmeas⟩
        | false =>
          have C11 := Lib.hid fun (W : World) (hW : YrAt W p en r) => yc_next p en r [11] 1 rfl (by decide) W hW #[.int .i64 11] rfl _ rfl
          rw [hb] at C11
          have Hst3 : Hid (Rf = (takeY en [12] r).bind fun _ r' => .ok (zs.map WithY.val ++ [⟨left, rs, pr⟩]) r') := Lib.hid (by rw [Hst2.out, hb]; rfl)
          have hWs : w.heap.size ≤ W1.heap.size := HgW.out.size
          cases hT : takeY en [12] r with
          | bad pre er =>
            obtain ⟨x3, y3, hxy3⟩ := PA_form pre
            have hRb : Rf = .bad pre er := by rw [Hst3.out, hT]; rfl
            have CT := Lib.hid fun (W : World) (hW : YrAt W p en r) => yc_take_bad p en r [12] 1 rfl (by decide) _ (hW.below (alloc_below W (.cells #[.int .i64 11] 3))) #[.int .i64 12] rfl (W.heap.size + 1) (by simp) pre er hT x3 y3 hxy3
            have hpost : ∀ (w3 : World), W1.grownBy w3 (some p) → RetY w p en (GroupV w) Rf (.panicked [{ v := .iface 68 (.agg #[.complex .f64 x3 y3, .int .i64 (er : Int)]), recovered := false }]) w3 := fun w3 h3 => by
              rw [hRb]
              refine ⟨?_, grown_trans HgW.out h3⟩
              unfold wrongY
              rw [hxy3]
            clear hb hT Hst2 Hst Hst3 hxy3 hRb
            go_wp2_with (first
              | (go_at_call 53; (with_reducible refine (C11.out _ hr4).mono ?_); rintro e w5 ⟨rfl, rfl⟩)
              | (go_at_call 55; (with_reducible refine (CT.out _ hr4).mono ?_); rintro e w5 ⟨rfl, hg5⟩)
              | (at_builtin; refine wpl_appendT rfl _ _ 25 rfl W1.heap.size 44 _ 5 88 Try.underlying25 Hi.out (by decide) (by decide) A d c (zs.flatMap prdCells) rfl Ho2.out [.string L, .complex .f64 x y, .slice Ar rs.length cr, .string s, .complex .f64 x2 y2] rfl rfl (by simp [Value.oneCell']) (by omega) (by omega) hbs ?_; intro A4 c4 w4 ho hgr4 ha4
                 have hmk := prd_moreY ⟨left, rs, pr⟩ rfl hpW Hg.out Ho.out Hc.out HM2.out hgr4 ha4
                 have HP := Lib.hid hmk.1
                 have HG := Lib.hid hmk.2.1
                 have hr4 := hmk.2.2
                 rw [Hnew.out] at ho
                 have Ho4 := Lib.hid ho
                 clear hmk ho hgr4 ha4))
            rw [jumps_panic]
            exact ⟨rfl, hpost _ (grown_trans HG.out (grown_trans (grown_below (some p) (alloc_below w4 (.cells #[.int .i64 11] 3))) hg5))⟩
          | ok v r2 =>
            obtain ⟨x3, y3, hxy3⟩ := PA_form v.2
            have hRb : Rf = .ok (zs.map WithY.val ++ [⟨left, rs, pr⟩]) r2 := by rw [Hst3.out, hT]; rfl
            have CT := Lib.hid fun (W : World) (hW : YrAt W p en r) => yc_take_ok p en r [12] 1 rfl (by decide) _ (hW.below (alloc_below W (.cells #[.int .i64 11] 3))) #[.int .i64 12] rfl (W.heap.size + 1) (by simp) v r2 hT x3 y3 hxy3
            have hpl : (zs.map WithY.val ++ [(⟨left, rs, pr⟩ : PrdY)]).length = d + 1 := by rw [List.length_append, List.length_map, ← Hd.out]; rfl
            have hmp : (zs ++ ([⟨⟨left, rs, pr⟩, Ar, cr⟩] : List (WithY PrdY))).map WithY.val = zs.map WithY.val ++ [⟨left, rs, pr⟩] := by rw [List.map_append]; rfl
            subst hRb
            have Hpl := Lib.hid hpl
            have Hmp := Lib.hid hmp
            clear hb hT Hst2 Hst Hst3 hxy3 hpl hmp
            generalize str v.1 = s8 at *
            go_wp2_with (first
              | (go_at_call 53; (with_reducible refine (C11.out _ hr4).mono ?_); rintro e w5 ⟨rfl, rfl⟩)
              | (go_at_call 55; (with_reducible refine (CT.out _ hr4).mono ?_); rintro e w5 ⟨rfl, hr5, hg5⟩)
              | (at_builtin; refine wpl_appendT rfl _ _ 25 rfl W1.heap.size 44 _ 5 88 Try.underlying25 Hi.out (by decide) (by decide) A d c (zs.flatMap prdCells) rfl Ho2.out [.string L, .complex .f64 x y, .slice Ar rs.length cr, .string s, .complex .f64 x2 y2] rfl rfl (by simp [Value.oneCell']) (by omega) (by omega) hbs ?_; intro A4 c4 w4 ho hgr4 ha4
                 have hmk := prd_moreY ⟨left, rs, pr⟩ rfl hpW Hg.out Ho.out Hc.out HM2.out hgr4 ha4
                 have HP := Lib.hid hmk.1
                 have HG := Lib.hid hmk.2.1
                 have hr4 := hmk.2.2
                 rw [Hnew.out] at ho
                 have Ho4 := Lib.hid ho
                 clear hmk ho hgr4 ha4))
            have hg45 : w4.grownBy w5 (some p) := grown_trans (grown_below (some p) (alloc_below w4 (.cells #[.int .i64 11] 3))) hg5
            rw [jumps_ret]
            go_ret
            refine ⟨⟨A4, c4, _, by rw [Hpl.out]; rfl, Hmp.out, ?_, ?_⟩, hr5, grown_trans HgW.out (grown_trans HG.out hg45)⟩
            · rw [Hpl.out]
              exact own_late Ho4.out (fun b h1 h2 => hg45.block b h2 (by intro e; injection e with e; omega)) hWs
            · rw [Hpl.out]
              exact (HP.out.grown hg45 hpW).keep (Nat.le_refl _) fun k _ hav => ⟨rfl, Nat.le_trans hWs hav.1, hav.2⟩
end Go.Proofs.Ytdeiipbnaknedaa
