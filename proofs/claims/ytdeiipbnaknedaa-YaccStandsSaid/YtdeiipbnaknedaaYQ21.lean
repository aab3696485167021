/- yacc: the program's reader: source. -/
import Derived.Test.YtdeiipbnaknedaaYQ20
namespace Go.Proofs.Ytdeiipbnaknedaa
open Go.RowKit
set_option linter.unusedVariables false
set_option linter.unusedSimpArgs false

set_option maxRecDepth 20000 in
set_option maxHeartbeats 4000000 in
theorem yc_source (p : Nat) (en : List Nat) (ts : List Tok) (w : World) (h : YrAt w p en ts) :
    Calls Try.prog 27 #[.pointer (some ⟨p, 0, none⟩)] w (RetY w p en (SrcV w) (srcY en ts)) := by
  have hl := h.len
  have hp := h.lt
  have hiD : (Try.prog.info? 46).map (fun i => (i.zero, i.size, i.bytes)) = some (some (.agg #[.int .i64 0, .slice none 0 0]), 2, 32) := by kernel_rfl
  have HiD := Lib.hid hiD
  have hi5 : (Try.prog.info? 44).map (fun i => (i.zero, i.size, i.bytes)) = some (some (.agg #[.string ⟨#[]⟩, .complex .f64 0 0, .slice none 0 0, .string ⟨#[]⟩, .complex .f64 0 0]), 5, 88) := by kernel_rfl
  have Hi := Lib.hid hi5
  have hwrong : ∀ (pre : List Nat) (er x y : Nat), PA pre = .complex .f64 x y → (Ending.panicked [{ v := .iface 68 (.agg #[.complex .f64 x y, .int .i64 (er : Int)]), recovered := false }]) = wrongY pre er := fun pre er x y hxy => by
    unfold wrongY
    rw [hxy]
  have Hwr := Lib.hid hwrong
  obtain ⟨Rf, hRf⟩ : ∃ Rf, srcY en ts = Rf := ⟨_, rfl⟩
  have HR0 : Hid ((declsY en (ts.length + 1) ts []).bind (contD en) = Rf) := Lib.hid (by rw [← hRf]; rfl)
  rw [hRf]
  have hB0 := alloc_below w (.cells #[.slice none 0 0, .slice none 0 0] 27)
  have hbk0 := Blk.new w 27 #[.slice none 0 0, .slice none 0 0]
  have hr0 := h.below hB0
  have hsz0 : (w.alloc (.cells #[.slice none 0 0, .slice none 0 0] 27)).heap.size = w.heap.size + 1 := alloc_size _ _
  have Hg0 := Lib.hid (grown_below (some p) hB0)
  obtain ⟨gS, Hgs⟩ : ∃ g, Hid (w.heap.size = g) := ⟨_, Lib.hid rfl⟩
  rw [Hgs.out] at hbk0 hsz0
  have Hbk0 := Lib.hid hbk0
  have Hr0 := Lib.hid hr0
  have hpS : p < gS := by rw [← Hgs.out]; exact hp
  clear hiD hi5 hwrong hRf hB0 hbk0 hr0 h
  go_enter Try.func27, Try.ntmps27
  go_wp2_with fail
  rw [Hgs.out]
  generalize w.alloc (.cells #[.slice none 0 0, .slice none 0 0] 27) = W0 at *
  go_loopw [] (fun wr => ∃ (d c q : Nat) (A : Option Addr) (zs : List (WithY DclY)) (us : List Tok), d + us.length ≤ 4000 ∧ gS + 1 ≤ wr.heap.size ∧ Hid (d = zs.length) ∧ Hid (us.length + 1 ≤ q) ∧ Hid ((declsY en q us (zs.map WithY.val)).bind (contD en) = Rf) ∧
      Hid (wr.ownsRow (gS + 1) 46 2 (.slice A d c) d (zs.flatMap dclCells)) ∧ Hid (InY DclY.names wr (fun b => gS + 1 ≤ b ∧ (Value.slice A d c).ownBlock ≠ some b) zs) ∧ Hid (YrAt wr p en us) ∧ Hid (w.grownBy wr (some p)) ∧
      Hid (Blk wr gS 27 #[.slice A d c, .slice none 0 0])) (fun wr => remY wr p)
  case atStart => exact ⟨0, 0, ts.length + 1, none, [], ts, by omega, by omega, Lib.hid rfl, Lib.hid (Nat.le_refl _), HR0, Lib.hid (World.ownsRow_nil _ _ _ _), Lib.hid (InY.nil _ _ _), Hr0, Hg0, Hbk0⟩
  case round =>
    obtain ⟨d, c, q, A, zs, us, hdu, hsw, Hd, Hq, Hk, Ho, Hc, Hr, Hg, Hbk⟩ := hrel
    obtain ⟨q, rfl⟩ : ∃ q', q = q' + 1 := ⟨q - 1, by have := Hq.out; omega⟩
    obtain ⟨A0, c0, _, _, _, q0, q1⟩ := Hr.out.parts
    have j0 : wr.cell? ⟨gS, 0, none⟩ = some (.slice A d c) := Hbk.out.cell 0
    by_cases hend : us = [] ∨ nextY [9] us = true
    case pos =>
      have hk2 : contD en (zs.map WithY.val) us = Rf := by
        have := Hk.out
        unfold declsY at this
        rw [if_pos hend] at this
        exact this
      cases us with
      | nil =>
        obtain ⟨x, y, hxy⟩ := PA_form en
        have hRb : Rf = .bad en 4 := by rw [← hk2]; rfl
        have CT := Lib.hid (yc_take_bad p en [] [9] 1 rfl (by decide) wr Hr.out #[.int .i64 9] rfl _ rfl en 4 rfl x y hxy)
        have hw1 := Hwr.out en 4 x y hxy
        subst hRb
        have hq0 : wr.cell? ⟨p, 0, none⟩ = some (.slice A0 0 c0) := q0
        clear hk2 hxy hend q0 Hk
        go_wp2_with (go_at_call 55; (with_reducible refine CT.out.mono ?_); rintro e w2 ⟨rfl, hg2⟩)
        exact ⟨rfl, hw1, grown_trans Hg.out hg2⟩
      | cons t r1 =>
        have hb : nextY [9] (t :: r1) = true := hend.resolve_left (by simp)
        have hT9 : takeY en [9] (t :: r1) = .ok t.2 r1 := by
          have h8 : [9].contains t.1 = true := hb
          simp only [takeY, h8, if_true]
        have hk3 : (groupY en r1).bind (fun g r2 => (groupsY en (r2.length + 1) r2 g).bind (contG en (zs.map WithY.val))) = Rf := by
          rw [← hk2]
          unfold contD
          rw [hT9]
          rfl
        obtain ⟨x9, y9, hxy9⟩ := PA_form t.2.2
        have hAB := alloc_below wr (.cells #[.int .i64 9] 3)
        have hrN := Hr.out.below hAB
        have CN := Lib.hid (yc_next p en (t :: r1) [9] 1 rfl (by decide) wr Hr.out #[.int .i64 9] rfl _ rfl)
        rw [hb] at CN
        have CT := Lib.hid (yc_take_ok p en (t :: r1) [9] 1 rfl (by decide) _ hrN #[.int .i64 9] rfl (wr.heap.size + 1) (by simp) t.2 r1 hT9 x9 y9 hxy9)
        have CG := Lib.hid fun (W : World) (hW : YrAt W p en r1) => yc_group p en r1 W hW
        have HgN := Lib.hid (grown_late Hg.out (hAB.mono Hg.out.size))
        have HoN := Lib.hid (Ho.out.alloc (.cells #[.int .i64 9] 3))
        have HcN := Lib.hid (Hc.out.keep (av' := fun b => gS + 1 ≤ b ∧ (Value.slice A d c).ownBlock ≠ some b) hAB.size fun k hk hav => ⟨hAB.block k hk, hav⟩)
        have HbkN := Lib.hid (Hbk.out.ext hAB)
        have hsN : gS + 1 ≤ (wr.alloc (.cells #[.int .i64 9] 3)).heap.size := Nat.le_trans hsw hAB.size
        have Hk3 := Lib.hid hk3
        have hn0 : (t :: r1).length = r1.length + 1 := rfl
        have hfin : ∀ (pre : List Nat) (er x y : Nat) (w2 : World), groupY en r1 = .bad pre er → PA pre = .complex .f64 x y → w.grownBy w2 (some p) → RetY w p en (SrcV w) Rf (.panicked [{ v := .iface 68 (.agg #[.complex .f64 x y, .int .i64 (er : Int)]), recovered := false }]) w2 := fun pre er x y w2 h1 h2 h3 => by
          have hRb : Rf = .bad pre er := by rw [← hk3, h1]; rfl
          rw [hRb]
          exact ⟨Hwr.out pre er x y h2, h3⟩
        have Hfin := Lib.hid hfin
        clear hend hb hT9 hk2 hk3 hxy9 hAB hrN Hk Hr Hg Ho Hc Hbk hfin
        rw [hn0] at q0 hdu
        generalize str t.2.1 = s9 at *
        go_wp2_with (first
          | (go_at_call 53; (with_reducible refine CN.out.mono ?_); rintro e w2 ⟨rfl, rfl⟩)
          | (go_at_call 55; (with_reducible refine CT.out.mono ?_); rintro e w3 ⟨rfl, hr3, hg3⟩))
        have HK3 := Lib.hid (⟨own_grown HoN.out hg3 (by omega), HcN.out.keep hg3.size fun k hk hav => ⟨hg3.block k hk (by intro e; injection e with e; have := hav.1; omega), hav.1, Nat.lt_of_lt_of_le hk hg3.size⟩, fun b hb => by have := (HoN.out.lt b hb).2; have := hg3.size; omega⟩ : DclK w3 (gS + 1) w3.heap.size A d c zs)
        have hbk3 := HbkN.out.grown hg3 (by intro e; injection e with e; omega)
        have Hbk3 := Lib.hid hbk3
        have Hg3 := Lib.hid (grown_trans HgN.out hg3)
        have hs3 : gS + 1 ≤ w3.heap.size := Nat.le_trans hsN hg3.size
        clear HoN HcN HbkN HgN hg3 hbk3 CN CT
        (with_reducible refine (CG.out _ hr3).mono ?_)
        rintro e w4 hR
        obtain ⟨G, r2, hG⟩ | ⟨pre, er, hG⟩ := ResY.ways (groupY en r1)
        rotate_left 1
        · rw [hG] at hR
          obtain ⟨x, y, hxy⟩ := PA_form pre
          obtain ⟨rfl, hg4⟩ := hR
          unfold wrongY
          rw [hxy]
          exact ⟨rfl, Hfin.out pre er x y w4 hG hxy (grown_trans Hg3.out hg4)⟩
        · rw [hG] at hR
          obtain ⟨⟨A2, c2, zs2, rfl, hm2, ho4, hP4⟩, hr4, hg4⟩ := hR
          have hlenG := groupY_len hG
          have hk4 : (groupsY en (r2.length + 1) r2 G).bind (contG en (zs.map WithY.val)) = Rf := by rw [← Hk3.out, hG]; rfl
          have Hk4 := Lib.hid hk4
          have b4 := Hbk3.out.grown hg4 (by intro e; injection e with e; omega)
          have v1 := b4.frozen 1
          have z1 : w4.cell? ⟨gS, 1, none⟩ = some (.slice none 0 0) := b4.cell 1
          have hg5 : w4.grownBy (w4.setCell ⟨gS, 1, none⟩ (.slice A2 G.length c2)) (some gS) := grown_set _ _ _ _
          have hs4 : w3.heap.size ≤ w4.heap.size := hg4.size
          have s5 := hg5.size
          have hb5 : Blk (w4.setCell ⟨gS, 1, none⟩ (.slice A2 G.length c2)) gS 27 #[.slice A d c, .slice A2 G.length c2] := b4.set 1 (.slice A2 G.length c2)
          have Hb5 := Lib.hid hb5
          have HG5 := Lib.hid (grown_late (grown_trans Hg3.out hg4) (grown_is_below hg5 (by have := Hg3.out.size; omega) (by have := Hgs.out; omega)))
          have Hr5 := Lib.hid (hr4.keep (w' := w4.setCell ⟨gS, 1, none⟩ (.slice A2 G.length c2)) s5 fun k h1 h2 => hg5.block k h2 (by intro e; injection e with e; omega))
          have Ho5 := Lib.hid (own_keepY ho4 (w' := w4.setCell ⟨gS, 1, none⟩ (.slice A2 G.length c2)) fun b h1 h2 => hg5.block b h2 (by intro e; injection e with e; omega))
          have HP5 := Lib.hid (hP4.keep (w' := w4.setCell ⟨gS, 1, none⟩ (.slice A2 G.length c2)) (av' := fun b => w3.heap.size ≤ b ∧ (Value.slice A2 G.length c2).ownBlock ≠ some b) s5 fun k hk hav => ⟨hg5.block k hk (by intro e; injection e with e; have := hav.1; omega), hav⟩)
          have HK5 := Lib.hid (((HK3.out.grown hg4 (by omega)).keep (w' := w4.setCell ⟨gS, 1, none⟩ (.slice A2 G.length c2)) s5 fun b h1 h2 h3 => hg5.block b h3 (by intro e; injection e with e; omega)))
          have hsz5 : w3.heap.size ≤ (w4.setCell ⟨gS, 1, none⟩ (.slice A2 G.length c2)).heap.size := Nat.le_trans hs4 s5
          have Hd2 : Hid (G.length = zs2.length) := Lib.hid (by rw [← hm2, List.length_map])
          have Hm2 := Lib.hid hm2
          have Hds : Hid (d = (zs.map WithY.val).length) := Lib.hid (by rw [List.length_map]; exact Hd.out)
          clear hG hk4 hr3 b4 hb5 hg5 ho4 hP4 hr4 hm2 Hbk3 Hg3 HK3 hg4 s5 hs4 Hk3 Hfin CG Hd
          go_wp2_with fail
          generalize hB3 : w3.heap.size = B3 at *
          generalize w4.setCell ⟨gS, 1, none⟩ (.slice A2 G.length c2) = W5 at *
          generalize hds : zs.map WithY.val = ds at *
          have Hds2 := Lib.hid hds
          clear hB3 hds z1 v1
          go_loopw [] (fun wr => ∃ (d2 c2 q : Nat) (A2 : Option Addr) (zs2 : List (WithY PrdY)) (us : List Tok), d2 + us.length ≤ 4000 ∧ B3 ≤ wr.heap.size ∧ Hid (d2 = zs2.length) ∧ Hid (us.length + 1 ≤ q) ∧ Hid ((groupsY en q us (zs2.map WithY.val)).bind (contG en ds) = Rf) ∧
              Hid (wr.ownsRow B3 44 5 (.slice A2 d2 c2) d2 (zs2.flatMap prdCells)) ∧ Hid (InY PrdY.right wr (fun b => B3 ≤ b ∧ (Value.slice A2 d2 c2).ownBlock ≠ some b) zs2) ∧ Hid (YrAt wr p en us) ∧ Hid (w.grownBy wr (some p)) ∧
              Hid (Blk wr gS 27 #[.slice A d c, .slice A2 d2 c2]) ∧ Hid (DclK wr (gS + 1) B3 A d c zs)) (fun wr => remY wr p)
          case atStart => exact ⟨G.length, c2, r2.length + 1, A2, zs2, r2, by omega, hsz5, Hd2, Lib.hid (Nat.le_refl _), Lib.hid (by rw [Hm2.out]; exact Hk4.out), Ho5, HP5, Hr5, HG5, Hb5, HK5⟩
          case round =>
            clear Ho5 HP5 Hr5 HG5 Hb5 HK5 Hd2 Hk4 Hm2 hsz5
            obtain ⟨d2, c3, q, A3, zs3, us, hdu, hsw, Hd, Hq, Hk, Ho, Hc, Hr, Hg, Hbk, HK⟩ := hrel
            obtain ⟨q, rfl⟩ : ∃ q', q = q' + 1 := ⟨q - 1, by have := Hq.out; omega⟩
            obtain ⟨A5, c5, _, _, _, q0, q1⟩ := Hr.out.parts
            have j0 : wr.cell? ⟨gS, 0, none⟩ = some (.slice A d c) := Hbk.out.cell 0
            have j1 : wr.cell? ⟨gS, 1, none⟩ = some (.slice A3 d2 c3) := Hbk.out.cell 1
            have f0 := Hbk.out.frozen 0
            have f1 := Hbk.out.frozen 1
            have hgSw : gS < wr.heap.size := Hbk.out.lt
            by_cases hend : us = [] ∨ nextY [9] us = true
            case pos =>
              have hk2 : contG en ds (zs3.map WithY.val) us = Rf := by
                have := Hk.out
                unfold groupsY at this
                rw [if_pos hend] at this
                exact this
              cases us with
              | nil =>
                have hRb : Rf = .ok (ds, zs3.map WithY.val) [] := by rw [← hk2]; rfl
                have hq0 : wr.cell? ⟨p, 0, none⟩ = some (.slice A5 0 c5) := q0
                have CN := Lib.hid (yc_next p en [] [9] 1 rfl (by decide) wr Hr.out #[.int .i64 9] rfl _ rfl)
                rw [show nextY [9] [] = false from rfl] at CN
                subst hRb
                clear hk2 hend q0 Hk
                go_wp2_with (go_at_call 53; (with_reducible refine CN.out.mono ?_); rintro e w2 ⟨rfl, rfl⟩)
                have hF : wr.grownBy (((wr.setCell ⟨gS, 0, none⟩ (.slice A d c)).setCell ⟨gS, 1, none⟩ (.slice A3 d2 c3)).alloc (.cells #[.int .i64 9] 3)) (some gS) := grown_trans (grown_trans (grown_set _ _ _ _) (grown_set _ _ _ _)) (grown_below _ (alloc_below _ _))
                have hBF : Blk (((wr.setCell ⟨gS, 0, none⟩ (.slice A d c)).setCell ⟨gS, 1, none⟩ (.slice A3 d2 c3)).alloc (.cells #[.int .i64 9] 3)) gS 27 #[.slice A d c, .slice A3 d2 c3] := ((Hbk.out.set 0 (.slice A d c)).set 1 (.slice A3 d2 c3)).ext (alloc_below _ _)
                refine bodyPost_ret (results_cell_row (p := 2) (by kernel_rfl) _ _ gS 27 #[.slice A d c, .slice A3 d2 c3] (0, 0) _ rfl hBF Try.underlying27 rfl (by kernel_rfl)) rfl ?_
                exact src_end Hgs.out hpS hs3 HK.out Ho.out Hc.out Hr.out Hg.out hF (by rw [Hds.out, ← Hds2.out, List.length_map]) Hd.out Hds2.out
              | cons t r3 =>
                have hb : nextY [9] (t :: r3) = true := hend.resolve_left (by simp)
                have hT9 : takeY en [9] (t :: r3) = .ok t.2 r3 := by
                  have h8 : [9].contains t.1 = true := hb
                  simp only [takeY, h8, if_true]
                obtain ⟨x8, y8, hxy8⟩ := PA_form t.2.2
                have hAB := alloc_below wr (.cells #[.int .i64 9] 3)
                have hAB2 := below_alloc hAB (.cells #[.int .i64 9] 3)
                have CN := Lib.hid (yc_next p en (t :: r3) [9] 1 rfl (by decide) wr Hr.out #[.int .i64 9] rfl _ rfl)
                have CN2 := Lib.hid (yc_next p en (t :: r3) [9] 1 rfl (by decide) _ (Hr.out.below hAB) #[.int .i64 9] rfl (wr.heap.size + 1) (by simp))
                rw [hb] at CN CN2
                have CT := Lib.hid (yc_take_ok p en (t :: r3) [9] 1 rfl (by decide) _ (Hr.out.below hAB2) #[.int .i64 9] rfl (wr.heap.size + 1 + 1) (by simp) t.2 r3 hT9 x8 y8 hxy8)
                have HAB2 := Lib.hid (grown_below (some p) hAB2)
                have hn0 : (t :: r3).length = r3.length + 1 := rfl
                have hk3 : endR ds (zs3.map WithY.val) r3 = Rf := by rw [← hk2, contG_mark hb hT9]
                clear hend hk2 Hk hAB hAB2 hT9 hxy8 hb
                rw [hn0] at q0
                generalize str t.2.1 = s8 at *
                cases r3 with
                | nil =>
                  have hRb : Rf = .ok (ds, zs3.map WithY.val) [] := hk3.symm
                  subst hRb
                  go_wp2_with (first
                    | (go_at_call 53; (with_reducible refine CN.out.mono ?_); rintro e w2 ⟨rfl, rfl⟩)
                    | (go_at_call 53; (with_reducible refine CN2.out.mono ?_); rintro e w2 ⟨rfl, rfl⟩)
                    | (go_at_call 55; (with_reducible refine CT.out.mono ?_); rintro e w3 ⟨rfl, hr3, hg3⟩
                       have hgw := grown_trans HAB2.out hg3
                       obtain ⟨A6, c6, _, _, _, q3, _⟩ := hr3.parts
                       have q4 : w3.cell? ⟨p, 0, none⟩ = some (.slice A6 0 c6) := q3
                       have b3 := Hbk.out.grown hgw (by intro e; injection e with e; omega)
                       have e0 : w3.cell? ⟨gS, 0, none⟩ = some (.slice A d c) := b3.cell 0
                       have e1 : w3.cell? ⟨gS, 1, none⟩ = some (.slice A3 d2 c3) := b3.cell 1
                       have e2 := b3.frozen 0
                       have e3 := b3.frozen 1))
                  have hF : w3.grownBy ((w3.setCell ⟨gS, 0, none⟩ (.slice A d c)).setCell ⟨gS, 1, none⟩ (.slice A3 d2 c3)) (some gS) := grown_trans (grown_set _ _ _ _) (grown_set _ _ _ _)
                  have hBF : Blk ((w3.setCell ⟨gS, 0, none⟩ (.slice A d c)).setCell ⟨gS, 1, none⟩ (.slice A3 d2 c3)) gS 27 #[.slice A d c, .slice A3 d2 c3] := (b3.set 0 (.slice A d c)).set 1 (.slice A3 d2 c3)
                  refine bodyPost_ret (results_cell_row (p := 2) (by kernel_rfl) _ _ gS 27 #[.slice A d c, .slice A3 d2 c3] (0, 0) _ rfl hBF Try.underlying27 rfl (by kernel_rfl)) rfl ?_
                  exact src_end Hgs.out hpS hs3 (HK.out.grown hgw (by omega)) (own_grown Ho.out hgw (by omega)) (Hc.out.grown hgw (by omega)) hr3 (grown_trans Hg.out hgw) hF (by rw [Hds.out, ← Hds2.out, List.length_map]) Hd.out Hds2.out
                | cons u r4 =>
                  obtain ⟨x7, y7, hxy7⟩ := PA_form u.2.2
                  have hRb : Rf = .bad u.2.2 3 := hk3.symm
                  have C0 := Lib.hid fun (W : World) (hW : YrAt W p en (u :: r4)) => yc_take0 p en (u :: r4) W hW
                  have hT0 : takeY en [] (u :: r4) = .bad u.2.2 3 := rfl
                  rw [hT0] at C0
                  have hw1 := Hwr.out u.2.2 3 x7 y7 hxy7
                  subst hRb
                  have C02 : Hid (∀ W, YrAt W p en (u :: r4) → Calls Try.prog 55 #[.pointer (some ⟨p, 0, none⟩), .slice none 0 0] W fun e w' => e = .panicked [{ v := .iface 68 (.agg #[.complex .f64 x7 y7, .int .i64 3]), recovered := false }] ∧ W.grownBy w' (some p)) := Lib.hid (fun W hW => by
                    have := C0.out W hW
                    have hw2 : (Ending.panicked [{ v := .iface 68 (.agg #[.complex .f64 x7 y7, .int .i64 3]), recovered := false }]) = wrongY u.2.2 3 := hw1
                    rw [hw2]
                    exact this)
                  clear C0 hT0 hk3 hxy7
                  go_wp2_with (first
                    | (go_at_call 53; (with_reducible refine CN.out.mono ?_); rintro e w2 ⟨rfl, rfl⟩)
                    | (go_at_call 53; (with_reducible refine CN2.out.mono ?_); rintro e w2 ⟨rfl, rfl⟩)
                    | (go_at_call 55; (with_reducible refine CT.out.mono ?_); rintro e w3 ⟨rfl, hr3, hg3⟩
                       obtain ⟨A6, c6, _, _, _, q3, _⟩ := hr3.parts
                       have hu0 : (u :: r4).length = r4.length + 1 := rfl
                       rw [hu0] at q3)
                    | (go_at_call 55; (with_reducible refine (C02.out _ hr3).mono ?_); rintro e w4 ⟨rfl, hg4⟩))
                  exact ⟨rfl, hw1, grown_trans Hg.out (grown_trans HAB2.out (grown_trans hg3 hg4))⟩
            case neg =>
              have hb : nextY [9] us = false := by
                cases hx : nextY [9] us with
                | false => rfl
                | true => exact absurd (.inr hx) hend
              have hne : us ≠ [] := fun hx => hend (.inl hx)
              have hk2 : ((groupY en us).bind fun g r => groupsY en q r (zs3.map WithY.val ++ g)).bind (contG en ds) = Rf := by
                have := Hk.out
                unfold groupsY at this
                rw [if_neg hend] at this
                exact this
              have hpos : 0 < us.length := List.length_pos_iff.2 hne
              have CN := Lib.hid (yc_next p en us [9] 1 rfl (by decide) wr Hr.out #[.int .i64 9] rfl _ rfl)
              rw [hb] at CN
              have hAB := alloc_below wr (.cells #[.int .i64 9] 3)
              have hAg := grown_below (some p) hAB
              have HrN := Lib.hid (Hr.out.below hAB)
              have HgN := Lib.hid (grown_trans Hg.out hAg)
              have HoN := Lib.hid (own_grown Ho.out hAg (by omega))
              have HcN := Lib.hid (Hc.out.grown hAg (by omega))
              have HbkN := Lib.hid (Hbk.out.ext hAB)
              have HKN := Lib.hid (HK.out.grown hAg (by omega))
              have hsN : B3 ≤ (wr.alloc (.cells #[.int .i64 9] 3)).heap.size := Nat.le_trans hsw hAB.size
              have Hrem : Hid (remY wr p = us.length) := Lib.hid Hr.out.rem
              have Hk2 := Lib.hid hk2
              have CG := Lib.hid fun (W : World) (hW : YrAt W p en us) => yc_group p en us W hW
              have hfin : ∀ (pre : List Nat) (er x y : Nat) (w2 : World), groupY en us = .bad pre er → PA pre = .complex .f64 x y → w.grownBy w2 (some p) → RetY w p en (SrcV w) Rf (.panicked [{ v := .iface 68 (.agg #[.complex .f64 x y, .int .i64 (er : Int)]), recovered := false }]) w2 := fun pre er x y w2 h1 h2 h3 => by
                have hRb : Rf = .bad pre er := by rw [← Hk2.out, h1]; rfl
                rw [hRb]
                exact ⟨Hwr.out pre er x y h2, h3⟩
              have Hfin := Lib.hid hfin
              clear hend hb hne Hk hk2 hAB hAg Hr Hg Ho Hc Hbk HK hfin f0 f1
              go_wp2_with (go_at_call 53; (with_reducible refine CN.out.mono ?_); rintro e w2 ⟨rfl, rfl⟩)
              generalize wr.alloc (.cells #[.int .i64 9] 3) = Wn at *
              have l1 : Wn.cell? ⟨gS, 1, none⟩ = some (.slice A3 d2 c3) := HbkN.out.cell 1
              go_region_law (first
                | (go_simp; go_at_call 56; refine (CG.out _ (by exact HrN.out)).mono ?_; rintro e w2 hR
                   obtain ⟨G2, us2, hG⟩ | ⟨pre, er, hG⟩ := ResY.ways (groupY en us)
                   rotate_left 1
                   · rw [hG] at hR
                     obtain ⟨x, y, hxy⟩ := PA_form pre
                     obtain ⟨rfl, hg2⟩ := hR
                     unfold wrongY
                     rw [hxy]
                     exact ⟨rfl, Hfin.out pre er x y w2 hG hxy (grown_trans HgN.out ⟨hg2.os, hg2.tape, hg2.output, hg2.size, hg2.block⟩)⟩
                   rw [hG] at hR
                   obtain ⟨⟨A7, c7, zs7, rfl, hm7, ho7, hP7⟩, hr7, hg7'⟩ := hR
                   have hlenG := groupY_len hG
                   have hk3 : (groupsY en q us2 (zs3.map WithY.val ++ G2)).bind (contG en ds) = Rf := by rw [← Hk2.out, hG]; rfl
                   have Hk3 := Lib.hid hk3
                   have hg7 : Wn.grownBy w2 (some p) := ⟨hg7'.os, hg7'.tape, hg7'.output, hg7'.size, hg7'.block⟩
                   have b2 := HbkN.out.grown hg7 (by intro e; injection e with e; omega)
                   have z1 : w2.cell? ⟨gS, 1, none⟩ = some (.slice A3 d2 c3) := b2.cell 1
                   have Ho2 := Lib.hid (own_grown HoN.out hg7 (by omega))
                   have hs2 : B3 ≤ w2.heap.size := Nat.le_trans hsN hg7.size
                   have Ho7 := Lib.hid ho7
                   have hone := Lib.hid (prdCells_one zs7)
                   have HP7 := Lib.hid hP7
                   have Hm7 := Lib.hid hm7
                   have Hr7 := Lib.hid hr7
                   have Hb2 := Lib.hid b2
                   have Hg7 := Lib.hid hg7
                   have HK7 := Lib.hid (HKN.out.grown hg7 (by omega))
                   clear hr7 b2 hg7 hg7' ho7 hk3 hG hP7 hm7)
                | (refine step_appendO rfl _ _ 25 rfl B3 44 _ 5 88 Try.underlying25 Hi.out (by decide) (by decide) A3 d2 c3 (zs3.flatMap prdCells) (by simp [Act.eval, Act.put]) Ho2.out _ A7 G2.length c7 (zs7.flatMap prdCells) (by simp [Act.eval, Act.put]) Ho7.out hone.out (by omega) (by omega) hs2 ?_; intro A4 c4 w4 ho4 hgr4 ha4
                   have b4 := Hb2.out.grown hgr4 (by intro e; have := (Ho2.out.lt gS e.symm).1; omega)
                   have y1 : w4.cell? ⟨gS, 1, none⟩ = some (.slice A3 d2 c3) := b4.cell 1
                   have v1 := b4.frozen 1
                   have Hb4 := Lib.hid b4
                   have Hgr4 := Lib.hid hgr4
                   have Ha4 := Lib.hid ha4
                   have Ho4 := Lib.hid ho4
                   clear b4 hgr4 ha4 ho4))
              all_goals
                have hmk := prds_more (W0 := w) (by omega) hsN HgN.out (by have := Hgs.out; omega) HoN.out HcN.out Hg7.out Hr7.out HP7.out Hgr4.out Ha4.out
                have hA3 : ∀ b, (Value.slice A3 d2 c3).ownBlock = some b → B3 ≤ b := fun b hb => (Ho2.out.lt b hb).1
                have hg5 : w4.grownBy (w4.setCell ⟨gS, 1, none⟩ (.slice A4 (d2 + G2.length) c4)) (some gS) := grown_set _ _ _ _
                have s4 := Hgr4.out.size
                have sX := hg5.size
                have HGn := Lib.hid (grown_late hmk.2.1 (grown_is_below hg5 hmk.2.1.size (by have := Hgs.out; omega)))
                have HPn : Hid (InY PrdY.right (w4.setCell ⟨gS, 1, none⟩ (.slice A4 (d2 + G2.length) c4)) (fun b => B3 ≤ b ∧ (Value.slice A4 (d2 + G2.length) c4).ownBlock ≠ some b) (zs3 ++ zs7)) := Lib.hid (hmk.1.keep sX fun k hk hav => ⟨hg5.block k hk (by intro e; injection e with e; have := hav.1; omega), hav⟩)
                have hon := own_keepY Ho4.out (w' := w4.setCell ⟨gS, 1, none⟩ (.slice A4 (d2 + G2.length) c4)) fun b h1 h2 => hg5.block b h2 (by intro e; injection e with e; omega)
                rw [← List.flatMap_append] at hon
                have Hon := Lib.hid hon
                have Hrn := Lib.hid (hmk.2.2.keep (w' := w4.setCell ⟨gS, 1, none⟩ (.slice A4 (d2 + G2.length) c4)) sX fun k h1 h2 => hg5.block k h2 (by intro e; injection e with e; omega))
                have Hbn : Hid (Blk (w4.setCell ⟨gS, 1, none⟩ (.slice A4 (d2 + G2.length) c4)) gS 27 #[.slice A d c, .slice A4 (d2 + G2.length) c4]) := Lib.hid (Hb4.out.set 1 (.slice A4 (d2 + G2.length) c4))
                have HKn : Hid (DclK (w4.setCell ⟨gS, 1, none⟩ (.slice A4 (d2 + G2.length) c4)) (gS + 1) B3 A d c zs) := Lib.hid ((HK7.out.keep s4 fun b h1 h2 h3 => Hgr4.out.block b h3 (fun e => by have := hA3 b e.symm; omega)).keep sX fun b h1 h2 h3 => hg5.block b h3 (by intro e; injection e with e; omega))
                have hsn : B3 ≤ (w4.setCell ⟨gS, 1, none⟩ (.slice A4 (d2 + G2.length) c4)).heap.size := by omega
                have Hdn : Hid (d2 + G2.length = (zs3 ++ zs7).length) := Lib.hid (by rw [List.length_append, ← Hd.out, ← Hm7.out, List.length_map])
                have Hkn : Hid ((groupsY en q us2 ((zs3 ++ zs7).map WithY.val)).bind (contG en ds) = Rf) := Lib.hid (by rw [List.map_append, Hm7.out]; exact Hk3.out)
                have Hremn := Lib.hid Hrn.out.rem
                have hqn : us2.length + 1 ≤ q := by have := Hq.out; omega
                have hdn : d2 + G2.length + us2.length ≤ 4000 := by omega
                clear hmk hg5 s4 sX hon Ho4 Hb4 Hgr4 Ha4
                go_wp2_with fail
                go_roundw
                case rel => exact ⟨d2 + G2.length, c4, q, A4, _, us2, hdn, hsn, Hdn, Lib.hid hqn, Hkn, Hon, HPn, Hrn, HGn, Hbn, HKn⟩
                case measure => rw [Hremn.out, Hrem.out]; omega
    case neg =>
      have hb : nextY [9] us = false := by
        cases hx : nextY [9] us with
        | false => rfl
        | true => exact absurd (.inr hx) hend
      have hne : us ≠ [] := fun hx => hend (.inl hx)
      have hk2 : ((declY en us).bind fun d r => declsY en q r (zs.map WithY.val ++ [d])).bind (contD en) = Rf := by
        have := Hk.out
        unfold declsY at this
        rw [if_neg hend] at this
        exact this
      have hpos : 0 < us.length := List.length_pos_iff.2 hne
      have CN := Lib.hid (yc_next p en us [9] 1 rfl (by decide) wr Hr.out #[.int .i64 9] rfl _ rfl)
      rw [hb] at CN
      have hAB := alloc_below wr (.cells #[.int .i64 9] 3)
      have HrN := Lib.hid (Hr.out.below hAB)
      have HgN := Lib.hid (grown_late Hg.out (hAB.mono Hg.out.size))
      have HoN := Lib.hid (Ho.out.alloc (.cells #[.int .i64 9] 3))
      have HcN := Lib.hid (Hc.out.keep (av' := fun b => gS + 1 ≤ b ∧ (Value.slice A d c).ownBlock ≠ some b) hAB.size fun k hk hav => ⟨hAB.block k hk, hav⟩)
      have HbkN := Lib.hid (Hbk.out.ext hAB)
      have hsN : gS + 1 ≤ (wr.alloc (.cells #[.int .i64 9] 3)).heap.size := Nat.le_trans hsw hAB.size
      have Hrem : Hid (remY wr p = us.length) := Lib.hid Hr.out.rem
      have Hk2 := Lib.hid hk2
      have hpN : p < (wr.alloc (.cells #[.int .i64 9] 3)).heap.size := HrN.out.lt
      clear hend hb hne Hk hk2 hAB Hr Hg Ho Hc Hbk
      have CD := Lib.hid fun (W : World) (hW : YrAt W p en us) => yc_decl p en us W hW
      have hfin : ∀ (pre : List Nat) (er x y : Nat) (w2 : World), declY en us = .bad pre er → PA pre = .complex .f64 x y → w.grownBy w2 (some p) → RetY w p en (SrcV w) Rf (.panicked [{ v := .iface 68 (.agg #[.complex .f64 x y, .int .i64 (er : Int)]), recovered := false }]) w2 := fun pre er x y w2 h1 h2 h3 => by
        have hRb : Rf = .bad pre er := by rw [← Hk2.out, h1]; rfl
        rw [hRb]
        exact ⟨Hwr.out pre er x y h2, h3⟩
      have Hfin := Lib.hid hfin
      clear hfin
      go_wp2_with (go_at_call 53; (with_reducible refine CN.out.mono ?_); rintro e w2 ⟨rfl, rfl⟩)
      generalize wr.alloc (.cells #[.int .i64 9] 3) = Wn at *
      have l0 : Wn.cell? ⟨gS, 0, none⟩ = some (.slice A d c) := HbkN.out.cell 0
      go_region_law (first
        | (go_simp; go_at_call 54; refine (CD.out _ (by exact HrN.out)).mono ?_; rintro e w2 hR
           obtain ⟨D, us2, hD⟩ | ⟨pre, er, hD⟩ := ResY.ways (declY en us)
           rotate_left 1
           · rw [hD] at hR
             obtain ⟨x, y, hxy⟩ := PA_form pre
             obtain ⟨rfl, hg2⟩ := hR
             unfold wrongY
             rw [hxy]
             exact ⟨rfl, Hfin.out pre er x y w2 hD hxy (grown_trans HgN.out ⟨hg2.os, hg2.tape, hg2.output, hg2.size, hg2.block⟩)⟩
           rw [hD] at hR
           obtain ⟨⟨Ad, cd, rfl, ho2⟩, hr2, hg2'⟩ := hR
           have hk3 : (declsY en q us2 (zs.map WithY.val ++ [D])).bind (contD en) = Rf := by rw [← Hk2.out, hD]; rfl
           have hlt := (declY_ok hD).2.2
           have Hk3 := Lib.hid hk3
           have hnl : D.names.length ≤ 4000 := by
             have h1 := (declY_ok hD).1
             have h2 := congrArg List.length h1
             rw [List.length_append] at h2
             have h3 : (symsY us).length ≤ us.length := by
               unfold symsY
               rw [List.length_map]
               exact List.length_filter_le _ _
             omega
           have hg2 : Wn.grownBy w2 (some p) := ⟨hg2'.os, hg2'.tape, hg2'.output, hg2'.size, hg2'.block⟩
           have b2 := HbkN.out.grown hg2 (by intro e; injection e with e; omega)
           have z1 : w2.cell? ⟨gS, 0, none⟩ = some (.slice A d c) := b2.cell 0
           have z1b : (w2.alloc (.cells #[.int .i64 (D.kind : Int), .slice Ad D.names.length cd] 46)).cell? ⟨gS, 0, none⟩ = some (.slice A d c) := (b2.ext (alloc_below _ _)).cell 0
           have Ho2 := Lib.hid ((own_grown HoN.out hg2 (by omega)).alloc (.cells #[.int .i64 (D.kind : Int), .slice Ad D.names.length cd] 46))
           have hs2 : gS + 1 ≤ (w2.alloc (.cells #[.int .i64 (D.kind : Int), .slice Ad D.names.length cd] 46)).heap.size := by rw [alloc_size]; have := hg2.size; omega
           have Hl2 := Lib.hid (own_lit1 w2 w2.heap.size 46 [.int .i64 (D.kind : Int), .slice Ad D.names.length cd] (Nat.le_refl _) (by simp))
           have Hr2 := Lib.hid hr2
           have Hb2 := Lib.hid b2
           have Hg2 := Lib.hid hg2
           have Ho22 := Lib.hid ho2
           clear hr2 b2 hg2 hg2' ho2 hk3 hD)
        | (refine step_appendO rfl _ _ 24 rfl (gS + 1) 46 _ 2 32 Try.underlying24 HiD.out (by decide) (by decide) A d c (zs.flatMap dclCells) (by simp [Act.eval, Act.put]) Ho2.out _ (some ⟨w2.heap.size, 0, none⟩) 1 1 _ (by simp [Act.eval, Act.put]) Hl2.out (by simp [Value.oneCell']) (by omega) (by omega) hs2 ?_; intro A4 c4 w4 ho4 hgr4 ha4
           have b4 := (Hb2.out.ext (alloc_below w2 (.cells #[.int .i64 (D.kind : Int), .slice Ad D.names.length cd] 46))).grown hgr4 (by intro e; have := (Ho2.out.lt gS e.symm).1; omega)
           have y1 : w4.cell? ⟨gS, 0, none⟩ = some (.slice A d c) := b4.cell 0
           have v1 := b4.frozen 0
           have Hb4 := Lib.hid b4
           have Hgr4 := Lib.hid hgr4
           have Ha4 := Lib.hid ha4
           have Ho4 := Lib.hid ho4
           clear b4 hgr4 ha4 ho4))
      all_goals
        have hmk := dcl_more (W0 := w) D rfl (by omega) (by omega) HgN.out (by have := Hgs.out; omega) HoN.out HcN.out Hg2.out Hr2.out Ho22.out _ Hgr4.out Ha4.out
        have hg5 : w4.grownBy (w4.setCell ⟨gS, 0, none⟩ (.slice A4 (d + 1) c4)) (some gS) := grown_set _ _ _ _
        have s4 := Hgr4.out.size
        have sX := hg5.size
        have HGn := Lib.hid (grown_late hmk.2.1 (grown_is_below hg5 hmk.2.1.size (by have := Hgs.out; omega)))
        have HPn : Hid (InY DclY.names (w4.setCell ⟨gS, 0, none⟩ (.slice A4 (d + 1) c4)) (fun b => gS + 1 ≤ b ∧ (Value.slice A4 (d + 1) c4).ownBlock ≠ some b) (zs ++ ([⟨D, Ad, cd⟩] : List (WithY DclY)))) := Lib.hid (hmk.1.keep sX fun k hk hav => ⟨hg5.block k hk (by intro e; injection e with e; have := hav.1; omega), hav⟩)
        have hon := own_keepY Ho4.out (w' := w4.setCell ⟨gS, 0, none⟩ (.slice A4 (d + 1) c4)) fun b h1 h2 => hg5.block b h2 (by intro e; injection e with e; omega)
        have hcs : zs.flatMap dclCells ++ [.int .i64 (D.kind : Int), .slice Ad D.names.length cd] = (zs ++ ([⟨D, Ad, cd⟩] : List (WithY DclY))).flatMap dclCells := by
          rw [List.flatMap_append]
          rfl
        rw [hcs] at hon
        have Hon := Lib.hid hon
        have Hrn := Lib.hid (hmk.2.2.keep (w' := w4.setCell ⟨gS, 0, none⟩ (.slice A4 (d + 1) c4)) sX fun k h1 h2 => hg5.block k h2 (by intro e; injection e with e; omega))
        have Hbn : Hid (Blk (w4.setCell ⟨gS, 0, none⟩ (.slice A4 (d + 1) c4)) gS 27 #[.slice A4 (d + 1) c4, .slice none 0 0]) := Lib.hid (Hb4.out.set 0 (.slice A4 (d + 1) c4))
        have hsn : gS + 1 ≤ (w4.setCell ⟨gS, 0, none⟩ (.slice A4 (d + 1) c4)).heap.size := by omega
        have Hdn : Hid (d + 1 = (zs ++ ([⟨D, Ad, cd⟩] : List (WithY DclY))).length) := Lib.hid (by rw [List.length_append, ← Hd.out]; rfl)
        have Hkn : Hid ((declsY en q us2 ((zs ++ ([⟨D, Ad, cd⟩] : List (WithY DclY))).map WithY.val)).bind (contD en) = Rf) := Lib.hid (by rw [List.map_append]; exact Hk3.out)
        have Hremn := Lib.hid Hrn.out.rem
        have hqn : us2.length + 1 ≤ q := by have := Hq.out; omega
        have hdn : d + 1 + us2.length ≤ 4000 := by omega
        clear hmk hg5 s4 sX hcs hon Ho4 Hb4 Hgr4 Ha4
        go_wp2_with fail
        go_roundw
        case rel => exact ⟨d + 1, c4, q, A4, _, us2, hdn, hsn, Hdn, Lib.hid hqn, Hkn, Hon, HPn, Hrn, HGn, Hbn⟩
        case measure => rw [Hremn.out, Hrem.out]; exact hlt
end Go.Proofs.Ytdeiipbnaknedaa
