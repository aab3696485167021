/- yacc: the law of what stands in a source, walked. -/
import Derived.Test.YtdeiipbnaknedaaYQ31
import Derived.HandedShaped
import Derived.Shelf.Vars
namespace Go.Proofs.Ytdeiipbnaknedaa
open Go.RowKit
set_option linter.unusedVariables false
set_option linter.unusedSimpArgs false

theorem namesOf_val (zs : List (WithY DclY)) : namesOf zs = (zs.map WithY.val).flatMap DclY.names := by
  unfold namesOf
  rw [List.flatMap_map]
theorem flat_same {α : Type} {m : Nat} {f : α → List Value} {w w' : World} {B n c b off j i : Nat} {xs : List α} (h : Flat m f w B (some ⟨b, off, none⟩) n c xs) {x : α} (hx : xs[j]? = some x) {v : Value} (hv : (f x)[i]? = some v) (hs : Same w w') : w'.cell? ⟨b, off + j * m + i, none⟩ = some v :=
  (flat_cell (h.below (hs.below _)) j i hx hv).1
theorem quiet_eq {P : Program} {f : FuncId} {args : Array Value} {w : World} {n : Nat} {v : Value}
    (h : Calls P f args (w.drewN n) fun e w' => e = .returned v ∧ w.drewN n = w') : Calls P f args (w.drewN n) fun e w'' => e = .returned v ∧ ∃ m, w'' = w.drewN m :=
  h.mono fun _ _ ⟨he, hm⟩ => ⟨he, n, hm.symm⟩

set_option maxRecDepth 100000 in
set_option maxHeartbeats 4000000 in
theorem yaccStands_walk (a0 : Option Addr) (len0 cap0 : Nat) (z0 : List Int) (W : World) (w0 : IsRow .u8 W a0 len0 cap0 z0) (hM : MaxAt W) :
    Calls Try.prog 3 #[.slice a0 len0 cap0] W fun e w' => e = .returned (.bool true) ∧ Below W.heap.size W w' := by
  obtain ⟨bs, hb, hlt, hcap⟩ := row_bytes w0
  clear w0
  obtain rfl := hb.len
  have A0 := Lib.hid (alive08 W hM)
  by_cases hlen : bs.length ≤ 2000
  case neg =>
    have hg : (2000 : Int) < (bs.length : Int) := by omega
    clear hb
    go_enter Try.func3, Try.ntmps3
    go_wp2_with fail
    (with_reducible refine A0.out.mono ?_)
    rintro e w1 ⟨rfl, hB⟩
    go_wp2_with fail
    go_ret
    exact ⟨rfl, hB⟩
  have hg : ¬ (2000 : Int) < (bs.length : Int) := by omega
  have Hlt := Lib.hid hlt
  have Hcap := Lib.hid hcap
  have Hb := Lib.hid hb
  have hWhy : (parseY bs).why := by
    unfold parseY
    split
    · exact srcY_why _ _
    · assumption
  clear hlt hcap hb
  go_enter Try.func3, Try.ntmps3
  go_wp2_with fail
  (with_reducible refine A0.out.mono ?_)
  rintro e w1 ⟨rfl, hB⟩
  have Hb1 := Lib.hid (Hb.out.below hB)
  have hc := yc_Parse a0 bs.length cap0 bs w1 Hb1.out Hcap.out Hlt.out (by omega) (hM.below hB)
  cases hP : parseY bs with
  | bad pre er =>
    rw [hP] at hWhy hc
    obtain ⟨x, y, hxy⟩ := PA_form pre
    unfold RetOf at hc
    simp only [] at hc
    rw [hxy] at hc
    have Hc := Lib.hid hc
    have q : ((er : Int) != 0) = true := by rw [bne_iff_ne]; have : er ≠ 0 := hWhy; omega
    clear hc hP hWhy hxy hM
    go_wp2_with fail
    (with_reducible refine Hc.out.mono ?_)
    rintro e w2 ⟨rfl, hB2⟩
    have hB' := below_tail hB hB2
    have hB3 := Lib.hid (hB'.alloc hB'.size (.cells #[.slice none 0 0, .slice none 0 0] 27))
    clear hB hB2 hB'
    go_wp2_with fail
    go_ret
    exact ⟨rfl, hB3.out⟩
  | ok s rest =>
    obtain ⟨ds, ps⟩ := s
    rw [hP] at hc
    have h0 : (lexN bs).2.2 = 0 := by
      unfold parseY at hP
      split at hP
      · assumption
      · cases hP
    have hS : srcY (lexN bs).2.1 (lexN bs).1 = .ok (ds, ps) rest := by
      unfold parseY at hP
      rwa [if_pos h0] at hP
    obtain ⟨hts, hris, hpr⟩ := (lex_ok bs).2 h0
    have hll : (lexN bs).1.length ≤ bs.length := by
      have := lexGo_len (bs.length + 1) bs [] 0 []
      simp only [List.length_nil, Nat.zero_add] at this
      exact this
    have cT := fun w => rf_TokensN a0 bs.length cap0 bs w
    generalize lexN bs = r at *
    obtain ⟨ts, pr, er⟩ := r
    simp only [] at h0 hS hts hris hpr hll cT
    subst h0
    have hpr := hpr.symm
    subst hpr
    obtain ⟨hsy, hpne⟩ := srcY_ok hS hris
    obtain ⟨hdl, hpl⟩ := srcY_lenC hS
    have hgs := good_syms hts Hlt.out
    have hsl := symsY_le ts
    clear hP hS hWhy
    unfold RetOf at hc
    simp only [] at hc
    have Hc := Lib.hid hc
    have Hts := Lib.hid hts
    have Hris := Lib.hid hris
    have Hsy := Lib.hid hsy
    have Hgs := Lib.hid hgs
    have HT := Lib.hid cT
    clear hc hts hris hsy hgs cT
    go_wp2_with fail
    (with_reducible refine Hc.out.mono ?_)
    rintro e w2 ⟨A1, c1, A2, c2, zs1, zs2, rfl, m1, m2, F1, I1, F2, I2, L1, L2, hB2⟩
    have hB' := below_tail hB hB2
    have hB3 := Lib.hid (hB'.alloc hB'.size (.cells #[.slice A1 ds.length c1, .slice A2 ps.length c2] 27))
    have hb3 := alloc_below w2 (.cells #[.slice A1 ds.length c1, .slice A2 ps.length c2] 27)
    have hk3 := Blk.new w2 27 #[.slice A1 ds.length c1, .slice A2 ps.length c2]
    have hz3 : (w2.alloc (.cells #[.slice A1 ds.length c1, .slice A2 ps.length c2] 27)).heap.size = w2.heap.size + 1 := alloc_size _ _
    have cT := HT.out _ ((Hb1.out.below hB2).below hb3) Hlt.out (by omega) trivial
    have HcT := Lib.hid cT
    have HF1 := Lib.hid F1
    have HF2 := Lib.hid F2
    have HI1 := Lib.hid I1
    have HI2 := Lib.hid I2
    have HM1 := Lib.hid m1
    have HM2 := Lib.hid m2
    have Hb3 := Lib.hid hb3
    have Hk3 := Lib.hid hk3
    obtain ⟨px, py, hpxy⟩ := PA_form bs
    rw [hpxy] at HcT
    clear cT F1 F2 I1 I2 m1 m2 hb3 hk3 hB hB2 hB' L1 L2 hM hpxy
    go_wp2_with fail
    (with_reducible refine HcT.out.mono ?_)
    rintro e w4 ⟨LA, lc, rfl, ho4, hB4⟩
    have hk4 := Hk3.out.ext hB4
    have hb4 := Hb3.out.trans (hB4.mono Hb3.out.size)
    have q0 : w4.cell? ⟨w2.heap.size, 0, none⟩ = some (.slice A1 ds.length c1) := hk4.cell 0
    have q1 : w4.cell? ⟨w2.heap.size, 1, none⟩ = some (.slice A2 ps.length c2) := hk4.cell 1
    have hnn : namesOf zs1 = ds.flatMap DclY.names := by rw [namesOf_val, HM1.out]
    have hrr : rulesOf zs2 = listY none ps := by unfold rulesOf; rw [HM2.out]
    have hsum : (namesOf zs1).length + (rulesOf zs2).length = (symsY ts).length := by rw [hnn, hrr, Hsy.out, List.length_append]
    have happ : namesOf zs1 ++ rulesOf zs2 = symsY ts := by rw [hnn, hrr, Hsy.out]
    have hg2 : ∀ z ∈ zs2, GoodR bs z.val.left ∧ ∀ r ∈ bodyY z.val, GoodR bs r := fun z hz => by
      have hm : z.val ∈ ps := by rw [← HM2.out]; exact List.mem_map_of_mem hz
      refine ⟨?_, fun r hr => ?_⟩
      · rcases listY_left none ps z.val hm with h | h
        · cases h
        · exact Hgs.out _ (by rw [Hsy.out]; exact List.mem_append.2 (.inr h))
      · exact Hgs.out _ (by rw [Hsy.out]; exact List.mem_append.2 (.inr (listY_body none ps z.val hm r hr)))
    have cL := ls_listed bs A1 A2 ds.length c1 ps.length c2 zs1 zs2 w4 ((HF1.out.below hb4).wide (Nat.le_refl _)) (HI1.out.keep hb4.size fun k hk _ => ⟨hb4.block k hk, trivial⟩) ((HF2.out.below hb4).wide (Nat.le_refl _)) (HI2.out.keep hb4.size fun k hk _ => ⟨hb4.block k hk, trivial⟩) hg2 (by omega) (by omega) (by omega) (by omega)
    rw [hsum, happ] at cL
    have HcL := Lib.hid cL
    have Ho4 := Lib.hid ho4
    have Hk4 := Lib.hid hk4
    have HB4 := Lib.hid (below_tail hB3.out hB4)
    clear cL ho4 hk4 hb4 hB4 hnn hrr hsum happ hg2 HcT
    go_wp2_with (go_at_call 7; (with_reducible refine HcL.out.mono ?_); rintro e w5 ⟨RA, rc, rfl, ho5, hB5⟩)
    have HFT := Lib.hid ((own_flat tokCells_len rfl Ho4.out).below hB5)
    have HFR := Lib.hid (own_flat refCells_len rfl ho5)
    have Hk5 := Lib.hid (Hk4.out.ext hB5)
    have HB5 := Lib.hid (below_tail HB4.out hB5)
    have hzk := (Hk4.out.ext hB5).lt
    have htl : ts.length ≤ 2000 := by omega
    clear ho5 hB5
    go_wp2_with fail
    go_loopw [10, 11] (fun n i wr => ∃ k : Nat, k ≤ ts.length ∧ i = .int .i64 (k : Int) ∧ n = .int .i64 (((symsY (ts.take k)).length : Nat) : Int) ∧ Same w5 wr) (fun n i _ => ts.length - (intOf i).toNat)
    case atStart => exact ⟨0, Nat.zero_le _, rfl, rfl, Same.refl _⟩
    case round =>
      obtain ⟨k, hk, rfl, rfl, hS⟩ := hrel
      by_cases hkl : k < ts.length
      case neg =>
        obtain rfl : k = ts.length := by omega
        rw [List.take_of_length_le (Nat.le_refl _)]
        have q1 : wr.cell? ⟨w2.heap.size, 1, none⟩ = some (.slice A2 ps.length c2) := (hS.below _).cell hzk |>.trans (Hk5.out.cell 1)
        have hpp : 0 < ps.length := List.length_pos_iff.2 hpne
        have hq := eqy_0
        have hin := (hS.below w5.heap.size).size
        have hzk2 : w2.heap.size < wr.heap.size := by omega
        go_wp2_with fail
        go_ret
        exact ⟨by simp [hpp], HB5.out.trans (hS.below _)⟩
      case pos =>
        obtain ⟨b, off, t, hLA, _, hbl, Ht, _⟩ := HFT.out.get hkl
        subst hLA
        have hTok := Hts.out t (List.mem_of_getElem? Ht.out)
        have D0 : Hid (∀ w', Same w5 w' → w'.cell? ⟨b, off + k * 3, none⟩ = some (.int .i64 (t.1 : Int))) := Lib.hid fun w' h => flat_same HFT.out Ht.out (i := 0) rfl h
        have D1 : Hid (∀ w', Same w5 w' → w'.cell? ⟨b, off + k * 3 + 1, none⟩ = some (.string (str t.2.1))) := Lib.hid fun w' h => flat_same HFT.out Ht.out (i := 1) rfl h
        have D2 : Hid (∀ w', Same w5 w' → w'.cell? ⟨b, off + k * 3 + 2, none⟩ = some (PA t.2.2)) := Lib.hid fun w' h => flat_same HFT.out Ht.out (i := 2) rfl h
        have d0 := D0.out wr hS
        have hbw : b < wr.heap.size := Nat.lt_of_lt_of_le hbl (hS.below w5.heap.size).size
        have hstep := symsY_step Ht.out
        by_cases hs : isSymY t.1 = true
        case neg =>
          have e1 : ((t.1 : Int) != 1) = true := by rw [bne_iff_ne]; intro h; apply hs; rw [show t.1 = 1 by omega]; rfl
          have e2 : ((t.1 : Int) != 2) = true := by rw [bne_iff_ne]; intro h; apply hs; rw [show t.1 = 2 by omega]; rfl
          rw [if_neg hs, List.append_nil] at hstep
          have Hst := Lib.hid hstep
          generalize t.1 = kd at *
          clear hs hTok hstep
          go_wp2_with fail
          go_roundw
          case rel => exact ⟨k + 1, by omega, by go_num, by rw [Hst.out], hS⟩
          case measure => simp [intOf]; omega
        case pos =>
          obtain ⟨hR, hmR⟩ := symsY_at Ht.out hs
          have hprev := fun j hj => symsY_prev Hris.out Ht.out (j := j) hj
          rw [if_pos hs] at hstep
          have hlen1 := congrArg List.length hstep
          rw [List.length_append] at hlen1
          simp only [List.length_cons, List.length_nil] at hlen1
          have Hln := Lib.hid hlen1
          obtain ⟨rb, roff, _, hRA, _, hrl, _, _⟩ := HFR.out.get hmR
          subst hRA
          have R0 : Hid (∀ w', Same w5 w' → w'.cell? ⟨rb, roff + (symsY (ts.take k)).length * 2, none⟩ = some (.string (str t.2.1))) := Lib.hid fun w' h => flat_same HFR.out hR (i := 0) rfl h
          have R1 : Hid (∀ w', Same w5 w' → w'.cell? ⟨rb, roff + (symsY (ts.take k)).length * 2 + 1, none⟩ = some (PA t.2.2)) := Lib.hid fun w' h => flat_same HFR.out hR (i := 1) rfl h
          have hk12 : (((t.1 : Int) != 1) = false) ∨ (((t.1 : Int) != 1) = true ∧ ((t.1 : Int) != 2) = false) := by
            unfold isSymY at hs
            rw [Bool.or_eq_true, decide_eq_true_iff, decide_eq_true_iff] at hs
            rcases hs with hs | hs
            · exact .inl (by rw [hs]; rfl)
            · exact .inr ⟨by rw [hs]; rfl, by rw [hs]; rfl⟩
          have hrw : rb < wr.heap.size := Nat.lt_of_lt_of_le hrl (hS.below w5.heap.size).size
          obtain ⟨u, v, u', v', g1, g2, _, g3⟩ := two_places bs t.2.2.length t.2.2.length (Nat.le_of_lt hTok.lt) (Nat.le_of_lt hTok.lt) (by omega)
          rw [g1] at g2
          injection g2 with _ g4 g5
          subst g4 g5
          rw [← hTok.pre] at g1
          have hne : ∀ w, (binOp .neq 28 (.complex .f64 u v) (.complex .f64 u v)).run Try.prog w = .ok (.bool false) w := fun w => by rw [run_neq_complex, g3]; simp
          have Hg1 := Lib.hid g1
          have Hprev := Lib.hid hprev
          have HTok := Lib.hid hTok
          generalize hm : (symsY (ts.take k)).length = m at *
          generalize hmR' : (symsY ts).length = M at *
          clear hs hstep hlen1 hprev hTok hR g1 g3
          have hc1 : decide (M ≤ m) = false := by simp; omega
          have d1 : ∀ x, (wr.drewN x).cell? ⟨b, off + k * 3 + 1, none⟩ = some (.string (str t.2.1)) := fun x => D1.out _ (hS.drewN x)
          have d2 : ∀ x, (wr.drewN x).cell? ⟨b, off + k * 3 + 2, none⟩ = some (.complex .f64 u v) := fun x => by rw [← Hg1.out]; exact D2.out _ (hS.drewN x)
          have r0 : ∀ x, (wr.drewN x).cell? ⟨rb, roff + m * 2, none⟩ = some (.string (str t.2.1)) := fun x => R0.out _ (hS.drewN x)
          have r1 : ∀ x, (wr.drewN x).cell? ⟨rb, roff + m * 2 + 1, none⟩ = some (.complex .f64 u v) := fun x => by rw [← Hg1.out]; exact R1.out _ (hS.drewN x)
          rcases hk12 with e1 | ⟨e1, e2⟩
          all_goals
            rcases Nat.eq_zero_or_pos m with hm0 | hm0
            · have hz : decide (0 < m) = false := by simp; omega
              clear hm0
              go_wp2_with fail
              go_quiet (fail)
              go_wp2_with fail
              go_roundw
              case rel => exact ⟨k + 1, by omega, by go_num, by rw [Hln.out]; go_num, hS.drewN nq⟩
              case measure => simp [intOf]; omega
            · obtain ⟨j, hj⟩ : ∃ j, j + 1 = m := ⟨m - 1, by omega⟩
              obtain ⟨r, hRj, hrlt⟩ := Hprev.out j hj
              have hGr := Hgs.out r (List.mem_of_getElem? hRj)
              obtain ⟨u3, v3, u4, v4, f1, f2, hbf, _⟩ := two_places bs r.2.length t.2.2.length hGr.le (Nat.le_of_lt HTok.out.lt) (by omega)
              rw [← hGr.pre] at f1
              rw [← HTok.out.pre, Hg1.out] at f2
              injection f2 with _ f3 f4
              subst f3 f4
              rw [decide_eq_true hrlt] at hbf
              have Hbf := Lib.hid hbf
              have dj : ∀ x, (wr.drewN x).cell? ⟨rb, roff + j * 2 + 1, none⟩ = some (.complex .f64 u3 v3) := fun x => by rw [← f1]; exact flat_same HFR.out hRj (i := 1) rfl (hS.drewN x)
              have s3 : IntKind.i64.wrap ((m : Int) - 1) = (j : Int) := by rw [IntWalk.i64_in _ (by omega)]; omega
              have hz : decide (0 < m) = true := by simp; omega
              have hjM : j < M := by omega
              clear hbf f1 hRj hGr hrlt hm0 hj
              go_wp2_with fail
              go_quiet ((go_at_call 8; with_reducible exact quiet_eq (Hbf.out _)))
              go_wp2_with fail
              go_roundw
              case rel => exact ⟨k + 1, by omega, by go_num, by rw [Hln.out]; go_num, hS.drewN nq⟩
              case measure => simp [intOf]; omega
end Go.Proofs.Ytdeiipbnaknedaa
/- what the world's shape tells of the library's variable -/
namespace Go.Proofs.Ytdeiipbnaknedaa
open Go.RowKit
theorem maxAt_shaped {W : World} (h : W.ShapedOpen Try.prog) : MaxAt W := by
  obtain ⟨m, hm⟩ := Go.Proofs.cell_of_shapedOpen_int (zero := #[.int .i64 0]) (t := 3) (g := 0) h (of_decide_eq_true (by kernel_rfl)) (by kernel_rfl) rfl (by kernel_rfl) (by kernel_rfl) Try.underlying3
  exact ⟨m, hm, cell_lt hm⟩
end Go.Proofs.Ytdeiipbnaknedaa
