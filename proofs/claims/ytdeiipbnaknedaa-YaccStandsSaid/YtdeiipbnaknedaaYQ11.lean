/- lex: Tokens. -/
import Derived.Test.YtdeiipbnaknedaaYQ10
namespace Go.Proofs.Ytdeiipbnaknedaa
open Go.RowKit
set_option linter.unusedVariables false
set_option linter.unusedSimpArgs false

/-- the rest that a reader has -/
def remOf (w : World) (g : Nat) : Nat := match w.cell? ⟨g, 0, none⟩ with | some (.slice _ n _) => n | _ => 0
theorem remOf_blk {w : World} {g n c : Nat} {t : TypeId} {A : Option Addr} {v : Value} (h : Blk w g t #[.slice A n c, v]) : remOf w g = n := by
  unfold remOf
  rw [h.cell 0]
  rfl

theorem arr_range (a : Array Value) (n : Nat) (h : a.size = n) : a = ((List.range n).map fun i => a.getD i undef).toArray := by
  apply Array.ext
  · simp [h]
  · intro i h1 h2
    simp [Array.getElem?_eq_getElem h1]
theorem frame_u (a : Act) (x0 x1 x2 x3 x4 x5 x6 : Value) (hs : a.tmps.size = 92) (hd : a.defers = []) (h0 : a.tmps.getD 0 undef = x0) (h1 : a.tmps.getD 1 undef = x1) (h2 : a.tmps.getD 2 undef = x2) (h3 : a.tmps.getD 3 undef = x3) (h4 : a.tmps.getD 4 undef = x4) (h5 : a.tmps.getD 5 undef = x5) (h6 : a.tmps.getD 6 undef = x6) :
    ∃ u : Nat → Value, a = { tmps := (x0 :: x1 :: x2 :: x3 :: x4 :: x5 :: x6 :: u 7 :: u 8 :: u 9 :: u 10 :: u 11 :: u 12 :: u 13 :: u 14 :: u 15 :: u 16 :: u 17 :: u 18 :: u 19 :: u 20 :: u 21 :: u 22 :: u 23 :: u 24 :: u 25 :: u 26 :: u 27 :: u 28 :: u 29 :: u 30 :: u 31 :: u 32 :: u 33 :: u 34 :: u 35 :: u 36 :: u 37 :: u 38 :: u 39 :: u 40 :: u 41 :: u 42 :: u 43 :: u 44 :: u 45 :: u 46 :: u 47 :: u 48 :: u 49 :: u 50 :: u 51 :: u 52 :: u 53 :: u 54 :: u 55 :: u 56 :: u 57 :: u 58 :: u 59 :: u 60 :: u 61 :: u 62 :: u 63 :: u 64 :: u 65 :: u 66 :: u 67 :: u 68 :: u 69 :: u 70 :: u 71 :: u 72 :: u 73 :: u 74 :: u 75 :: u 76 :: u 77 :: u 78 :: u 79 :: u 80 :: u 81 :: u 82 :: u 83 :: u 84 :: u 85 :: u 86 :: u 87 :: u 88 :: u 89 :: u 90 :: u 91 :: []).toArray, defers := [] } := by
  obtain ⟨t, d⟩ := a
  simp only [] at hs hd h0 h1 h2 h3 h4 h5 h6
  subst hd
  refine ⟨fun i => t.getD i undef, ?_⟩
  rw [← h0, ← h1, ← h2, ← h3, ← h4, ← h5, ← h6]
  exact congrArg (fun z => ({ tmps := z, defers := [] } : Act)) (arr_range t 92 hs)
theorem nums_adv {W : World} {b off n c s : Nat} {rest : List Nat} (h : Nums .u8 W (some ⟨b, off, none⟩) n c rest) (hs : s ≤ n) :
    Nums .u8 W (if s = c then (some ⟨b, off, none⟩ : Option Addr) else some ⟨b, off + s, none⟩) (n - s) (c - s) (rest.drop s) := by
  have hl := h.len
  have hc := h.cap
  split
  · have e : rest.drop s = [] := List.drop_eq_nil_of_le (by omega)
    rw [e, show n - s = 0 from by omega]
    exact Nums.nil _ _ _ _ (by omega)
  · have := h.part s (n - s) (c - s) (by omega) (by omega) (by omega)
    rwa [List.take_of_length_le (by rw [List.length_drop]; omega)] at this
theorem adv_some {b off s c : Nat} (h : (if s = c then (some ⟨b, off, none⟩ : Option Addr) else some ⟨b, off + s, none⟩) = none) : c - s = 0 := by
  split at h <;> cases h
/-- what holds at the label 'next' -/
def LexRel (W : World) (g N : Nat) (r : List Tok × List Nat × Nat) (lst mkv : Value) (wr : World) : Prop :=
  ∃ (rest pre : List Nat) (mk f : Nat) (ts : List Tok) (A : Option Addr) (n c : Nat) (LA : Option Addr) (lc : Nat), mkv = .int .i64 (mk : Int) ∧ mk ≤ 2 ∧ lst = .slice LA ts.length lc ∧
    Nums .u8 W A n c rest ∧ (A = none → c = 0) ∧ (∀ y ∈ rest, y < 256) ∧ pre.length + n = N ∧ Blk wr g 63 #[.slice A n c, PA pre] ∧ Below W.heap.size W wr ∧
    wr.ownsRow W.heap.size 38 3 (.slice LA ts.length lc) ts.length (toksCells ts) ∧ ts.length ≤ pre.length ∧ Hid (n + 1 ≤ f) ∧ Hid (lexGo f rest pre mk ts = r)
/-- what holds at the label 'end' -/
def EndRel (W : World) (g N : Nat) (r : List Tok × List Nat × Nat) (lst : Value) (wr : World) : Prop :=
  ∃ (rest pre : List Nat) (ts : List Tok) (A : Option Addr) (n c : Nat) (LA : Option Addr) (lc : Nat), lst = .slice LA ts.length lc ∧
    Nums .u8 W A n c rest ∧ (A = none → c = 0) ∧ pre.length + n = N ∧ Blk wr g 63 #[.slice A n c, PA pre] ∧ Below W.heap.size W wr ∧
    wr.ownsRow W.heap.size 38 3 (.slice LA ts.length lc) ts.length (toksCells ts) ∧ Hid (r = (ts, pre ++ rest, 0))
/-- tokens come back -/
def RetTok (W : World) (r : List Tok × List Nat × Nat) (e : Ending) (w' : World) : Prop :=
  ∃ LA lc, e = .returned (.tuple #[.slice LA r.1.length lc, PA r.2.1, .int .i64 (r.2.2 : Int)]) ∧ w'.ownsRow W.heap.size 38 3 (.slice LA r.1.length lc) r.1.length (toksCells r.1) ∧ Below W.heap.size W w'

set_option maxRecDepth 4000 in
set_option maxHeartbeats 4000000 in
theorem lx_tokens (A0 : Option Addr) (n0 c0 : Nat) (bs : List Nat) (W : World) (h : Nums .u8 W A0 n0 c0 bs) (hA : A0 = none → c0 = 0) (hb : ∀ y ∈ bs, y < 256) (hn : n0 ≤ 4000) (hM : MaxAt W) :
    Calls Try.prog 10 #[.slice A0 n0 c0] W (RetTok W (lexN bs)) := by
  have hof : ∀ w, Calls Try.prog 22 #[.int .i64 1, .int .i64 1] w fun e w' => e = .returned (.complex .f64 4607182418800017408 4607182418800017408) ∧ w = w' := fun w => by
    have := pl_of 1 1 w
    rw [show ofP 1 1 = PV 1 1 from rfl] at this
    unfold PV at this
    rw [fN_1] at this
    exact this
  have hP0 : PA [] = .complex .f64 4607182418800017408 4607182418800017408 := by
    show PV 1 1 = _
    unfold PV
    rw [fN_1]
  have hl := h.len
  have Hr : Hid (lexGo (n0 + 1) bs [] 0 [] = lexN bs) := Lib.hid (by unfold lexN; rw [hl])
  generalize lexN bs = r at *
  have hbig : ¬ (4000 : Int) < (n0 : Int) := by omega
  have hBlk : Blk (W.alloc (.cells #[.slice A0 n0 c0, .complex .f64 4607182418800017408 4607182418800017408] 63)) W.heap.size 63 #[.slice A0 n0 c0, PA []] := by
    rw [hP0]
    show (W.heap.push _)[W.heap.size]? = _
    simp
  have hBel : Below W.heap.size W (W.alloc (.cells #[.slice A0 n0 c0, .complex .f64 4607182418800017408 4607182418800017408] 63)) := (Below.refl _ _).alloc (Nat.le_refl _) _
  obtain ⟨g, Hgd⟩ : ∃ g, Hid (W.heap.size = g) := ⟨_, Lib.hid rfl⟩
  have HBlk := Lib.hid hBlk
  have HB0 := Lib.hid hb
  have Hfirst : Hid (LexRel W W.heap.size n0 r (.slice none 0 0) (.int .i64 0) (W.alloc (.cells #[.slice A0 n0 c0, .complex .f64 4607182418800017408 4607182418800017408] 63))) :=
    Lib.hid ⟨bs, [], 0, n0 + 1, [], A0, n0, c0, none, 0, rfl, by decide, rfl, h, hA, hb, by simp, hBlk, hBel, ⟨rfl, .inl ⟨rfl, rfl⟩⟩, Nat.le_refl _, Lib.hid (Nat.le_refl _), Hr⟩
  clear hBlk hBel Hr hP0 hl
  go_enter Try.func10, Try.ntmps10
  go_wp2
  obtain ⟨J, HJ⟩ : ∃ J : Act → World → Prop, Hid (J = fun a' w' => ∃ g lst mkv, W.heap.size = g ∧ LexRel W g n0 r lst mkv w' ∧ ∃ u : Nat → Value, a' = { tmps := (.slice A0 n0 c0 :: undef :: lst :: .complex .f64 0 0 :: .int .i64 0 :: .pointer (some ⟨g, 0, none⟩) :: mkv :: u 7 :: u 8 :: u 9 :: u 10 :: u 11 :: u 12 :: u 13 :: u 14 :: u 15 :: u 16 :: u 17 :: u 18 :: u 19 :: u 20 :: u 21 :: u 22 :: u 23 :: u 24 :: u 25 :: u 26 :: u 27 :: u 28 :: u 29 :: u 30 :: u 31 :: u 32 :: u 33 :: u 34 :: u 35 :: u 36 :: u 37 :: u 38 :: u 39 :: u 40 :: u 41 :: u 42 :: u 43 :: u 44 :: u 45 :: u 46 :: u 47 :: u 48 :: u 49 :: u 50 :: u 51 :: u 52 :: u 53 :: u 54 :: u 55 :: u 56 :: u 57 :: u 58 :: u 59 :: u 60 :: u 61 :: u 62 :: u 63 :: u 64 :: u 65 :: u 66 :: u 67 :: u 68 :: u 69 :: u 70 :: u 71 :: u 72 :: u 73 :: u 74 :: u 75 :: u 76 :: u 77 :: u 78 :: u 79 :: u 80 :: u 81 :: u 82 :: u 83 :: u 84 :: u 85 :: u 86 :: u 87 :: u 88 :: u 89 :: u 90 :: u 91 :: []).toArray, defers := [] }) := ⟨_, Lib.hid rfl⟩
  obtain ⟨Jm, HJm⟩ : ∃ J : Act → World → Prop, Hid (J = fun a' w' => ∃ g lst mkv, W.heap.size = g ∧ EndRel W g n0 r lst w' ∧ ∃ u : Nat → Value, a' = { tmps := (.slice A0 n0 c0 :: undef :: lst :: .complex .f64 0 0 :: .int .i64 0 :: .pointer (some ⟨g, 0, none⟩) :: mkv :: u 7 :: u 8 :: u 9 :: u 10 :: u 11 :: u 12 :: u 13 :: u 14 :: u 15 :: u 16 :: u 17 :: u 18 :: u 19 :: u 20 :: u 21 :: u 22 :: u 23 :: u 24 :: u 25 :: u 26 :: u 27 :: u 28 :: u 29 :: u 30 :: u 31 :: u 32 :: u 33 :: u 34 :: u 35 :: u 36 :: u 37 :: u 38 :: u 39 :: u 40 :: u 41 :: u 42 :: u 43 :: u 44 :: u 45 :: u 46 :: u 47 :: u 48 :: u 49 :: u 50 :: u 51 :: u 52 :: u 53 :: u 54 :: u 55 :: u 56 :: u 57 :: u 58 :: u 59 :: u 60 :: u 61 :: u 62 :: u 63 :: u 64 :: u 65 :: u 66 :: u 67 :: u 68 :: u 69 :: u 70 :: u 71 :: u 72 :: u 73 :: u 74 :: u 75 :: u 76 :: u 77 :: u 78 :: u 79 :: u 80 :: u 81 :: u 82 :: u 83 :: u 84 :: u 85 :: u 86 :: u 87 :: u 88 :: u 89 :: u 90 :: u 91 :: []).toArray, defers := [] }) := ⟨_, Lib.hid rfl⟩
  refine wp_scope_two 1 0 (by decide) J Jm (fun _ w' => remOf w' W.heap.size) (by rfl) (by rfl) (by rfl) (by rfl) ?_ ?_ ?_
  · go_wp2_with (go_at_call 22; (with_reducible refine (hof _).mono ?_); rintro e w' ⟨rfl, rfl⟩)
    rw [HJ.out]
    exact ⟨_, _, _, rfl, Hfirst.out, frame_u _ _ _ _ _ _ _ _ rfl rfl rfl rfl rfl rfl rfl rfl rfl⟩
  · rintro a' wr hJ
    rw [HJ.out] at hJ
    obtain ⟨g, lst, mkv, hgW, ⟨rest, pre, mk, f, ts, A, n, c, LA, lc, rfl, hmk, rfl, hN, hA1, hb1, hlen, hBk, hBe, hown, htl, Hf, Hk⟩, u, rfl⟩ := hJ
    have hgl := hBk.lt
    have k0 := hBk.cell 0
    simp only [List.getElem?_toArray, List.getElem?_cons_zero] at k0
    have hn1 := hN.len
    have hM1 := hM.below hBe
    obtain ⟨f, rfl⟩ : ∃ f', f = f' + 1 := ⟨f - 1, by have := Hf.out; omega⟩
    have hst : r = (if rest.length = 0 ∨ mk = 2 then (ts, pre ++ rest, 0)
      else if (skipN rest).2 = true then (if (skipN rest).1 = 0 then ([], pre, 4) else lexGo f (rest.drop (skipN rest).1) (pre ++ rest.take (skipN rest).1) mk ts)
      else if (tokN rest).2.2.2 = 0 then
        lexGo f (rest.drop (tokN rest).2.2.1) (pre ++ rest.take (tokN rest).2.2.1) (if (tokN rest).1 = 9 then mk + 1 else mk) (ts ++ [((tokN rest).1, (tokN rest).2.1, pre)])
      else ([], pre, (tokN rest).2.2.2)) := by rw [← Hk.out]; rfl
    by_cases hend : rest.length = 0 ∨ mk = 2
    · rw [if_pos hend] at hst
      have Hfin := Lib.hid hst
      have HNs := Lib.hid hN
      have hw : (((n : Int) == 0) = true) ∨ (((n : Int) == 0) = false ∧ ((mk : Int) == 2) = true) := by
        simp only [beq_iff_eq, beq_eq_false_iff_ne, ne_eq]; omega
      clear hst hend Hk
      rcases hw with q0 | ⟨q0, q2⟩
      all_goals
        go_wp2
        go_step3
        refine .inr ⟨rfl, ?_⟩
        rw [HJm.out]
        exact ⟨g, _, _, hgW, ⟨rest, pre, ts, A, n, c, LA, lc, rfl, HNs.out, hA1, hlen, hBk, hBe, hown, Hfin⟩, frame_u _ _ _ _ _ _ _ _ rfl rfl rfl rfl rfl rfl rfl rfl rfl⟩
    rw [if_neg hend] at hst
    have hn0 : n ≠ 0 := by omega
    have q0 : ((n : Int) == 0) = false := by rw [beq_eq_false_iff_ne]; omega
    have q2 : ((mk : Int) == 2) = false := by rw [beq_eq_false_iff_ne]; omega
    have hmk1 : mk < 2 := by omega
    clear hend Hk
    obtain ⟨b, off, rfl, hbl, _⟩ := hN.at_ (by omega)
    have hsl := skipN_le rest (by omega)
    have hsk := lx_skipped (some ⟨b, off, none⟩) n c rest wr (hN.below hBe) hb1 (by omega) (by omega) hM1
    have hx1 := tokN_le rest (by omega)
    generalize skipN rest = sk at *
    obtain ⟨s, bl⟩ := sk
    simp only [] at hst hsl hsk
    cases bl
    case true =>
      simp only [if_true] at hst
      by_cases hs0 : s = 0
      · rw [if_pos hs0] at hst
        have q3 : ((s : Int) == 0) = true := by rw [beq_iff_eq]; omega
        have Hfin := Lib.hid hst
        have Hsk := Lib.hid hsk
        clear hst hsk hs0 hx1 hsl
        go_wp2_with (go_at_call 23; (with_reducible refine Hsk.out.mono ?_); rintro e w1 ⟨rfl, hbk⟩)
        have k1 := (hBk.below hbk hgl).cell 1
        simp only [List.getElem?_toArray, List.getElem?_cons_zero, List.getElem?_cons_succ] at k1
        obtain ⟨x, y, Hxy⟩ : ∃ x y, Hid (PA pre = .complex .f64 x y) := ⟨_, _, Lib.hid rfl⟩
        rw [Hxy.out] at k1
        have HB2 : Hid (Below W.heap.size W w1) := Lib.hid (below_tail hBe hbk)
        go_quiet (fail)
        go_wp2_with fail
        rw [jumps_ret]
        go_ret3
        rw [Hfin.out]
        exact ⟨none, 0, by rw [Hxy.out]; rfl, ⟨rfl, .inl ⟨rfl, rfl⟩⟩, HB2.out.trans (Same.below (show Same w1 (w1.drewN nq) from ⟨nq, rfl⟩) _)⟩
      · rw [if_neg hs0] at hst
        have q3 : ((s : Int) == 0) = false := by rw [beq_eq_false_iff_ne]; omega
        have hs1 : 1 ≤ s ∧ s ≤ n := by omega
        have Hfin := Lib.hid hst
        have Hsk := Lib.hid hsk
        have Hx1 := Lib.hid hx1
        clear hst hsk hx1 hsl
        go_wp2_with (go_at_call 23; (with_reducible refine Hsk.out.mono ?_); rintro e w1 ⟨rfl, hbk⟩)
        have hBe1 := below_tail hBe hbk
        have hBk1 := hBk.below hbk hgl
        have hown1 := own_belowS hown hbk
        have hp := lx_pass g b off n c s rest pre w1 hBk1 (hN.below hBe1) (by omega) hs1.2 (by omega) (by omega)
        have Hp := Lib.hid hp
        clear hp
        (with_reducible refine Hp.out.mono ?_)
        rintro e w2 ⟨rfl, hBk2, hO⟩
        have hown2 := own_only hown1 hBk1 (by decide) hO
        have hBe2 : Below W.heap.size W w2 := hBe1.trans (hO.below (Nat.le_of_eq hgW))
        have hN2 := nums_adv hN hs1.2
        have hb2 : ∀ y ∈ rest.drop s, y < 256 := fun y hy => hb1 y (List.mem_of_mem_drop hy)
        have hpl : (pre ++ rest.take s).length = pre.length + s := by rw [List.length_append, List.length_take]; omega
        have HR : Hid (LexRel W g n0 r (.slice LA ts.length lc) (.int .i64 (mk : Int)) w2) := Lib.hid
          ⟨rest.drop s, pre ++ rest.take s, mk, f, ts, _, n - s, c - s, LA, lc, rfl, hmk, rfl, hN2, adv_some, hb2, by omega, hBk2, hBe2, hown2, by omega, Lib.hid (by have := Hf.out; omega), Lib.hid Hfin.out.symm⟩
        have hrem : remOf w2 W.heap.size < remOf wr W.heap.size := by rw [hgW, remOf_blk hBk2, remOf_blk hBk]; omega
        have Hrem := Lib.hid hrem
        clear hrem hN2 hb2 hpl hown2 hBe2 Hp hBk2
        go_wp2_with fail
        go_step3
        refine .inl ⟨rfl, ?_, Hrem.out⟩
        rw [HJ.out]
        exact ⟨g, _, _, hgW, HR.out, frame_u _ _ _ _ _ _ _ _ rfl rfl rfl rfl rfl rfl rfl rfl rfl⟩
    case false =>
      simp only [Bool.false_eq_true, if_false] at hst
      have hcell1 : ∀ w', Below wr.heap.size wr w' → w'.cell? ⟨g, 0, none⟩ = some (.slice (some ⟨b, off, none⟩) n c) := fun w' h => by rw [h.cell (by exact hgl)]; exact k0
      have Hsk := Lib.hid (hsk.mono fun e w' h => (⟨h.1, h.2, hcell1 w' h.2⟩ : _ ∧ _ ∧ _))
      clear hsk hsl hcell1
      go_wp2_with (go_at_call 23; (with_reducible refine Hsk.out.mono ?_); rintro e w1 ⟨rfl, hbk, k01⟩)
      have hBe1 := below_tail hBe hbk
      have hBk1 := hBk.below hbk hgl
      have hown1 := own_belowS hown hbk
      have htk := lx_token (some ⟨b, off, none⟩) n c rest w1 (hN.below hBe1) hb1 (by omega) (by omega)
      generalize tokN rest = tk at *
      obtain ⟨kd, tx, m, er⟩ := tk
      simp only [] at hst htk hx1
      have Htk := Lib.hid htk
      clear htk
      by_cases he : er = 0
      · rw [if_pos he] at hst
        have q4 : ((er : Int) == 0) = true := by rw [beq_iff_eq]; omega
        have hm1 := hx1 he
        (with_reducible refine Htk.out.mono ?_)
        rintro e w2 ⟨rfl, hb2k⟩
        unfold TokV
        have hBe2 := below_tail hBe1 hb2k
        have hBk2 := hBk1.below hb2k hBk1.lt
        have hown2 := own_belowS hown1 hb2k
        have k02 := hBk2.cell 0
        have k12 := hBk2.cell 1
        simp only [List.getElem?_toArray, List.getElem?_cons_zero, List.getElem?_cons_succ] at k02 k12
        obtain ⟨x, y, Hxy⟩ : ∃ x y, Hid (PA pre = .complex .f64 x y) := ⟨_, _, Lib.hid rfl⟩
        rw [Hxy.out] at k12
        have k12a : ∀ o, (w2.alloc o).cell? ⟨g, 1, none⟩ = some (.complex .f64 x y) := fun o => by
          rw [((Below.refl w2.heap.size w2).alloc (Nat.le_refl _) o).cell (by exact hBk2.lt)]; exact k12
        have ksc : ∀ (w : World) (a : Addr) (k : FloatKind) (x y : Nat) (m : Mode), (store a (.complex k x y) m).run Try.prog w = stored Try.prog w a (.complex k x y) m := fun w a k x y m => run_store Try.prog w a _ m rfl
        have Hst := Lib.hid hst
        have Ho2 := Lib.hid hown2
        have Hb2 := Lib.hid hBe2
        clear hst he hx1 hown2 hBe2
        have hw9 : (((kd : Int) == 9) = true ∧ kd = 9) ∨ (((kd : Int) == 9) = false ∧ kd ≠ 9) := by
          simp only [beq_iff_eq, beq_eq_false_iff_ne, ne_eq]; omega
        rcases hw9 with ⟨q9, h9⟩ | ⟨q9, h9⟩
        · have H9 := Lib.hid h9
          clear h9
          have hi32 : (Try.prog.info? 38).map (fun i => (i.zero, i.size, i.bytes)) = some (some (.agg #[.int .i64 0, .string ⟨#[]⟩, .complex .f64 0 0]), 3, 40) := by kernel_rfl
          have Hi32 := Lib.hid hi32
          clear hi32
          have hT : (w2.alloc (.cells #[.int .i64 (kd : Int), .string (str tx), .complex .f64 x y] 38)).heap.size = w2.heap.size + 1 := by simp
          have HT := Lib.hid hT
          clear hT
          have Ho3 : Hid ((w2.alloc (.cells #[.int .i64 (kd : Int), .string (str tx), .complex .f64 x y] 38)).ownsRow W.heap.size 38 3 (.slice LA ts.length lc) ts.length (toksCells ts)) := Lib.hid (Ho2.out.alloc _)
          have Hsz : Hid (W.heap.size ≤ (w2.alloc (.cells #[.int .i64 (kd : Int), .string (str tx), .complex .f64 x y] 38)).heap.size) := Lib.hid (by rw [HT.out]; have := Hb2.out.size; omega)
          have Htl : Hid (ts.length + 1 ≤ 100000) := Lib.hid (by omega)
          go_wp2_with (at_builtin; refine wpl_appendS rfl _ _ 32 rfl W.heap.size 38 _ 3 40 Try.underlying32 Hi32.out (by decide) (by decide) LA ts.length lc (toksCells ts) rfl Ho3.out [.int .i64 (kd : Int), .string (str tx), .complex .f64 x y] rfl (by rw [HT.out]; rfl) (by simp [Value.oneCell']) (by have := Htl.out; omega) (by have := Htl.out; omega) Hsz.out ?_; intro A' c' w3 ho hg)
          have hBkA := hBk2.below ((Below.refl w2.heap.size w2).alloc (Nat.le_refl _) (.cells #[.int .i64 (kd : Int), .string (str tx), .complex .f64 x y] 38)) hBk2.lt
          have hBk3 := hBkA.grownO Ho3.out (by decide) hg
          have hBe3 := below_appendS (Hb2.out.alloc (Hb2.out.size) (.cells #[.int .i64 (kd : Int), .string (str tx), .complex .f64 x y] 38)) hg Ho3.out Hsz.out
          have hp := lx_pass g b off n c m rest pre w3 hBk3 (hN.below hBe3) (by omega) (by omega) (by omega) (by omega)
          (with_reducible refine hp.mono ?_)
          rintro e w4 ⟨rfl, hBk4, hO⟩
          have hown4 := own_only ho hBk3 (by decide) hO
          have hBe4 : Below W.heap.size W w4 := hBe3.trans (hO.below (Nat.le_of_eq hgW))
          have hN2 := nums_adv hN (s := m) (by omega)
          have hb2 : ∀ y ∈ rest.drop m, y < 256 := fun y hy => hb1 y (List.mem_of_mem_drop hy)
          have hpl : (pre ++ rest.take m).length = pre.length + m := by rw [List.length_append, List.length_take]; omega
          have htsl : (ts ++ [(kd, tx, pre)]).length = ts.length + 1 := by simp
          have HR : Hid (LexRel W g n0 r (.slice A' (ts.length + 1) c') (.int .i64 ((mk : Int) + 1)) w4) := Lib.hid
            ⟨rest.drop m, pre ++ rest.take m, mk + 1, f, ts ++ [(kd, tx, pre)], _, n - m, c - m, A', c', by simp, by omega, by rw [htsl], hN2, adv_some, hb2, by omega, hBk4, hBe4, by
              rw [htsl, toksCells_snoc]
              show w4.ownsRow _ _ _ _ _ (toksCells ts ++ [.int .i64 (kd : Int), .string (str tx), PA pre])
              rw [Hxy.out]
              exact hown4, by omega, Lib.hid (by have := Hf.out; omega), Lib.hid (by rw [Hst.out, if_pos H9.out])⟩
          have hrem : remOf w4 W.heap.size < remOf wr W.heap.size := by rw [hgW, remOf_blk hBk4, remOf_blk hBk]; omega
          have Hrem := Lib.hid hrem
          clear hrem hN2 hb2 hpl hown4 hBe4 hBk4 hp htsl
          go_wp2_with fail
          go_step3
          refine .inl ⟨rfl, ?_, Hrem.out⟩
          rw [HJ.out]
          exact ⟨g, _, _, hgW, HR.out, frame_u _ _ _ _ _ _ _ _ rfl rfl rfl rfl rfl rfl rfl rfl rfl⟩
        · have H9 := Lib.hid h9
          clear h9
          have hi32 : (Try.prog.info? 38).map (fun i => (i.zero, i.size, i.bytes)) = some (some (.agg #[.int .i64 0, .string ⟨#[]⟩, .complex .f64 0 0]), 3, 40) := by kernel_rfl
          have Hi32 := Lib.hid hi32
          clear hi32
          have hT : (w2.alloc (.cells #[.int .i64 (kd : Int), .string (str tx), .complex .f64 x y] 38)).heap.size = w2.heap.size + 1 := by simp
          have HT := Lib.hid hT
          clear hT
          have Ho3 : Hid ((w2.alloc (.cells #[.int .i64 (kd : Int), .string (str tx), .complex .f64 x y] 38)).ownsRow W.heap.size 38 3 (.slice LA ts.length lc) ts.length (toksCells ts)) := Lib.hid (Ho2.out.alloc _)
          have Hsz : Hid (W.heap.size ≤ (w2.alloc (.cells #[.int .i64 (kd : Int), .string (str tx), .complex .f64 x y] 38)).heap.size) := Lib.hid (by rw [HT.out]; have := Hb2.out.size; omega)
          have Htl : Hid (ts.length + 1 ≤ 100000) := Lib.hid (by omega)
          go_wp2_with (at_builtin; refine wpl_appendS rfl _ _ 32 rfl W.heap.size 38 _ 3 40 Try.underlying32 Hi32.out (by decide) (by decide) LA ts.length lc (toksCells ts) rfl Ho3.out [.int .i64 (kd : Int), .string (str tx), .complex .f64 x y] rfl (by rw [HT.out]; rfl) (by simp [Value.oneCell']) (by have := Htl.out; omega) (by have := Htl.out; omega) Hsz.out ?_; intro A' c' w3 ho hg)
          have hBkA := hBk2.below ((Below.refl w2.heap.size w2).alloc (Nat.le_refl _) (.cells #[.int .i64 (kd : Int), .string (str tx), .complex .f64 x y] 38)) hBk2.lt
          have hBk3 := hBkA.grownO Ho3.out (by decide) hg
          have hBe3 := below_appendS (Hb2.out.alloc (Hb2.out.size) (.cells #[.int .i64 (kd : Int), .string (str tx), .complex .f64 x y] 38)) hg Ho3.out Hsz.out
          have hp := lx_pass g b off n c m rest pre w3 hBk3 (hN.below hBe3) (by omega) (by omega) (by omega) (by omega)
          (with_reducible refine hp.mono ?_)
          rintro e w4 ⟨rfl, hBk4, hO⟩
          have hown4 := own_only ho hBk3 (by decide) hO
          have hBe4 : Below W.heap.size W w4 := hBe3.trans (hO.below (Nat.le_of_eq hgW))
          have hN2 := nums_adv hN (s := m) (by omega)
          have hb2 : ∀ y ∈ rest.drop m, y < 256 := fun y hy => hb1 y (List.mem_of_mem_drop hy)
          have hpl : (pre ++ rest.take m).length = pre.length + m := by rw [List.length_append, List.length_take]; omega
          have htsl : (ts ++ [(kd, tx, pre)]).length = ts.length + 1 := by simp
          have HR : Hid (LexRel W g n0 r (.slice A' (ts.length + 1) c') (.int .i64 (mk : Int)) w4) := Lib.hid
            ⟨rest.drop m, pre ++ rest.take m, mk, f, ts ++ [(kd, tx, pre)], _, n - m, c - m, A', c', by simp, by omega, by rw [htsl], hN2, adv_some, hb2, by omega, hBk4, hBe4, by
              rw [htsl, toksCells_snoc]
              show w4.ownsRow _ _ _ _ _ (toksCells ts ++ [.int .i64 (kd : Int), .string (str tx), PA pre])
              rw [Hxy.out]
              exact hown4, by omega, Lib.hid (by have := Hf.out; omega), Lib.hid (by rw [Hst.out, if_neg H9.out])⟩
          have hrem : remOf w4 W.heap.size < remOf wr W.heap.size := by rw [hgW, remOf_blk hBk4, remOf_blk hBk]; omega
          have Hrem := Lib.hid hrem
          clear hrem hN2 hb2 hpl hown4 hBe4 hBk4 hp htsl
          go_wp2_with fail
          go_step3
          refine .inl ⟨rfl, ?_, Hrem.out⟩
          rw [HJ.out]
          exact ⟨g, _, _, hgW, HR.out, frame_u _ _ _ _ _ _ _ _ rfl rfl rfl rfl rfl rfl rfl rfl rfl⟩
      · rw [if_neg he] at hst
        have q4 : ((er : Int) == 0) = false := by rw [beq_eq_false_iff_ne]; omega
        have Hfin := Lib.hid hst
        have HB2 : Hid (∀ w2, Below w1.heap.size w1 w2 → Below W.heap.size W w2) := Lib.hid fun w2 h => below_tail hBe1 h
        clear hst he hx1
        (with_reducible refine Htk.out.mono ?_)
        rintro e w2 ⟨rfl, hb2k⟩
        unfold TokV
        have hBk2 := hBk1.below hb2k hBk1.lt
        have k12 := hBk2.cell 1
        simp only [List.getElem?_toArray, List.getElem?_cons_zero, List.getElem?_cons_succ] at k12
        obtain ⟨x, y, Hxy⟩ : ∃ x y, Hid (PA pre = .complex .f64 x y) := ⟨_, _, Lib.hid rfl⟩
        rw [Hxy.out] at k12
        have k12a : ∀ o, (w2.alloc o).cell? ⟨g, 1, none⟩ = some (.complex .f64 x y) := fun o => by
          rw [((Below.refl w2.heap.size w2).alloc (Nat.le_refl _) o).cell (by exact hBk2.lt)]; exact k12
        have ksc : ∀ (w : World) (a : Addr) (k : FloatKind) (x y : Nat) (m : Mode), (store a (.complex k x y) m).run Try.prog w = stored Try.prog w a (.complex k x y) m := fun w a k x y m => run_store Try.prog w a _ m rfl
        have hBo : ∀ o, Below W.heap.size W (w2.alloc o) := fun o => (HB2.out w2 hb2k).alloc (HB2.out w2 hb2k).size o
        have HBo := Lib.hid hBo
        clear hBo
        go_wp2_with fail
        go_quiet (fail)
        go_wp2_with fail
        rw [jumps_ret]
        go_ret3
        rw [Hfin.out]
        exact ⟨none, 0, by rw [Hxy.out]; rfl, ⟨rfl, .inl ⟨rfl, rfl⟩⟩, (HBo.out _).trans (Same.below (show Same _ (World.drewN _ nq) from ⟨nq, rfl⟩) _)⟩
  · rintro a' wr hJ
    rw [HJm.out] at hJ
    obtain ⟨g, lst, mkv, hgW, ⟨rest, pre, ts, A, n, c, LA, lc, rfl, hN, hA1, hlen, hBk, hBe, hown, Hk⟩, u, rfl⟩ := hJ
    have hgl := hBk.lt
    have k0 := hBk.cell 0
    simp only [List.getElem?_toArray, List.getElem?_cons_zero] at k0
    have hn1 := hN.len
    by_cases h0 : n = 0
    · subst h0
      have hp := lx_pass0 g c A pre wr hBk hA1 hN.cap.2
      have hr0 : rest = [] := List.eq_nil_of_length_eq_zero hn1
      have Hk2 : Hid (r = (ts, pre, 0)) := Lib.hid (by rw [Hk.out, hr0, List.append_nil])
      have Hp := Lib.hid hp
      clear hp
      go_wp2_with (go_at_call 24; (with_reducible refine Hp.out.mono ?_); rintro e w2 ⟨rfl, ⟨v, hBk2⟩, hO⟩)
      have k1 := hBk2.cell 1
      simp only [List.getElem?_toArray, List.getElem?_cons_zero, List.getElem?_cons_succ] at k1
      obtain ⟨x, y, Hxy⟩ : ∃ x y, Hid (PA pre = .complex .f64 x y) := ⟨_, _, Lib.hid rfl⟩
      rw [Hxy.out] at k1
      have hB2 : Below W.heap.size W w2 := hBe.trans (hO.below (Nat.le_of_eq hgW))
      have ho2 := own_only hown hBk (by decide) hO
      have HB2 := Lib.hid hB2
      have Ho2 := Lib.hid ho2
      clear hB2 ho2
      go_quiet (fail)
      go_wp2_with fail
      rw [nogo_ret]
      go_ret3
      rw [Hk2.out]
      exact ⟨LA, lc, by rw [Hxy.out]; rfl, Ho2.out, HB2.out.trans (Same.below (show Same w2 (w2.drewN nq) from ⟨nq, rfl⟩) _)⟩
    · obtain ⟨b, off, rfl, hbl, _⟩ := hN.at_ (by omega)
      have hp := lx_pass g b off n c n rest pre wr hBk (hN.below hBe) (by omega) (Nat.le_refl _) (by omega) (by omega)
      rw [List.take_of_length_le (Nat.le_of_eq hn1)] at hp
      have Hp := Lib.hid hp
      clear hp
      go_wp2_with (go_at_call 24; (with_reducible refine Hp.out.mono ?_); rintro e w2 ⟨rfl, hBk2, hO⟩)
      have k1 := hBk2.cell 1
      simp only [List.getElem?_toArray, List.getElem?_cons_zero, List.getElem?_cons_succ] at k1
      obtain ⟨x, y, Hxy⟩ : ∃ x y, Hid (PA (pre ++ rest) = .complex .f64 x y) := ⟨_, _, Lib.hid rfl⟩
      rw [Hxy.out] at k1
      have hB2 : Below W.heap.size W w2 := hBe.trans (hO.below (Nat.le_of_eq hgW))
      have ho2 := own_only hown hBk (by decide) hO
      have HB2 := Lib.hid hB2
      have Ho2 := Lib.hid ho2
      clear hB2 ho2
      go_quiet (fail)
      go_wp2_with fail
      rw [nogo_ret]
      go_ret3
      rw [Hk.out]
      exact ⟨LA, lc, by rw [Hxy.out]; rfl, Ho2.out, HB2.out.trans (Same.below (show Same w2 (w2.drewN nq) from ⟨nq, rfl⟩) _)⟩
end Go.Proofs.Ytdeiipbnaknedaa
