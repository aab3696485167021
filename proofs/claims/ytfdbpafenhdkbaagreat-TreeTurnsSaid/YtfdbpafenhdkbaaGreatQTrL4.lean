/- trees: the law TreeTurns, walked. -/
import Derived.Test.YtfdbpafenhdkbaaGreatQTrA
import Derived.Test.YtfdbpafenhdkbaaGreatQTrD1
import Derived.Test.YtfdbpafenhdkbaaGreatQTrR6
namespace Go.Proofs.YtfdbpafenhdkbaaGreat
open Go.RowKit
set_option linter.unusedVariables false
set_option linter.unusedSimpArgs false

set_option maxRecDepth 100000 in
set_option maxHeartbeats 4000000 in
theorem treeTurns_walk (h : GH) (G : Gr) (Ar : Option Addr) (nr cr : Nat) (zs : List Int) (w : World) (hgi : GrIn w h G) (hrow : IsRow .i64 w Ar nr cr zs) :
    Calls Tryz.prog 8 #[GV h G.start, .slice Ar nr cr] w fun e w' => e = .returned (.bool true) ∧ Below w.heap.size w w' := by
  obtain ⟨ss, hr, hwf⟩ := hrow.ints
  obtain rfl := hr.len
  have hcap := hr.cap
  obtain ⟨hg, hs, hst⟩ := hgi
  obtain ⟨a1, n1, c1, a2, n2, c2, a3, n3, c3⟩ := h
  have e1 : G.terms.length = n1 := hg.terms.len
  have e2 : G.nons.length = n2 := hg.nons.len
  have e3 : G.rules.length = n3 := hg.rules.len
  have hB0 := alloc_below w (.cells #[.slice a1 n1 c1, .slice a2 n2 c2, .slice a3 n3 c3, .int .i64 G.start] 26)
  have hbox := GBox.new w 26 ⟨a1, n1, c1, a2, n2, c2, a3, n3, c3⟩ G.start
  have CA := Lib.hid alive21
  have Hg := Lib.hid hg
  have Hs := Lib.hid hs
  have Hr := Lib.hid hr
  have HwfS : Hid (∀ s ∈ ss, InI64 s) := Lib.hid fun s hs => bounds_i64 (hwf s hs)
  clear hst hg hs hrow hwf hr
  go_enter Tryz.func8, Tryz.ntmps8
  go_wp2_with fail
  generalize w.alloc (.cells #[.slice a1 n1 c1, .slice a2 n2 c2, .slice a3 n3 c3, .int .i64 G.start] 26) = W0 at *
  (with_reducible refine (CA.out W0).mono ?_)
  rintro e W1 ⟨rfl, hb1⟩
  have hB1 := below_tail hB0 hb1
  have hbx1 := hbox.below hb1
  have ⟨y5, y0, y1, y2, y3⟩ := hbx1
  simp only [] at y0 y1 y2 y3
  go_wp2_with fail
  (with_reducible refine (rf_great ⟨a1, n1, c1, a2, n2, c2, a3, n3, c3⟩ G W1 (Hg.out.below hB1)).mono ?_)
  rintro e W2 ⟨rfl, hb2⟩
  have hB2 := below_tail hB1 hb2
  have hbx2 := hbx1.below hb2
  clear y0 y1 y2 y3 hbox hbx1 y5
  have ⟨y5, y0, y1, y2, y3⟩ := hbx2
  simp only [] at y0 y1 y2 y3
  rcases hgr : G.great with _ | _
  case' true =>
    clear hgr
    go_wp2_with fail
    go_ret
    exact ⟨rfl, hB2⟩
  obtain ⟨l1, l2, l3, _⟩ := great_false hgr
  rw [e1] at l1
  rw [e2] at l2
  rw [e3] at l3
  clear hgr
  by_cases h400 : (400 : Int) < (ss.length : Int)
  · go_wp2_with fail
    go_ret
    exact ⟨rfl, hB2⟩
  have HB2 := Lib.hid hB2
  have Hbx2 := Lib.hid hbx2
  clear hB2 hbx2 hB0 hB1 hb1 hb2
  have CR := Lib.hid (tr_Reductions ⟨a1, n1, c1, a2, n2, c2, a3, n3, c3⟩ G Ar ss.length cr ss W2 (Hg.out.below HB2.out) Hs.out (Hr.out.below HB2.out) (by omega) (by simp only []; omega) (by simp only []; omega) (by simp only []; omega))
  have CV := Lib.hid (fun W (hW : Below w.heap.size w W) => rf21_Reductions ⟨a1, n1, c1, a2, n2, c2, a3, n3, c3⟩ G Ar ss.length cr ss W (Hg.out.below hW) (Hr.out.below hW) (by omega) (by simp only []; omega) (by simp only []; omega) (by simp only []; omega))
  have CO := Lib.hid (fun W (hW : Below w.heap.size w W) => tr_Of ⟨a1, n1, c1, a2, n2, c2, a3, n3, c3⟩ G Ar ss.length cr ss W (Hg.out.below hW) Hs.out (Hr.out.below hW) (by omega) (by simp only []; omega) (by simp only []; omega) (by simp only []; omega))
  have CX := Lib.hid (fun W (hW : Below w.heap.size w W) => rf21_Of ⟨a1, n1, c1, a2, n2, c2, a3, n3, c3⟩ G Ar ss.length cr ss W (Hg.out.below hW) (Hr.out.below hW) (by omega) (by simp only []; omega) (by simp only []; omega) (by simp only []; omega))
  have hee : ofE G = 1 ∨ ofE G = 3 := by
    unfold ofE
    split
    · exact .inr rfl
    · exact .inl rfl
  obtain ⟨eo, Heo, heo⟩ : ∃ eo, Hid (ofE G = eo) ∧ (eo = 1 ∨ eo = 3) := ⟨_, Lib.hid rfl, hee⟩
  rw [Heo.out] at CO CX
  clear hee
  go_wp2_with fail
  (with_reducible refine CR.out.mono ?_)
  rintro e W3 ⟨hb3, hc3⟩
  have HB3 := Lib.hid (below_tail HB2.out hb3)
  have Hbx3 := Lib.hid (Hbx2.out.below hb3)
  clear y0 y1 y2 y3 y5
  have ⟨y5, y0, y1, y2, y3⟩ := Hbx3.out
  simp only [] at y0 y1 y2 y3
  obtain ⟨ps, A3, c3', e3v, rfl, Hp3, Hcase⟩ : ∃ (ps : List Int) (A3 : Option Addr) (c3' : Nat) (e3v : Int), e = .returned (.tuple #[.slice A3 ps.length c3', .int .i64 e3v]) ∧ Hid (Ints .i64 W3 A3 ps.length c3' ps) ∧ Hid ((readT G ss = none ∧ ps = [] ∧ e3v = 1) ∨ (∃ wd k, readT G ss = some (wd, ps, k) ∧ e3v = 0)) := by
    rcases hc3 with ⟨hn, he⟩ | ⟨wd, ps, k, A, c', hn, he, hi⟩
    · exact ⟨[], none, 0, 1, he, Lib.hid (Ints.nil _ _ _ _ (by omega)), Lib.hid (.inl ⟨hn, rfl, rfl⟩)⟩
    · exact ⟨ps, A, c', 0, he, Lib.hid hi, Lib.hid (.inr ⟨wd, k, hn, rfl⟩)⟩
  clear hb3 hc3
  go_wp2_with fail
  (with_reducible refine (CV.out _ HB3.out).mono ?_)
  rintro e W4 ⟨hb4, hc4⟩
  have HB4 := Lib.hid (below_tail HB3.out hb4)
  have Hbx4 := Lib.hid (Hbx3.out.below hb4)
  clear y0 y1 y2 y3 y5
  have ⟨y5, y0, y1, y2, y3⟩ := Hbx4.out
  simp only [] at y0 y1 y2 y3
  obtain ⟨A4, c4', rfl, Hp4⟩ : ∃ (A4 : Option Addr) (c4' : Nat), e = .returned (.tuple #[.slice A4 ps.length c4', .int .i64 e3v]) ∧ Hid (Ints .i64 W4 A4 ps.length c4' ps) := by
    rcases Hcase.out with ⟨hn, rfl, rfl⟩ | ⟨wd, k, hn, rfl⟩
    · obtain ⟨_, he⟩ := hc4.resolve_right (fun hc => by obtain ⟨_, _, _, _, _, h1, _⟩ := hc; rw [hn] at h1; cases h1)
      exact ⟨none, 0, he, Lib.hid (Ints.nil _ _ _ _ (by omega))⟩
    · obtain ⟨wd2, ps2, k2, A, c', hn2, he, hi⟩ := hc4.resolve_left (fun hc => by have := hc.1.symm.trans hn; cases this)
      obtain rfl : ps2 = ps := by
        have := hn2.symm.trans hn
        simp only [Option.some.injEq, Prod.mk.injEq] at this
        exact this.2.1
      exact ⟨A, c', he, Lib.hid hi⟩
  have Hp34 := Lib.hid (Hp3.out.below hb4)
  clear hb4 hc4
  go_wp2_with fail
  (with_reducible refine (CO.out _ HB4.out).mono ?_)
  rintro e W5 ⟨hb5, hc5⟩
  have HB5 := Lib.hid (below_tail HB4.out hb5)
  have Hbx5 := Lib.hid (Hbx4.out.below hb5)
  clear y0 y1 y2 y3 y5
  have ⟨y5, y0, y1, y2, y3⟩ := Hbx5.out
  simp only [] at y0 y1 y2 y3
  obtain ⟨us, A5, c5', e5v, rfl, Hp5, Hcas5⟩ : ∃ (us : List Int) (A5 : Option Addr) (c5' : Nat) (e5v : Int), e = .returned (.tuple #[.slice A5 us.length c5', .int .i64 e5v]) ∧ Hid (Ints .i64 W5 A5 us.length c5' us) ∧ Hid ((ofT G ss = none ∧ us = [] ∧ e5v = eo) ∨ (ofT G ss = some us ∧ e5v = 0)) := by
    rcases hc5 with ⟨hn, he⟩ | ⟨us, A, c', hn, he, hi⟩
    · exact ⟨[], none, 0, eo, he, Lib.hid (Ints.nil _ _ _ _ (by omega)), Lib.hid (.inl ⟨hn, rfl, rfl⟩)⟩
    · exact ⟨us, A, c', 0, he, Lib.hid hi, Lib.hid (.inr ⟨hn, rfl⟩)⟩
  have Hp35 := Lib.hid (Hp34.out.below hb5)
  have Hp45 := Lib.hid (Hp4.out.below hb5)
  clear hb5 hc5
  go_wp2_with fail
  (with_reducible refine (CX.out _ HB5.out).mono ?_)
  rintro e W6 ⟨hb6, hc6⟩
  have HB6 := Lib.hid (below_tail HB5.out hb6)
  have Hbx6 := Lib.hid (Hbx5.out.below hb6)
  clear y0 y1 y2 y3 y5
  have ⟨y5, y0, y1, y2, y3⟩ := Hbx6.out
  simp only [] at y0 y1 y2 y3
  obtain ⟨A6, c6', rfl, Hp6⟩ : ∃ (A6 : Option Addr) (c6' : Nat), e = .returned (.tuple #[.slice A6 us.length c6', .int .i64 e5v]) ∧ Hid (Ints .i64 W6 A6 us.length c6' us) := by
    rcases Hcas5.out with ⟨hn, rfl, rfl⟩ | ⟨hn, rfl⟩
    · obtain ⟨_, he⟩ := hc6.resolve_right (fun hc => by obtain ⟨_, _, _, h1, _⟩ := hc; rw [hn] at h1; cases h1)
      exact ⟨none, 0, he, Lib.hid (Ints.nil _ _ _ _ (by omega))⟩
    · obtain ⟨us2, A, c', hn2, he, hi⟩ := hc6.resolve_left (fun hc => by have := hc.1.symm.trans hn; cases this)
      obtain rfl : us2 = us := by
        have := hn2.symm.trans hn
        injection this
      exact ⟨A, c', he, Lib.hid hi⟩
  have Hp36 := Lib.hid (Hp35.out.below hb6)
  have Hp46 := Lib.hid (Hp45.out.below hb6)
  have Hp56 := Lib.hid (Hp5.out.below hb6)
  have cI := ref_ints A3 ps.length c3' ps A4 ps.length c4' ps W6 Hp36.out Hp46.out
  rw [show (ps == ps) = true by simp] at cI
  have CI := Lib.hid cI
  have cJ := fun W (hW : Below W6.heap.size W6 W) => ref_ints A5 us.length c5' us A6 us.length c6' us W (Hp56.out.below hW) (Hp6.out.below hW)
  rw [show (us == us) = true by simp] at cJ
  have CJ := Lib.hid cJ
  clear hb6 hc6 cI cJ heo
  go_wp2_with fail
  (with_reducible refine CI.out.mono ?_)
  rintro e W7 ⟨rfl, hS7⟩
  have hb7 := hS7.below W6.heap.size
  have HB7 := Lib.hid (below_tail HB6.out hb7)
  have CJ7 := Lib.hid (CJ.out W7 hb7)
  clear hS7 hb7
  go_wp2_with fail
  (with_reducible refine CJ7.out.mono ?_)
  rintro e W8 ⟨rfl, hS8⟩
  have HB8 := Lib.hid (below_tail HB7.out (hS8.below W7.heap.size))
  clear hS8
  go_wp2_with fail
  go_ret
  exact ⟨by simp, HB8.out⟩
end Go.Proofs.YtfdbpafenhdkbaaGreat
