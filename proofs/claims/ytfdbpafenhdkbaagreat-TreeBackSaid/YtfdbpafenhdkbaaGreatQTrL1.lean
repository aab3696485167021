/- trees: the law TreeBack, walked. -/
import Derived.Test.YtfdbpafenhdkbaaGreatQTrA
import Derived.Test.YtfdbpafenhdkbaaGreatQTrB
namespace Go.Proofs.YtfdbpafenhdkbaaGreat
open Go.RowKit
set_option linter.unusedVariables false
set_option linter.unusedSimpArgs false

set_option maxRecDepth 100000 in
set_option maxHeartbeats 4000000 in
theorem treeBack_walk (h : GH) (G : Gr) (Ar : Option Addr) (nr cr : Nat) (zs : List Int) (w : World) (hgi : GrIn w h G) (hrow : IsRow .i64 w Ar nr cr zs) :
    Calls Tryz.prog 9 #[GV h G.start, .slice Ar nr cr] w fun e w' => e = .returned (.bool true) ∧ Below w.heap.size w w' := by
  obtain ⟨ss, hr, hwf⟩ := hrow.ints
  obtain rfl := hr.len
  have hcap := hr.cap
  obtain ⟨hg, hs, hst⟩ := hgi
  obtain ⟨a1, n1, c1, a2, n2, c2, a3, n3, c3⟩ := h
  have e1 : G.terms.length = n1 := hg.terms.len
  have e2 : G.nons.length = n2 := hg.nons.len
  have e3 : G.rules.length = n3 := hg.rules.len
  have hB0 := alloc_below w (.cells #[.slice a1 n1 c1, .slice a2 n2 c2, .slice a3 n3 c3, .int .i64 G.start] 26)
  have hbox := GBox.new w 26 ⟨a1, n1, c1, a2, n2, c2, a3, n3, c3⟩ G.start
  have CA := Lib.hid alive21
  have Hg := Lib.hid hg
  have Hs := Lib.hid hs
  have Hr := Lib.hid hr
  clear hst hg hs hrow hwf hr
  go_enter Tryz.func9, Tryz.ntmps9
  go_wp2_with fail
  generalize w.alloc (.cells #[.slice a1 n1 c1, .slice a2 n2 c2, .slice a3 n3 c3, .int .i64 G.start] 26) = W0 at *
  (with_reducible refine (CA.out W0).mono ?_)
  rintro e W1 ⟨rfl, hb1⟩
  have hB1 := below_tail hB0 hb1
  have hbx1 := hbox.below hb1
  have ⟨y5, y0, y1, y2, y3⟩ := hbx1
  simp only [] at y0 y1 y2 y3
  go_wp2_with fail
  (with_reducible refine (rf_great ⟨a1, n1, c1, a2, n2, c2, a3, n3, c3⟩ G W1 (Hg.out.below hB1)).mono ?_)
  rintro e W2 ⟨rfl, hb2⟩
  have hB2 := below_tail hB1 hb2
  have hbx2 := hbx1.below hb2
  clear y0 y1 y2 y3 hbox hbx1 y5
  have ⟨y5', y0, y1, y2, y3⟩ := hbx2
  simp only [] at y0 y1 y2 y3
  rcases hgr : G.great with _ | _
  · obtain ⟨l1, l2, l3, _⟩ := great_false hgr
    rw [e1] at l1
    rw [e2] at l2
    rw [e3] at l3
    clear hgr
    by_cases h400 : (400 : Int) < (ss.length : Int)
    · go_wp2_with fail
      go_ret
      exact ⟨rfl, hB2⟩
    · have C1 := Lib.hid (tr_Reductions ⟨a1, n1, c1, a2, n2, c2, a3, n3, c3⟩ G Ar ss.length cr ss W2 (Hg.out.below hB2) Hs.out (Hr.out.below hB2) (by omega) (by simp only []; omega) (by simp only []; omega) (by simp only []; omega))
      have HB2 := Lib.hid hB2
      have Hbx2 := Lib.hid hbx2
      clear hB2 hbx2 hB0 hB1 hb1 hb2
      go_wp2_with fail
      (with_reducible refine C1.out.mono ?_)
      rintro e W3 ⟨hb3, hcase⟩
      have HB3 := Lib.hid (below_tail HB2.out hb3)
      have Hbx3 := Lib.hid (Hbx2.out.below hb3)
      have CO := Lib.hid (fun W (hW : Below w.heap.size w W) => tr_Of ⟨a1, n1, c1, a2, n2, c2, a3, n3, c3⟩ G Ar ss.length cr ss W (Hg.out.below hW) Hs.out (Hr.out.below hW) (by omega) (by simp only []; omega) (by simp only []; omega) (by simp only []; omega))
      rcases hcase with ⟨hn, rfl⟩ | ⟨wd, ps, k, A, c', hn, rfl, hps⟩
      case' inl =>
        clear y0 y1 y2 y3 y5' hn
        have ⟨y5, y0, y1, y2, y3⟩ := Hbx3.out
        simp only [] at y0 y1 y2 y3
        go_wp2_with fail
        have HB5 := HB3
        have Hbx5 := Hbx3
        obtain ⟨W5, hW5⟩ : ∃ W5, W5 = W3 := ⟨_, rfl⟩
        subst hW5
      case' inr =>
        have Hb1 := Lib.hid (tree_back1 hn)
        obtain ⟨hrt, hl300, hfs⟩ := readT_parts hn
        have hpl := hfs.len
        have C2 := Lib.hid (tr_Of ⟨a1, n1, c1, a2, n2, c2, a3, n3, c3⟩ G A ps.length c' ps W3 (Hg.out.below HB3.out) Hs.out hps (by omega) (by simp only []; omega) (by simp only []; omega) (by simp only []; omega))
        clear y0 y1 y2 y3 y5' hn hps hrt hfs hpl
        have ⟨y5, y0, y1, y2, y3⟩ := Hbx3.out
        simp only [] at y0 y1 y2 y3
        go_wp2_with fail
        (with_reducible refine C2.out.mono ?_)
        rintro e W4 ⟨hb4, hc4⟩
        obtain ⟨t2, A2, c2', hn2, rfl, ht2⟩ := hc4.resolve_left (fun hc => by have := hc.1.symm.trans Hb1.out; cases this)
        have HB4 := Lib.hid (below_tail HB3.out hb4)
        have Hbx4 := Lib.hid (Hbx3.out.below hb4)
        have hts : t2 = ss := by
          have := hn2.symm.trans Hb1.out
          injection this
        have hlt2 : t2.length = ss.length := by rw [hts]
        have CI0 := ref_ints A2 t2.length c2' t2 Ar ss.length cr ss W4 ht2 (Hr.out.below HB4.out)
        rw [show (t2 == ss) = true by rw [hts]; simp] at CI0
        have CI := Lib.hid CI0
        clear y0 y1 y2 y3 y5 hn2 hb4 ht2 CI0 hc4 hts hlt2
        have ⟨y5, y0, y1, y2, y3⟩ := Hbx4.out
        simp only [] at y0 y1 y2 y3
        go_wp2_with fail
        (with_reducible refine CI.out.mono ?_)
        rintro e W5 ⟨rfl, hS⟩
        have HB5 := Lib.hid (below_tail HB4.out (hS.below _))
        have Hbx5 := Lib.hid (Hbx4.out.below (hS.below _))
        clear y0 y1 y2 y3 y5 hS
        have ⟨y5, y0, y1, y2, y3⟩ := Hbx5.out
        simp only [] at y0 y1 y2 y3
        go_wp2_with fail
      all_goals
        (with_reducible refine (CO.out _ HB5.out).mono ?_)
        rintro e W6 ⟨hb6, hc6⟩
        have HB6 := Lib.hid (below_tail HB5.out hb6)
        have Hbx6 := Lib.hid (Hbx5.out.below hb6)
        rcases hc6 with ⟨hn6, rfl⟩ | ⟨u, Au, cu, hn6, rfl, hu⟩
        · have hee : ofE G = 1 ∨ ofE G = 3 := by
            unfold ofE
            split
            · exact .inr rfl
            · exact .inl rfl
          clear hn6 y0 y1 y2 y3 y5
          rcases hee with hee | hee
          all_goals
            rw [hee]
            clear hee
            go_wp2_with fail
            go_ret
            exact ⟨rfl, HB6.out⟩
        · obtain ⟨wd6, k6, hrd⟩ := tree_back2 hn6
          obtain ⟨hrt, hl300, hfs⟩ := readT_parts hrd
          have Hrd := Lib.hid hrd
          have C3 := Lib.hid (tr_Reductions ⟨a1, n1, c1, a2, n2, c2, a3, n3, c3⟩ G Au u.length cu u W6 (Hg.out.below HB6.out) Hs.out hu (by omega) (by simp only []; omega) (by simp only []; omega) (by simp only []; omega))
          clear hn6 hrd hrt hfs hu y0 y1 y2 y3 y5
          have ⟨y5, y0, y1, y2, y3⟩ := Hbx6.out
          simp only [] at y0 y1 y2 y3
          go_wp2_with fail
          (with_reducible refine C3.out.mono ?_)
          rintro e W7 ⟨hb7, hc7⟩
          obtain ⟨wd7, ps7, k7, A7, c7, hn7, rfl, hi7⟩ := hc7.resolve_left (fun hc => by have := hc.1.symm.trans Hrd.out; cases this)
          have hps7 : ps7 = ss := by
            have := hn7.symm.trans Hrd.out
            injection this with this
            injection this with _ this
            injection this
          have HB7 := Lib.hid (below_tail HB6.out hb7)
          have CI0 := ref_ints A7 ps7.length c7 ps7 Ar ss.length cr ss W7 hi7 (Hr.out.below HB7.out)
          rw [show (ps7 == ss) = true by rw [hps7]; simp] at CI0
          have CI := Lib.hid CI0
          clear hn7 hi7 hb7 CI0 hc7 hps7 y0 y1 y2 y3 y5
          go_wp2_with fail
          (with_reducible refine CI.out.mono ?_)
          rintro e W8 ⟨rfl, hS⟩
          have HB8 := Lib.hid (below_tail HB7.out (hS.below _))
          clear hS
          go_wp2_with fail
          go_ret
          exact ⟨rfl, HB8.out⟩
  · clear hgr
    go_wp2_with fail
    go_ret
    exact ⟨rfl, hB2⟩
end Go.Proofs.YtfdbpafenhdkbaaGreat
