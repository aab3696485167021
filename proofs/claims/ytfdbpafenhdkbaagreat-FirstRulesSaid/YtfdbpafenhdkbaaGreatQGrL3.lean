/- first: the law of parts, walked, but for the fixed fact. -/
import Derived.Test.YtfdbpafenhdkbaaGreatQGrL2
import Derived.Test.YtfdbpafenhdkbaaGreatQGrF3
namespace Go.Proofs.YtfdbpafenhdkbaaGreat
open Go.RowKit
set_option linter.unusedVariables false
set_option linter.unusedSimpArgs false

theorem u8_nat {a : Int} (h : (Lit.int .u8 a).wf = true) : ∃ n : Nat, a = (n : Int) ∧ n < 256 := by
  have h0 : 0 ≤ a ∧ a ≤ 255 := by
    simpa [Lit.wf, IntKind.min, IntKind.max, IntKind.bits, IntKind.signed] using h
  exact ⟨a.toNat, by omega, by omega⟩
theorem allP_take {N : List Bool} {ss : List Int} {k : Nat} {s : Int} (h : ss[k]? = some s) : allP false N (ss.take (k + 1)) = (allP false N (ss.take k) && (if 0 ≤ s then false else N.getD (nonI s) false)) := by
  unfold allP
  rw [List.take_add_one, h]
  simp
theorem has_all {G : Gr} {ss : List Int} (h : ∀ (j : Nat) y, ss[j]? = some y → G.has y = true) : ss.all G.has = true := by
  rw [List.all_eq_true]
  intro y hy
  obtain ⟨j, hj⟩ := List.getElem?_of_mem hy
  exact h j y hj
theorem has_hi {G : Gr} {s : Int} (h : G.has s = true) : s < (G.terms.length : Int) := by
  unfold Gr.has at h
  split at h
  · simpa using h
  · omega
theorem ofN_has {G : Gr} (hr : G.right = true) {ss : List Int} (h : ss.all G.has = true) (rest : Nat) : G.ofN ss rest = beginP (nullN G) (firstN G) ss rest := by
  unfold Gr.ofN
  rw [hr, h]
  rfl
theorem ofN_lt' {G : Gr} {ss : List Int} {rest : Nat} (hr : rest < 4294967296) : G.ofN ss rest < 4294967296 := by
  unfold Gr.ofN
  split
  · exact beginGo_lt _ (firstN_small G) hr _ _ (by decide)
  · decide
/-- the parts begin with what the whole does -/
theorem ofN_parts {G : Gr} (hr : G.right = true) {ss : List Int} (h : ss.all G.has = true) (k rest : Nat) : G.ofN (ss.take k) (G.ofN (ss.drop k) rest) = G.ofN ss rest := by
  have h1 : (ss.take k).all G.has = true := by rw [List.all_eq_true] at h ⊢; exact fun y hy => h y (List.mem_of_mem_take hy)
  have h2 : (ss.drop k).all G.has = true := by rw [List.all_eq_true] at h ⊢; exact fun y hy => h y (List.mem_of_mem_drop hy)
  rw [ofN_has hr h1, ofN_has hr h2, ofN_has hr h, ← beginP_parts, List.take_append_drop]
theorem and_ne {V n : Nat} : ((V &&& 2 ^ n) != 0) = V.testBit n := by
  rw [and_pow]
  cases V.testBit n
  · rfl
  · have : (2 : Nat) ^ n ≠ 0 := Nat.pos_iff_ne_zero.1 (Nat.two_pow_pos n)
    simp
theorem ofN_end {G : Gr} (hr : G.right = true) {ss : List Int} (h : ss.all G.has = true) : ((G.ofN ss (2 ^ G.terms.length) &&& 2 ^ G.terms.length) != 0) = allP false (nullN G) ss := by
  have hf := Gr.fits hr
  rw [and_ne, ofN_has hr h]
  have := beginP_end hf ss fun s hs => has_hi (by rw [List.all_eq_true] at h; exact h s hs)
  rw [show (bitN (G.terms.length : Int)) = 2 ^ G.terms.length by have := hf.n1; simp [bitN]; omega] at this
  exact this

set_option maxRecDepth 100000 in
set_option maxHeartbeats 4000000 in
theorem firstParts_walk' (hal : Alive12) (h : GH) (G : Gr) (Ar : Option Addr) (nr cr : Nat) (zs : List Int) (x : Int) (w : World) (hgi : GrIn w h G) (hrow : IsRow .i64 w Ar nr cr zs) (hx : (Lit.int .u8 x).wf = true) :
    Calls Tryz.prog 5 #[GV h G.start, .slice Ar nr cr, .int .u8 x] w fun e w' => e = .returned (.bool true) ∧ Below w.heap.size w w' := by
  obtain ⟨ss, hr, hwf⟩ := hrow.ints
  obtain ⟨at', rfl, hat⟩ := u8_nat hx
  have hw : ∀ s ∈ ss, InI64 s := fun s hs => bounds_i64 (hwf s hs)
  obtain rfl := hr.len
  have hcap := hr.cap
  obtain ⟨hg, hs, hst⟩ := hgi
  obtain ⟨a1, n1, c1, a2, n2, c2, a3, n3, c3⟩ := h
  have e1 : G.terms.length = n1 := hg.terms.len
  have e2 : G.nons.length = n2 := hg.nons.len
  have e3 : G.rules.length = n3 := hg.rules.len
  have hB0 := alloc_below w (.cells #[.slice a1 n1 c1, .slice a2 n2 c2, .slice a3 n3 c3, .int .i64 G.start] 26)
  have hbox := GBox.new w 26 ⟨a1, n1, c1, a2, n2, c2, a3, n3, c3⟩ G.start
  have CA := Lib.hid hal
  have Hg := Lib.hid hg
  have Hs := Lib.hid hs
  have Hr := Lib.hid hr
  have Hw := Lib.hid hw
  clear hal hst hg hs hrow hwf hr hw hx
  go_enter Tryz.func5, Tryz.ntmps5
  go_wp2_with fail
  generalize w.alloc (.cells #[.slice a1 n1 c1, .slice a2 n2 c2, .slice a3 n3 c3, .int .i64 G.start] 26) = W0 at *
  (with_reducible refine (CA.out W0).mono ?_)
  rintro e W1 ⟨rfl, hb1⟩
  have hB1 := below_tail hB0 hb1
  have hbx1 := hbox.below hb1
  have ⟨y5, y0, y1, y2, y3⟩ := hbx1
  simp only [] at y0 y1 y2 y3
  go_wp2_with fail
  (with_reducible refine (rf_great ⟨a1, n1, c1, a2, n2, c2, a3, n3, c3⟩ G W1 (Hg.out.below hB1)).mono ?_)
  rintro e W2 ⟨rfl, hb2⟩
  have hB2 := below_tail hB1 hb2
  have hbx2 := hbx1.below hb2
  clear y0 y1 y2 y3 hbox hbx1
  have ⟨y5', y0, y1, y2, y3⟩ := hbx2
  simp only [] at y0 y1 y2 y3
  rcases hgr : G.great with _ | _
  case true =>
    clear hgr
    go_wp2_with fail
    go_ret
    exact ⟨rfl, hB2⟩
  obtain ⟨l1, l2, l3, _⟩ := great_false hgr
  rw [e1] at l1
  rw [e2] at l2
  rw [e3] at l3
  clear hgr
  go_wp2_with fail
  (with_reducible refine (rf_right9 ⟨a1, n1, c1, a2, n2, c2, a3, n3, c3⟩ G W2 (Hg.out.below hB2) (by simp only []; omega) (by simp only []; omega) (by simp only []; omega)).mono ?_)
  rintro e W3 ⟨rfl, hb3⟩
  have hB3 := below_tail hB2 hb3
  have hbx3 := hbx2.below hb3
  clear y0 y1 y2 y3 hbx2
  have ⟨y5'', y0, y1, y2, y3⟩ := hbx3
  simp only [] at y0 y1 y2 y3
  rcases hrt : G.right with _ | _
  case false =>
    clear hrt
    go_wp2_with fail
    go_ret
    exact ⟨rfl, hB3⟩
  by_cases h50 : (50 : Int) < (ss.length : Int)
  case pos =>
    clear hrt
    go_wp2_with fail
    go_ret
    exact ⟨rfl, hB3⟩
  have Hrt := Lib.hid hrt
  have hCN := (rf_Nullable ⟨a1, n1, c1, a2, n2, c2, a3, n3, c3⟩ G W3 (Hg.out.below hB3) (by simp only []; omega) (by simp only []; omega) (by simp only []; omega)).mono fun e w' hh => And.intro hh.1 (hh.2.resolve_left fun hc => by rw [hrt] at hc; cases hc.1).2
  clear hrt
  go_wp2_with fail
  (with_reducible refine hCN.mono ?_)
  rintro e W4 ⟨hb4, gN, hgN, rfl, hTN⟩
  have hB4 := below_tail hB3 hb4
  have hbx4 := hbx3.below hb4
  have HB4 := Lib.hid hB4
  have Hbx4 := Lib.hid hbx4
  have HTN := Lib.hid hTN
  have hNl : (nullN G).length = n2 := by rw [nullN_len, e2]
  have HNl := Lib.hid hNl
  clear y0 y1 y2 y3 hbx3 hB3 hCN hTN hbx4 hB4 hNl hB2 hB1 hB0 hb1 hb2 hb3 hb4
  go_wp2_with fail
  go_loopw [8, 9] (fun v i wr => ∃ (k : Nat) (b : Bool), v = .bool b ∧ i = .int .i64 (k : Int) ∧ k ≤ ss.length ∧ Hid (b = allP false (nullN G) (ss.take k)) ∧ Hid (∀ j, j < k → ∀ y, ss[j]? = some y → (!G.has y) = false) ∧ Hid (Below W4.heap.size W4 wr)) (fun _ i _ => ss.length - (intOf i).toNat)
  case atStart => exact ⟨0, true, rfl, rfl, Nat.zero_le _, Lib.hid rfl, Lib.hid (fun j hj => by omega), Lib.hid (Below.refl _ _)⟩
  case round =>
    obtain ⟨k, b, rfl, rfl, hk, Hb, Hk, HB⟩ := hrel
    have hbxr := Hbx4.out.below HB.out
    have HBw := Lib.hid (below_tail HB4.out HB.out)
    have ⟨z5, z0, z1, z2, z3⟩ := hbxr
    simp only [] at z0 z1 z2 z3
    by_cases hkk : k < ss.length
    · obtain ⟨bb, off, s, rfl, hbb, Hsv, q0⟩ := (Hr.out.below HBw.out).get hkk
      have cH := fun (x : Ext wr) => rf_has ⟨a1, n1, c1, a2, n2, c2, a3, n3, c3⟩ G s (bl wr x) ((Hg.out.below HBw.out).below (bl_below wr x)) (Hw.out s (List.mem_of_getElem? Hsv.out)) (by simp only []; omega) (by simp only []; omega)
      have bc := bl_cell wr
      rcases hq : G.has s with _ | _
      · rw [hq] at cH
        have CH := Lib.hid cH
        clear hq cH
        go_wp2_with fail
        refine wp_region_below (by kernel_rfl) (by kernel_rfl) ?_
        repeat (go_big_quiet_step ((go_at_call 22; with_reducible exact bl_of (CH.out _))))
        refine wpQuiet_nil ?_
        rintro _ ⟨x, rfl⟩
        go_wp2_with fail
        go_ret
        exact ⟨rfl, below_tail HBw.out (bl_below wr x)⟩
      · rw [hq] at cH
        have CH := Lib.hid cH
        have Hq := Lib.hid hq
        have hlo : -(n2 : Int) ≤ s := by have := Gr.has_lo G hq; rw [e2] at this; exact this
        clear hq cH
        go_wp2_with fail
        refine wp_region_below (by kernel_rfl) (by kernel_rfl) ?_
        repeat (go_big_quiet_step ((go_at_call 22; with_reducible exact bl_of (CH.out _))))
        refine wpQuiet_nil ?_
        rintro _ ⟨x, rfl⟩
        have HB5 := Lib.hid (below_tail HB.out (bl_below wr x))
        have hq0 : (bl wr x).cell? ⟨bb, off + k, none⟩ = some (.int .i64 s) := by rw [bc x _ _ hbb]; exact q0
        have hTr := Blk.ext HTN.out HB5.out
        have Hkn : Hid (∀ j, j < k + 1 → ∀ y, ss[j]? = some y → (!G.has y) = false) := Lib.hid (next_none Hk.out Hsv.out (by rw [Hq.out]; rfl))
        have Hbn := Lib.hid (allP_take (N := nullN G) Hsv.out)
        generalize bl wr x = W5 at *
        have hnm : b = false ∨ (b = true ∧ 0 ≤ s) ∨ (b = true ∧ ¬ 0 ≤ s) := by
          cases b
          · exact .inl rfl
          · by_cases h0 : 0 ≤ s
            · exact .inr (.inl ⟨rfl, h0⟩)
            · exact .inr (.inr ⟨rfl, h0⟩)
        rcases hnm with rfl | ⟨rfl, h0⟩ | ⟨rfl, h0⟩
        · go_wp2_with fail
          go_roundw
          case rel => exact ⟨k + 1, false, rfl, by go_num, by omega, Lib.hid (by rw [Hbn.out, ← Hb.out]; rfl), Hkn, HB5⟩
          case measure => simp [intOf]; omega
        · have Hb0 : Hid (false = allP false (nullN G) (ss.take (k + 1))) := Lib.hid (by rw [Hbn.out, if_pos h0, Bool.and_false])
          go_wp2_with fail
          go_roundw
          case rel => exact ⟨k + 1, false, rfl, by go_num, by omega, Hb0, Hkn, HB5⟩
          case measure => simp [intOf]; omega
        · obtain ⟨j, hj, hnj, hwj⟩ := non_place (s := s) (n := n2) (by omega) hlo (by omega)
          have hc0 := BoolT.at (show BoolT W5 gN (nullN G) from hTr) (i := j) (by rw [HNl.out]; exact hj)
          have Hb0 : Hid ((nullN G).getD j false = allP false (nullN G) (ss.take (k + 1))) := Lib.hid (by rw [Hbn.out, if_neg h0, ← Hb.out, hnj]; rfl)
          generalize (nullN G).getD j false = v at *
          clear hnj
          go_wp2_with fail
          go_roundw
          case rel => exact ⟨k + 1, v, rfl, by go_num, by omega, Hb0, Hkn, HB5⟩
          case measure => simp [intOf]; omega
    · obtain rfl : k = ss.length := by omega
      have hall : ss.all G.has = true := has_all fun j y hy => by
        have := Hk.out j (List.getElem?_eq_some_iff.1 hy).1 y hy
        simpa using this
      have hn1 : n1 ≤ 24 := by have := (Gr.fits Hrt.out).n1; rw [e1] at this; exact this
      have hbe : b = allP false (nullN G) ss := by have := Hb.out; rwa [List.take_of_length_le (Nat.le_refl _)] at this
      have hend := ofN_end Hrt.out hall
      rw [e1, ← hbe] at hend
      have hkl : at' % (ss.length + 1) ≤ ss.length := Nat.le_of_lt_succ (Nat.mod_lt _ (Nat.succ_pos _))
      have hparts := ofN_parts Hrt.out hall (at' % (ss.length + 1)) (2 ^ n1)
      have htm : (at' : Int).tmod ((ss.length : Int) + 1) = ((at' % (ss.length + 1) : Nat) : Int) := by
        rw [Int.tmod_eq_emod_of_nonneg (by omega)]
        have := Int.natCast_emod at' (ss.length + 1)
        rw [this]
        simp
      have hwl : IntKind.i64.wrap ((ss.length : Int) + 1) = (ss.length : Int) + 1 := IntWalk.i64_in _ (by omega)
      have hp2 : (2 : Nat) ^ n1 < 4294967296 := by
        have := Nat.pow_lt_pow_right (a := 2) (by decide) (show n1 < 32 by omega)
        simpa using this
      have hpw : (2 : Int) ^ n1 % 4294967296 = ((2 ^ n1 : Nat) : Int) := by
        have e : (2 : Int) ^ n1 = ((2 ^ n1 : Nat) : Int) := by simp
        rw [e]
        generalize (2 : Nat) ^ n1 = z at *
        clear e
        omega
      have hVlt : G.ofN ss (2 ^ n1) < 4294967296 := ofN_lt' hp2
      have hIlt : G.ofN (ss.drop (at' % (ss.length + 1))) (2 ^ n1) < 4294967296 := ofN_lt' hp2
      have hand := and32 (G.ofN ss (2 ^ n1)) (2 ^ n1) hVlt hp2
      have hall2 := Lib.hid hall
      have hmk : IntKind.i64.wrap ((at' % (ss.length + 1) : Nat) : Int) = ((at' % (ss.length + 1) : Nat) : Int) := IntWalk.i64_in _ (by omega)
      generalize at' % (ss.length + 1) = kk at *
      have cV := pf_Of ⟨a1, n1, c1, a2, n2, c2, a3, n3, c3⟩ G Ar ss.length cr ss (2 ^ n1) wr (Hg.out.below HBw.out) Hs.out (Hr.out.below HBw.out) Hw.out hp2 (by simp only []; omega) (by simp only []; omega) (by simp only []; omega)
      have Hpt := Lib.hid hparts
      have Hend := Lib.hid hend
      have HIlt := Lib.hid hIlt
      have Hp2 := Lib.hid hp2
      have CV := Lib.hid cV
      clear cV hparts hend hIlt hp2 hall hbe
      generalize hP : (2 : Nat) ^ n1 = P at *
      clear hP
      go_wp2_with fail
      (with_reducible refine CV.out.mono ?_)
      rintro e W6 ⟨rfl, hb6⟩
      have HB6 := Lib.hid (below_tail HBw.out hb6)
      have hbx6 := hbxr.below hb6
      clear z0 z1 z2 z3 z5
      have ⟨z5, z0, z1, z2, z3⟩ := hbx6
      simp only [] at z0 z1 z2 z3
      generalize hVV : G.ofN ss P = V at *
      have hne : (((V &&& P : Nat) : Int) != 0) = b := by
        rw [cast_bne0]
        exact Hend.out
      have bc := bl_cell W6
      by_cases h0 : 0 < ss.length
      · obtain ⟨bb, off, s0, rfl, hbb, Hs0, q0⟩ := (Hr.out.below HB6.out).get h0
        have cI := fun x : Ext W6 => pf_Of ⟨a1, n1, c1, a2, n2, c2, a3, n3, c3⟩ G (if cr = kk then some ⟨bb, off, none⟩ else some ⟨bb, off + kk, none⟩) (ss.length - kk) (cr - kk) (ss.drop kk) P (bl W6 x) ((Hg.out.below HB6.out).below (bl_below W6 x)) Hs.out (((Hr.out.below HB6.out).ext (Nat.le_refl _) (bl_below W6 x)).tail kk hkl) (fun s hs => Hw.out s (List.mem_of_mem_drop hs)) Hp2.out (by simp only []; omega) (by simp only []; omega) (by simp only []; omega)
        have cO := fun x : Ext W6 => pf_Of ⟨a1, n1, c1, a2, n2, c2, a3, n3, c3⟩ G (some ⟨bb, off, none⟩) kk cr (ss.take kk) (G.ofN (ss.drop kk) P) (bl W6 x) ((Hg.out.below HB6.out).below (bl_below W6 x)) Hs.out (((Hr.out.below HB6.out).ext (Nat.le_refl _) (bl_below W6 x)).take kk cr hkl (by omega) (by omega)) (fun s hs => Hw.out s (List.mem_of_mem_take hs)) HIlt.out (by simp only []; omega) (by simp only []; omega) (by simp only []; omega)
        rw [Hpt.out] at cO
        have CI := Lib.hid cI
        have CO := Lib.hid cO
        generalize G.ofN (ss.drop kk) P = I at *
        clear cI cO hVV
        go_wp2_with fail
        refine wp_region_below (by kernel_rfl) (by kernel_rfl) ?_
        repeat (go_big_quiet_step (first | (go_at_call 18; with_reducible exact bl_of (CI.out _)) | (go_at_call 18; with_reducible exact bl_of (CO.out _))))
        refine wpQuiet_nil ?_
        rintro _ ⟨x, rfl⟩
        go_wp2_with fail
        all_goals
          go_ret
          exact ⟨by simp, below_tail HB6.out (bl_below W6 x)⟩
      · have cO := fun (x : Ext W6) (ys : List Int) (A : Option Addr) (c : Nat) (J : Nat) (hy : ys = []) (hc : c ≤ 9223372036854775807) (hJ : J < 4294967296) => pf_Of ⟨a1, n1, c1, a2, n2, c2, a3, n3, c3⟩ G A 0 c [] J (bl W6 x) ((Hg.out.below HB6.out).below (bl_below W6 x)) Hs.out (Sl.nil _ _ _ hc) (fun s hs => by cases hs) hJ (by simp only []; omega) (by simp only []; omega) (by simp only []; omega)
        have hss : ss = [] := List.eq_nil_of_length_eq_zero (by omega)
        obtain rfl : kk = 0 := by omega
        have hIV : G.ofN [] (G.ofN [] P) = V := by
          have := Hpt.out
          rw [hss] at this
          simpa using this
        have cJ := fun x : Ext W6 => cO x [] Ar cr P rfl hcap.2 Hp2.out
        have cK := fun x : Ext W6 => cO x [] Ar cr (G.ofN [] P) rfl hcap.2 (ofN_lt' Hp2.out)
        rw [hIV] at cK
        generalize G.ofN [] P = I at *
        have CJ := Lib.hid cJ
        have CK := Lib.hid cK
        clear cO cJ cK hIV hVV
        rcases Ar with _ | ⟨b0, o0, m0⟩
        all_goals
          go_wp2_with fail
          refine wp_region_below (by kernel_rfl) (by kernel_rfl) ?_
          repeat (go_big_quiet_step (first | (go_at_call 18; with_reducible exact bl_of (CJ.out _)) | (go_at_call 18; with_reducible exact bl_of (CK.out _))))
          refine wpQuiet_nil ?_
          rintro _ ⟨x, rfl⟩
          go_wp2_with fail
          all_goals
            go_ret
            exact ⟨by simp, below_tail HB6.out (bl_below W6 x)⟩
end Go.Proofs.YtfdbpafenhdkbaaGreat
