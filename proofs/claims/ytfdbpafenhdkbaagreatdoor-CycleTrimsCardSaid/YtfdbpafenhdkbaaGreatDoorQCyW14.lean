/- the program's cycles and whether it is endless: walked, from what its Steps and useful answer. -/
import Derived.Test.YtfdbpafenhdkbaaGreatDoorQCyW10
import Derived.Test.YtfdbpafenhdkbaaGreatDoorQCyW6
namespace Go.Proofs.YtfdbpafenhdkbaaGreatDoor
open Go.RowKit
set_option linter.unusedVariables false
set_option linter.unusedSimpArgs false

/-- what cycle.Steps answers -/
def StepsSaid : Prop := ∀ (h : GH) (G : Gr) (w : World), GrAt w h G → (∀ t ∈ G.terms, t.name.size ≤ maxLen) → h.n1 ≤ 100 → h.n2 ≤ 100 → h.n3 ≤ 100 →
    Calls Tryz.prog 12 #[GV h G.start] w fun e w' => Below w.heap.size w w' ∧
      ((G.right = false ∧ e = .returned (.slice none 0 0)) ∨ (G.right = true ∧ ∃ g, w.heap.size ≤ g ∧ e = .returned (.slice (some ⟨g, 0, none⟩) h.n2 h.n2) ∧ SetT w' g (stepsN G)))
/-- what cycle.useful answers -/
def UsefulSaid : Prop := ∀ (h : GH) (G : Gr) (w : World), GrAt w h G → (∀ t ∈ G.terms, t.name.size ≤ maxLen) → h.n1 ≤ 100 → h.n2 ≤ 100 → h.n3 ≤ 100 →
    Calls Tryz.prog 27 #[GV h G.start] w fun e w' => Below w.heap.size w w' ∧ e = .returned (.int .u32 ((useG G : Nat) : Int))

theorem and_one (c : Nat) (hc : c < 4294967296) (j : Nat) : c &&& bitN (j : Int) = if c.testBit j then bitN (j : Int) else 0 := by
  apply Nat.eq_of_testBit_eq
  intro t
  rw [Nat.testBit_and]
  cases hb : c.testBit j
  · rw [if_neg (by decide), Nat.zero_testBit, bitN_test]
    by_cases ht : t = j
    · subst ht; simp [hb]
    · simp [ht]
  · rw [if_pos rfl, bitN_test]
    by_cases ht : t = j
    · subst ht; simp [hb]
    · simp [ht]

set_option maxRecDepth 20000 in
set_option maxHeartbeats 4000000 in
theorem tr_Cycles (hS : StepsSaid) (h : GH) (G : Gr) (w : World) (hg : GrAt w h G) (hs : ∀ t ∈ G.terms, t.name.size ≤ maxLen) (hTab : TabAt w) (h1 : h.n1 ≤ 100) (h2 : h.n2 ≤ 100) (h3 : h.n3 ≤ 100) :
    Calls Tryz.prog 14 #[GV h G.start] w fun e w' => Below w.heap.size w w' ∧ e = .returned (.int .u32 ((cycG G : Nat) : Int)) := by
  obtain ⟨a1, n1, c1, a2, n2, c2, a3, n3, c3⟩ := h
  have e2 : G.nons.length = n2 := hg.nons.len
  have k2 := hg.nons.cap
  simp only [] at h1 h2 h3 k2
  have HTab := Lib.hid hTab
  unfold StepsSaid at hS
  have HS := Lib.hid hS
  have hB0 := alloc_below w (.cells #[.slice a1 n1 c1, .slice a2 n2 c2, .slice a3 n3 c3, .int .i64 G.start] 26)
  have hbox := GBox.new w 26 ⟨a1, n1, c1, a2, n2, c2, a3, n3, c3⟩ G.start
  have Hg := Lib.hid hg
  have Hs := Lib.hid hs
  clear hg hs hTab hS
  go_enter Tryz.func14, Tryz.ntmps14
  have ⟨z5, z0, z1, z2, z3⟩ := hbox
  simp only [] at z0 z1 z2 z3
  go_wp2_with fail
  generalize w.alloc (.cells #[.slice a1 n1 c1, .slice a2 n2 c2, .slice a3 n3 c3, .int .i64 G.start] 26) = W0 at *
  (with_reducible refine (HS.out ⟨a1, n1, c1, a2, n2, c2, a3, n3, c3⟩ G W0 (Hg.out.below hB0) Hs.out (by simp only []; omega) (by simp only []; omega) (by simp only []; omega)).mono ?_)
  rintro e W1 ⟨hb1, hres⟩
  have HB1 := Lib.hid (below_tail hB0 hb1)
  clear z0 z1 z2 z3 z5 hbox hB0 hb1
  rcases hres with ⟨hrt, rfl⟩ | ⟨hrt, gS, hgS, rfl, hT⟩
  · have Hz : Hid (cycG G = 0) := Lib.hid (by unfold cycG; rw [hrt]; rfl)
    clear hrt
    go_wp2_with fail
    go_loop [2, 9] (fun s i => s = .int .u32 0 ∧ i = .int .i64 0) (fun s i => 0)
    case atStart => exact ⟨rfl, rfl⟩
    case round =>
      obtain ⟨rfl, rfl⟩ := hrel
      go_wp2_with fail
      go_ret
      exact ⟨HB1.out, by rw [Hz.out]; rfl⟩
  · have hfit := Gr.fits hrt
    have Hn16 := hfit.n2.2
    rw [e2] at Hn16
    have hin := stepsN_in G hfit
    have hsl : (stepsN G).length = n2 := by rw [stepsN_len]; exact e2
    have hss := stepsN_small G
    have Hz : Hid (cycG G = setB (fun i => comesTo (stepsN G) i i) n2) := Lib.hid (by unfold cycG cycS; rw [hrt, hsl]; rfl)
    have HT := Lib.hid hT
    generalize stepsN G = S at *
    have Hin := Lib.hid hin
    have Hsl := Lib.hid hsl
    have Hss := Lib.hid hss
    have Hcs := Lib.hid (closeS_small hss)
    clear hfit hrt hT hgS hss hin hsl
    go_wp2_with fail
    go_loopw [2, 9] (fun s i wr => ∃ j : Nat, j ≤ n2 ∧ i = .int .i64 (j : Int) ∧ s = .int .u32 ((setB (fun i => comesTo S i i) j : Nat) : Int) ∧ Hid (Below W1.heap.size W1 wr)) (fun s i _ => n2 - (intOf i).toNat)
    case atStart => exact ⟨0, Nat.zero_le _, rfl, rfl, Lib.hid (Below.refl _ _)⟩
    case round =>
      obtain ⟨j, hj, rfl, rfl, HB⟩ := hrel
      by_cases hjj : j < n2
      case neg =>
        obtain rfl : j = n2 := by omega
        go_wp2_with fail
        go_ret
        exact ⟨below_tail HB1.out HB.out, by rw [Hz.out]; rfl⟩
      case pos =>
        have CR := Lib.hid (tr_reach gS n2 j S wr (Blk.ext HT.out HB.out) Hsl.out (by omega) hjj Hss.out Hin.out (HTab.out.below (below_tail HB1.out HB.out)))
        have CO := Lib.hid fun X => tr_one (j : Int) X
        have hcl := Hcs.out.get j
        have hand := and32 ((closeS S).getD j 0) (bitN (j : Int)) hcl (bitN_lt _)
        have hao := and_one _ hcl j
        have hx : ((closeS S).getD j 0).testBit j = comesTo S j j := rfl
        have hsc := setB_succ (fun i => comesTo S i i) j
        have hor := or32 (setB (fun i => comesTo S i i) j) ((closeS S).getD j 0 &&& bitN (j : Int)) (setB_lt _ _) (Nat.lt_of_le_of_lt Nat.and_le_left hcl)
        have hst : setB (fun i => comesTo S i i) j ||| ((closeS S).getD j 0 &&& bitN (j : Int)) = setB (fun i => comesTo S i i) (j + 1) := by
          rw [hsc, hao, hx]
          cases comesTo S j j
          · simp
          · rfl
        rw [hst] at hor
        generalize hs1 : setB (fun i => comesTo S i i) (j + 1) = s1 at *
        have Hs1 := Lib.hid hs1
        clear hs1
        generalize setB (fun i => comesTo S i i) j = s0 at *
        generalize (closeS S).getD j 0 &&& bitN (j : Int) = z at *
        generalize (closeS S).getD j 0 = v at *
        generalize bitN (j : Int) = bj at *
        clear hao hx hsc hst hcl
        go_wp2_with (first
          | (go_at_call 39; (with_reducible refine CR.out.mono ?_); rintro e w2 ⟨rfl, hb2⟩)
          | (go_at_call 29; (with_reducible refine (CO.out _).mono ?_); rintro e w3 ⟨rfl, hb3⟩))
        go_roundw
        case rel => exact ⟨j + 1, by omega, by go_num, by rw [Hs1.out], Lib.hid (below_tail (below_tail HB.out hb2) hb3)⟩
        case measure => simp [intOf]; omega

set_option maxRecDepth 20000 in
set_option maxHeartbeats 4000000 in
theorem tr_Endless (hS : StepsSaid) (hU : UsefulSaid) (h : GH) (G : Gr) (w : World) (hg : GrAt w h G) (hs : ∀ t ∈ G.terms, t.name.size ≤ maxLen) (hTab : TabAt w) (h1 : h.n1 ≤ 100) (h2 : h.n2 ≤ 100) (h3 : h.n3 ≤ 100) :
    Calls Tryz.prog 16 #[GV h G.start] w fun e w' => Below w.heap.size w w' ∧ e = .returned (.bool (endG G)) := by
  obtain ⟨a1, n1, c1, a2, n2, c2, a3, n3, c3⟩ := h
  have Hg := Lib.hid hg
  have hB0 := alloc_below w (.cells #[.slice a1 n1 c1, .slice a2 n2 c2, .slice a3 n3 c3, .int .i64 G.start] 26)
  have hbox := GBox.new w 26 ⟨a1, n1, c1, a2, n2, c2, a3, n3, c3⟩ G.start
  have HTab := Lib.hid hTab
  clear hg hTab
  go_enter Tryz.func16, Tryz.ntmps16
  have ⟨y5, y0, y1, y2, y3⟩ := hbox
  simp only [] at y0 y1 y2 y3
  go_upto_region 1 with fail
  generalize w.alloc (.cells #[.slice a1 n1 c1, .slice a2 n2 c2, .slice a3 n3 c3, .int .i64 G.start] 26) = W1 at *
  have HB1 := Lib.hid hB0
  have HG1 := Lib.hid (Hg.out.below hB0)
  have HT1 := Lib.hid (HTab.out.below hB0)
  clear hB0 hbox
  have CC := Lib.hid fun x : Ext W1 => (tr_Cycles hS ⟨a1, n1, c1, a2, n2, c2, a3, n3, c3⟩ G (bl W1 x) (HG1.out.below (bl_below W1 x)) hs (HT1.out.below (bl_below W1 x)) h1 h2 h3).mono fun e w' hh => And.intro hh.2 hh.1
  have CU := Lib.hid fun x : Ext W1 => (hU ⟨a1, n1, c1, a2, n2, c2, a3, n3, c3⟩ G (bl W1 x) (HG1.out.below (bl_below W1 x)) hs h1 h2 h3).mono fun e w' hh => And.intro hh.2 hh.1
  have hand := and32 (cycG G) (useG G) (cycG_lt G) (useG_lt G)
  have he : endG G = ((((cycG G &&& useG G : Nat) : Int)) != 0) := by rw [bne_cast]; rfl
  have He := Lib.hid he
  generalize cycG G &&& useG G = z at *
  generalize cycG G = zc at *
  generalize useG G = zu at *
  have bc := bl_cell W1
  clear h1 h2 h3 he hs hS hU
  refine wp_region_below (by kernel_rfl) (by kernel_rfl) ?_
  repeat (go_big_quiet_step (first
    | (go_at_call 14; with_reducible exact bl_of (CC.out _))
    | (go_at_call 27; with_reducible exact bl_of (CU.out _))))
  refine wpQuiet_nil ?_
  rintro _ ⟨x, rfl⟩
  have HBx := Lib.hid (below_tail HB1.out (bl_below W1 x))
  generalize bl W1 x = W2 at *
  go_wp2_with fail
  go_ret
  exact ⟨HBx.out, by rw [He.out]; rfl⟩
end Go.Proofs.YtfdbpafenhdkbaaGreatDoor

namespace Go.Proofs.YtfdbpafenhdkbaaGreatDoor
set_option linter.unusedVariables false
set_option linter.unusedSimpArgs false

theorem steps_sub (Q : Nat → Nat → Prop) (N P : List Bool) (rs : List Rul) (hQ : ∀ r ∈ rs, ∀ k s, r.right[k]? = some s → standsR N P r.right k s = true → Q r.left.toNat (nonI s)) :
    ∀ (F : List Nat), (∀ i t, (F.getD i 0).testBit t = true → Q i t) → ∀ i t, ((passSt N P rs F).getD i 0).testBit t = true → Q i t := by
  have hgrow : ∀ (r : Rul), r ∈ rs → ∀ (k : Nat) (F : List Nat), (∀ i t, (F.getD i 0).testBit t = true → Q i t) → ∀ i t, ((growSt N P r k F).getD i 0).testBit t = true → Q i t := by
    intro r hr k F hF i t h
    unfold growSt at h
    split at h
    · exact hF i t h
    · rename_i s hs
      split at h
      · rename_i hst
        rw [addAt_get] at h
        split at h
        · rename_i he
          rw [Nat.testBit_or, Bool.or_eq_true] at h
          rcases h with h | h
          · rw [he.1]; exact hF _ t h
          · have hq := hQ r hr k s hs hst
            unfold standsR at hst
            simp only [Bool.and_eq_true, decide_eq_true_eq] at hst
            obtain ⟨j, hj⟩ : ∃ j : Nat, -1 - s = (j : Int) := ⟨(-1 - s).toNat, by omega⟩
            rw [hj, bitN_test, Bool.and_eq_true, decide_eq_true_iff, decide_eq_true_iff] at h
            have hn : nonI s = t := by unfold nonI; omega
            rw [he.1, ← hn]
            exact hq
        · exact hF i t h
      · exact hF i t h
  have hpos : ∀ (r : Rul), r ∈ rs → ∀ (k : Nat) (F : List Nat), (∀ i t, (F.getD i 0).testBit t = true → Q i t) → ∀ i t, ((posSt N P r k F).getD i 0).testBit t = true → Q i t := by
    intro r hr k F hF
    induction k with
    | zero => exact hF
    | succ k ih => rw [posSt_succ]; exact hgrow r hr k _ ih
  have hpass : ∀ (l : List Rul), (∀ r ∈ l, r ∈ rs) → ∀ (F : List Nat), (∀ i t, (F.getD i 0).testBit t = true → Q i t) → ∀ i t, ((passSt N P l F).getD i 0).testBit t = true → Q i t := by
    intro l
    induction l with
    | nil => exact fun _ F hF => hF
    | cons r l ih => exact fun h F hF => ih (fun r' hr' => h r' (List.mem_cons_of_mem _ hr')) _ (hpos r (h r (List.mem_cons_self ..)) _ F hF)
  exact hpass rs fun _ h => h

theorem passI_fixed (ids : Rul → List Bool → List Int) : ∀ (rs : List Rul) {N : List Bool}, passI ids rs N = N → ∀ r ∈ rs, setI N (ids r N) = N
  | [], N, h, r, hr => by cases hr
  | q :: rs, N, h, r, hr => by
    have hq : growI ids q N = N := Grows.anti (f := growI ids q) (g := passI ids rs) ⟨fun N => ((setI_le N (ids q N)).1).symm, fun N i h => (setI_le N (ids q N)).2 i h⟩ (passI_grows ids rs) h
    rcases List.mem_cons.1 hr with rfl | hr
    · exact hq
    · refine passI_fixed ids rs ?_ r hr
      have : passI ids rs (growI ids q N) = N := h
      rwa [hq] at this
theorem setI_has : ∀ (l : List Int) {N : List Bool} {s : Int}, s ∈ l → s.toNat < N.length → (setI N l).getD s.toNat false = true
  | q :: l, N, s, hs, hl => by
    rcases List.mem_cons.1 hs with rfl | hs
    · exact setI_getD l ((set_getD N s.toNat s.toNat).2 (.inr ⟨rfl, hl⟩))
    · exact setI_has l (N := N.set q.toNat true) hs (by simpa using hl)
theorem useS_bit (G : Gr) (hG : G.Fits) (i : Nat) : (useS G).testBit i = true ↔ (prodN G).getD i false = true ∧ (reachN G).getD i false = true := by
  unfold useS
  rw [setB_bit]
  simp only [Bool.and_eq_true, decide_eq_true_eq]
  have := hG.n2.2
  constructor
  · rintro ⟨_, _, h⟩; exact h
  · intro h
    have hl : i < G.nons.length := by
      rcases Nat.lt_or_ge i G.nons.length with h' | h'
      · exact h'
      · have h1 := h.1
        rw [List.getD_eq_getElem?_getD, List.getElem?_eq_none (by rw [prodN_len]; exact h')] at h1
        cases h1
    exact ⟨by omega, hl, h⟩
theorem use_closed (G : Gr) (hG : G.Fits) : ∀ i t, (useS G).testBit i = true → ((stepsN G).getD i 0).testBit t = true → (useS G).testBit t = true := by
  intro i t hi ht
  rw [useS_bit G hG] at hi ⊢
  have hfix : passI (reachI (prodN G)) G.rules (reachN G) = reachN G := by
    have := (passI_grows (reachI (prodN G)) G.rules).fix (startN G)
    have hl : (startN G).length = G.nons.length := by unfold startN; simp
    rw [hl] at this
    exact this
  refine steps_sub (fun i t => ((prodN G).getD i false = true ∧ (reachN G).getD i false = true) → (prodN G).getD t false = true ∧ (reachN G).getD t false = true) (nullN G) (prodN G) G.rules (fun r hr k s hs hst hi => ?_) _ (fun i t h => ?_) i t ht hi
  · unfold standsR at hst
    simp only [Bool.and_eq_true, decide_eq_true_eq] at hst
    obtain ⟨⟨h0, _⟩, hmade⟩ := hst
    have hmem := List.mem_of_getElem? hs
    have hsy := hG.sym r hr s hmem
    refine ⟨?_, ?_⟩
    · have hm := hmade
      unfold allP at hm
      rw [List.all_eq_true] at hm
      have := hm s hmem
      rwa [if_neg (by omega)] at this
    · have hin := passI_fixed (reachI (prodN G)) G.rules hfix r hr
      have hgo : goesP (prodN G) r (reachN G) = true := by unfold goesP; rw [hi.2, hmade]; rfl
      have hids : reachI (prodN G) r (reachN G) = nonsI r.right := by unfold reachI; rw [if_pos hgo]
      rw [hids] at hin
      have hmem2 : -1 - s ∈ nonsI r.right := by
        unfold nonsI
        rw [List.mem_map]
        exact ⟨s, List.mem_filter.2 ⟨hmem, by rw [decide_eq_true_iff]; exact h0⟩, rfl⟩
      have := setI_has (nonsI r.right) (N := reachN G) hmem2 (by rw [reachN_len]; omega)
      rw [hin] at this
      exact this
  · rw [List.getD_eq_getElem?_getD] at h
    rcases Nat.lt_or_ge i G.nons.length with hl | hl
    · simp [hl] at h
    · simp [List.getElem?_eq_none, hl] at h
/-- where nothing is endless, the next one is found as long as one is left -/
theorem order_next (G : Gr) (hG : G.right = true) (he : endG G = false) {there : Nat} (hn : findB (pickB (stepsN G) (useS G) there) G.nons.length = none) : andN (useS G) there = 0 := by
  have hfit := Gr.fits hG
  rw [← stepsN_len] at hn
  refine order_goes (use_closed G hfit) (fun i hi => ?_) (fun i hi => ?_) hn
  · rw [useS_bit G hfit] at hi
    rw [stepsN_len]
    rcases Nat.lt_or_ge i G.nons.length with h' | h'
    · exact h'
    · have h1 := hi.1
      rw [List.getD_eq_getElem?_getD, List.getElem?_eq_none (by rw [prodN_len]; exact h')] at h1
      cases h1
  · cases hc : comesTo (stepsN G) i i
    · rfl
    · exfalso
      have h32 := bit_lt (setB_lt _ _) hi
      have hil : i < (stepsN G).length := by
        unfold useS at hi
        rw [setB_bit] at hi
        simp only [Bool.and_eq_true, decide_eq_true_eq] at hi
        rw [stepsN_len]
        exact hi.2.1
      have hcy : (cycG G).testBit i = true := by
        unfold cycG cycS
        rw [if_pos hG, setB_bit, hc]
        simp [h32, hil]
      have hu : (useG G).testBit i = true := by
        unfold useG
        rw [if_pos hG]
        exact hi
      have hz : cycG G &&& useG G = 0 := by
        unfold endG at he
        simpa using he
      have := Nat.testBit_and (cycG G) (useG G) i
      rw [hz, hcy, hu, Nat.zero_testBit] at this
      cases this
end Go.Proofs.YtfdbpafenhdkbaaGreatDoor
