/- the order: the program's, walked, from what its Steps and useful answer. -/
import Derived.Test.YtfdbpafenhdkbaaGreatDoorQCyW14
namespace Go.Proofs.YtfdbpafenhdkbaaGreatDoor
open Go.RowKit
set_option linter.unusedVariables false
set_option linter.unusedSimpArgs false

theorem mems_sorted (L : Nat) : (memsN L).Pairwise (· < ·) := List.Pairwise.filter _ List.pairwise_lt_range
theorem mems_before {L p k j : Nat} (hk : (memsN L)[p]? = some k) (hj : j < k) (hb : L.testBit j = true) : ∃ p', p' < p ∧ (memsN L)[p']? = some j := by
  obtain ⟨hp, ek⟩ := List.getElem?_eq_some_iff.1 hk
  have hk32 := ((mems_mem L k).1 (List.mem_of_getElem? hk)).1
  obtain ⟨p', hp'⟩ := List.getElem?_of_mem ((mems_mem L j).2 ⟨by omega, hb⟩)
  obtain ⟨hl, ej⟩ := List.getElem?_eq_some_iff.1 hp'
  refine ⟨p', ?_, hp'⟩
  rcases Nat.lt_trichotomy p' p with h | h | h
  · exact h
  · subst h; omega
  · have := List.pairwise_iff_getElem.1 (mems_sorted L) p p' hp hl h
    omega
theorem pick_left (S : List Nat) (use there j : Nat) : pickB S use there j = ((andN use there).testBit j && (andN (S.getD j 0) there == 0)) := by
  unfold pickB
  rw [andN_bit]
theorem pick_none {S : List Nat} {use there n : Nat} (h : andN use there = 0) : findB (pickB S use there) n = none :=
  findB_none fun j _ => by rw [pick_left, h, Nat.zero_testBit]; rfl
theorem andN_or (a b c : Nat) : andN (andN a b) c = andN a (b ||| c) := by
  apply Nat.eq_of_testBit_eq
  intro t
  rw [andN_bit, andN_bit, andN_bit, Nat.testBit_or]
  cases a.testBit t <;> cases b.testBit t <;> cases c.testBit t <;> rfl
theorem andN_down {L k : Nat} (hk : L.testBit k = true) (h32 : k < 32) : andN L (bitN (k : Int)) < L := by
  have h1 := andN_le L (bitN (k : Int))
  have h2 : andN L (bitN (k : Int)) ≠ L := fun he => by
    have := andN_bit L (bitN (k : Int)) k
    rw [he, hk, bitN_test] at this
    simp [h32] at this
  omega
theorem andN_zero (a : Nat) : andN a 0 = a := by
  apply Nat.eq_of_testBit_eq
  intro t
  rw [andN_bit, Nat.zero_testBit]
  simp

theorem orderS_length (S : List Nat) (use n : Nat) : ∀ q, (orderS S use n q).1.length ≤ q
  | 0 => Nat.le_refl _
  | q + 1 => by
    rw [orderS_succ]
    have ih := orderS_length S use n q
    cases hf : findB (pickB S use (orderS S use n q).2) n with
    | none => rw [stepO_none hf]; omega
    | some i => rw [stepO_some hf, List.length_append]; simpa using ih
theorem orderS_before {S : List Nat} {use n q i : Nat} (hu : use < 4294967296) (h : findB (pickB S use (orderS S use n q).2) n = some i) : q < n := by
  rcases Nat.lt_or_ge q n with h' | h'
  · exact h'
  · have hend := orderS_end S n hu
    have hfix := iter_fix (f := stepO S use n) (x := ([], 0)) (n := n) (stepO_none hend) q h'
    have e : orderS S use n q = orderS S use n n := hfix
    rw [e, hend] at h
    cases h
theorem found {S : List Nat} {use there n p k : Nat} (hul : ∀ i, use.testBit i = true → i < n) (hk : (memsN (andN use there))[p]? = some k) (hp : (andN (S.getD k 0) there == 0) = true)
    (hb : ∀ p', p' < p → ∀ k', (memsN (andN use there))[p']? = some k' → (andN (S.getD k' 0) there == 0) = false) : findB (pickB S use there) n = some k := by
  have hkb := ((mems_mem _ k).1 (List.mem_of_getElem? hk)).2
  have hku := hkb
  rw [andN_bit, Bool.and_eq_true] at hku
  refine findB_some (hul k hku.1) (by rw [pick_left, hkb, hp]; rfl) fun j hj => ?_
  rw [pick_left]
  cases hjb : (andN use there).testBit j
  · rfl
  · obtain ⟨p', hp', hk'⟩ := mems_before hk hj hjb
    rw [hb p' hp' j hk']
    rfl
theorem not_found {S : List Nat} {use there n : Nat} (hu : use < 4294967296) (hb : ∀ p', p' < (memsN (andN use there)).length → ∀ k', (memsN (andN use there))[p']? = some k' → (andN (S.getD k' 0) there == 0) = false) : findB (pickB S use there) n = none :=
  findB_none fun j _ => by
    rw [pick_left]
    cases hjb : (andN use there).testBit j
    · rfl
    · have h32 := bit_lt (Nat.lt_of_le_of_lt (andN_le use there) hu) hjb
      obtain ⟨p', hp'⟩ := List.getElem?_of_mem ((mems_mem _ j).2 ⟨h32, hjb⟩)
      rw [hb p' (List.getElem?_eq_some_iff.1 hp').1 j hp']
      rfl

set_option maxRecDepth 20000 in
set_option maxHeartbeats 4000000 in
theorem tr_Order (hS : StepsSaid) (hU : UsefulSaid) (h : GH) (G : Gr) (w : World) (hg : GrAt w h G) (hs : ∀ t ∈ G.terms, t.name.size ≤ maxLen) (hTab : TabAt w) (h1 : h.n1 ≤ 100) (h2 : h.n2 ≤ 100) (h3 : h.n3 ≤ 100) :
    Calls Tryz.prog 9 #[GV h G.start] w (RetOrd G w) := by
  obtain ⟨a1, n1, c1, a2, n2, c2, a3, n3, c3⟩ := h
  have e2 : G.nons.length = n2 := hg.nons.len
  have k2 := hg.nons.cap
  simp only [] at h1 h2 h3 k2
  have Hg := Lib.hid hg
  have Hs := Lib.hid hs
  have HTab := Lib.hid hTab
  have CE0 := Lib.hid fun X (hb : Below w.heap.size w X) => tr_Endless hS hU ⟨a1, n1, c1, a2, n2, c2, a3, n3, c3⟩ G X (hg.below hb) hs (hTab.below hb) h1 h2 h3
  have CN0 := Lib.hid fun X (hb : Below w.heap.size w X) => hS ⟨a1, n1, c1, a2, n2, c2, a3, n3, c3⟩ G X (hg.below hb) hs h1 h2 h3
  have CU0 := Lib.hid fun X (hb : Below w.heap.size w X) => hU ⟨a1, n1, c1, a2, n2, c2, a3, n3, c3⟩ G X (hg.below hb) hs h1 h2 h3
  have hB0 := alloc_below w (.cells #[.slice a1 n1 c1, .slice a2 n2 c2, .slice a3 n3 c3, .int .i64 G.start] 26)
  have hbox := GBox.new w 26 ⟨a1, n1, c1, a2, n2, c2, a3, n3, c3⟩ G.start
  clear hg hs hTab hS hU
  go_enter Tryz.func9, Tryz.ntmps9
  have ⟨z5, z0, z1, z2, z3⟩ := hbox
  simp only [] at z0 z1 z2 z3
  go_wp2_with fail
  generalize w.alloc (.cells #[.slice a1 n1 c1, .slice a2 n2 c2, .slice a3 n3 c3, .int .i64 G.start] 26) = W0 at *
  (with_reducible refine (cf_Right ⟨a1, n1, c1, a2, n2, c2, a3, n3, c3⟩ G W0 (Hg.out.below hB0) Hs.out (by simp only []; omega) (by simp only []; omega)).mono ?_)
  rintro e Wr ⟨rfl, hb1⟩
  have hB1 := below_tail hB0 hb1
  have hbx1 := hbox.below hb1
  clear z0 z1 z2 z3 z5 hbox
  have ⟨y5, y0, y1, y2, y3⟩ := hbx1
  simp only [] at y0 y1 y2 y3
  rcases hrt : G.right with _ | _
  · go_wp2_with fail
    go_ret2
    exact RetOrd.fail (by unfold ordG; rw [hrt]; rfl) hB1
  have Hrt := Lib.hid hrt
  have HB1 := Lib.hid hB1
  have cE := CE0.out Wr hB1
  have Hord : Hid (ordG G = if endG G then ([], 10) else ((orderS (stepsN G) (useS G) G.nons.length G.nons.length).1, 0)) := Lib.hid (by unfold ordG; rw [hrt]; rfl)
  have CE := Lib.hid cE
  clear hrt hB0 hb1 hB1 cE
  go_wp2_with fail
  (with_reducible refine CE.out.mono ?_)
  rintro e W1 ⟨hb1, rfl⟩
  have HB2 := Lib.hid (below_tail HB1.out hb1)
  have hbx2 := hbx1.below hb1
  clear hb1 hbx1 y0 y1 y2 y3 y5 CE CE0
  have ⟨y5, y0, y1, y2, y3⟩ := hbx2
  simp only [] at y0 y1 y2 y3
  rcases hend : endG G with _ | _
  case true =>
    have Hf : Hid (ordG G = ([], 10)) := Lib.hid (by rw [Hord.out, hend]; rfl)
    clear hend
    go_wp2_with fail
    go_ret2
    exact RetOrd.fail Hf.out HB2.out
  have Hf : Hid (ordG G = ((orderS (stepsN G) (useS G) n2 n2).1, 0)) := Lib.hid (by rw [Hord.out, hend, e2]; rfl)
  have Hnext : Hid (∀ there, findB (pickB (stepsN G) (useS G) there) n2 = none → andN (useS G) there = 0) := Lib.hid fun there hn => order_next G Hrt.out hend (by rw [e2]; exact hn)
  have Hul : Hid (∀ i, (useS G).testBit i = true → i < n2) := Lib.hid fun i hi => by
    unfold useS at hi
    rw [setB_bit] at hi
    simp only [Bool.and_eq_true, decide_eq_true_eq] at hi
    rw [← e2]
    exact hi.2.1
  have hu : useG G = useS G := by unfold useG; rw [Hrt.out]; rfl
  have CN := Lib.hid fun X (hb : Below W1.heap.size W1 X) => (CN0.out X (below_tail HB2.out hb)).mono fun e w' hh => And.intro (below_tail hb hh.1) (And.intro (Lib.hid hh.1) (hh.2.resolve_left fun hc => by rw [Hrt.out] at hc; cases hc.1).2)
  have CP := Lib.hid fun X (hb : Below W1.heap.size W1 X) => (CU0.out X (below_tail HB2.out hb)).mono fun e w' hh => And.intro (below_tail hb hh.1) (And.intro (Lib.hid hh.1) hh.2)
  rw [hu] at CP
  have HS : Hid (∀ W', Below W1.heap.size W1 W' → W'.cell? ⟨w.heap.size, 0, none⟩ = some (.slice a1 n1 c1) ∧ W'.cell? ⟨w.heap.size, 1, none⟩ = some (.slice a2 n2 c2) ∧ W'.cell? ⟨w.heap.size, 2, none⟩ = some (.slice a3 n3 c3) ∧ W'.cell? ⟨w.heap.size, 3, none⟩ = some (.int .i64 G.start) ∧ Below W1.heap.size W1 W') := Lib.hid fun W' hb => ⟨by rw [hb.cell (by exact y5)]; exact y0, by rw [hb.cell (by exact y5)]; exact y1, by rw [hb.cell (by exact y5)]; exact y2, by rw [hb.cell (by exact y5)]; exact y3, hb⟩
  clear hend hu CN0 CU0
  go_upto_region 5 with fail
  go_region_held3 (fun W' => W'.cell? ⟨w.heap.size, 0, none⟩ = some (.slice a1 n1 c1) ∧ W'.cell? ⟨w.heap.size, 1, none⟩ = some (.slice a2 n2 c2) ∧ W'.cell? ⟨w.heap.size, 2, none⟩ = some (.slice a3 n3 c3) ∧ W'.cell? ⟨w.heap.size, 3, none⟩ = some (.int .i64 G.start) ∧ Below W1.heap.size W1 W')
    ((refine HS.out _ ?_; (repeat (first | assumption | exact Below.refl _ _ | refine Below.drew ?_ | refine below_alloc ?_ _ | refine below_set ?_ _ _ _ (by (first | exact Nat.le_refl _ | exact Nat.le_succ _ | exact Below.size (by assumption) | exact Nat.le_succ_of_le (Below.size (by assumption)) | (simp; done) | omega)))); done))
    (first
      | (go_at_call 12; refine (CN.out _ (by (repeat (first | assumption | exact Below.refl _ _ | refine Below.drew ?_ | refine below_alloc ?_ _ | refine below_set ?_ _ _ _ (by (first | exact Nat.le_refl _ | exact Nat.le_succ _ | exact Below.size (by assumption) | exact Nat.le_succ_of_le (Below.size (by assumption)) | (simp; done) | omega)))))).mono ?_; rintro e w2 ⟨hB2, Hb2, gS, hgS, rfl, HTN⟩)
      | (go_at_call 27; refine (CP.out _ (by (repeat (first | assumption | exact Below.refl _ _ | refine Below.drew ?_ | refine below_alloc ?_ _ | refine below_set ?_ _ _ _ (by (first | exact Nat.le_refl _ | exact Nat.le_succ _ | exact Below.size (by assumption) | exact Nat.le_succ_of_le (Below.size (by assumption)) | (simp; done) | omega)))))).mono ?_; rintro e w3 ⟨hB3, Hb3, rfl⟩))
  have HT3 : Hid (SetT w3 gS (stepsN G)) := Lib.hid (Blk.hidden HTN Hb3)
  have HB3 := Lib.hid (below_tail HB2.out hB3)
  have hsl : (stepsN G).length = n2 := by rw [stepsN_len]; exact e2
  have hss := stepsN_small G
  have huu := useS_lt G
  generalize stepsN G = S at *
  generalize useS G = use at *
  have Hsl := Lib.hid hsl
  have Hss := Lib.hid hss
  have Huu := Lib.hid huu
  have Haz := Lib.hid (andN_zero use)
  clear hB2 Hb2 hgS HTN Hb3 hB3 CN CP HS y0 y1 y2 y3 y5 hbx2 hsl hss huu
  go_wp2_with fail
  go_loopw [2, 5, 6] (fun o lf s wr => ∃ (q : Nat) (A : Option Addr) (cp : Nat), o = .slice A (orderS S use n2 q).1.length cp ∧ s = .int .u32 (((orderS S use n2 q).2 : Nat) : Int) ∧ lf = .int .u32 ((andN use (orderS S use n2 q).2 : Nat) : Int) ∧
      wr.ownsRow w3.heap.size 3 1 (.slice A (orderS S use n2 q).1.length cp) (orderS S use n2 q).1.length (ints .i64 (intsOf (orderS S use n2 q).1)) ∧ Below w3.heap.size w3 wr) (fun o lf s _ => (intOf lf).toNat)
  case atStart => exact ⟨0, none, 0, rfl, rfl, by show _ = Value.int .u32 ((andN use 0 : Nat) : Int); rw [Haz.out], World.ownsRow_nil _ _ _ _, Below.refl _ _⟩
  case round =>
    obtain ⟨q, A, cp, rfl, rfl, rfl, hown, hbel⟩ := hrel
    have hsucc := orderS_succ S use n2 q
    have hinv := orderS_inv S n2 Huu.out q
    by_cases hz : andN use (orderS S use n2 q).2 = 0
    · have hsame := orderS_same S n2 Huu.out (k := q) (pick_none hz)
      rw [hz]
      rw [hsame] at hown ⊢
      have Hown := Lib.hid hown
      have Hbel := Lib.hid hbel
      clear hsucc hinv hown hbel hsame hz
      go_wp2_with fail
      go_ret2
      exact RetOrd.good Hf.out (below_tail HB3.out Hbel.out) Hown.out
    · have hF : ∀ i, findB (pickB S use (orderS S use n2 q).2) n2 = some i → orderS S use n2 (q + 1) = ((orderS S use n2 q).1 ++ [i], (orderS S use n2 q).2 ||| bitN (i : Int)) := fun i hi => by rw [hsucc]; exact stepO_some hi
      have hQ : ∀ i, findB (pickB S use (orderS S use n2 q).2) n2 = some i → (orderS S use n2 q).1.length ≤ 100 := fun i hi => by
        have h4 := orderS_before Huu.out hi
        have h5 := orderS_length S use n2 q
        omega
      have hX : findB (pickB S use (orderS S use n2 q).2) n2 ≠ none := fun hn => hz (Hnext.out _ hn)
      have hth := hinv.lt
      clear hsucc hinv
      generalize hst1 : orderS S use n2 (q + 1) = st1 at *
      have Hst1 := Lib.hid hst1
      clear hst1
      generalize orderS S use n2 q = st at *
      obtain ⟨l, there⟩ := st
      simp only [] at hF hQ hX hown hth hz
      have HF := Lib.hid hF
      have HQ := Lib.hid hQ
      have HX := Lib.hid hX
      have Hth := Lib.hid hth
      have hL32 : andN use there < 4294967296 := Nat.lt_of_le_of_lt (andN_le _ _) Huu.out
      have Hfound := Lib.hid fun p k => found (S := S) (use := use) (there := there) (n := n2) (p := p) (k := k) Hul.out
      have Hnot := Lib.hid (not_found (S := S) (use := use) (there := there) (n := n2) Huu.out)
      have Hlu := Lib.hid (show ∀ j, (andN use there).testBit j = true → j < n2 from fun j hj => by rw [andN_bit, Bool.and_eq_true] at hj; exact Hul.out j hj.1)
      have Hor := Lib.hid fun c => andN_or use there c
      have CM := Lib.hid (set_members (andN use there) wr hL32 (HTab.out.below (below_tail HB3.out hbel)))
      have Hlen := Lib.hid (mems_len (andN use there))
      simp only []
      generalize andN use there = L at *
      have hnz : ((L : Int) != 0) = true := by rw [bne_iff_ne]; omega
      have Hown := Lib.hid hown
      have Hbel := Lib.hid hbel
      have HL32 := Lib.hid hL32
      clear hF hQ hX hth hown hbel hz hL32
      go_wp2_with (go_at_call 28; (with_reducible refine CM.out.mono ?_); rintro e w4 ⟨A2, cm, rfl, hr, hb2⟩)
      have Hbel2 := Lib.hid (below_tail Hbel.out hb2)
      have Hown2 := Lib.hid (own_below Hown.out hb2)
      have Hr := Lib.hid hr
      have HT4 : Hid (SetT w4 gS S) := Lib.hid (Blk.ext HT3.out Hbel2.out)
      clear hb2 hr
      have hll : (intsOf (memsN L)).length = (memsN L).length := intsOf_length _
      have Hll := Lib.hid hll
      have hl32 : (intsOf (memsN L)).length ≤ 32 := by rw [hll]; exact Hlen.out
      generalize hM : (intsOf (memsN L)).length = M at *
      clear hM hll
      go_wp2_with fail
      go_loop [2, 5, 6, 25] (fun o lf s i => o = .slice A l.length cp ∧ lf = .int .u32 (L : Int) ∧ s = .int .u32 (there : Int) ∧ ∃ p : Nat, p ≤ M ∧ i = .int .i64 (p : Int) ∧ Hid (∀ p', p' < p → ∀ k', (memsN L)[p']? = some k' → (andN (S.getD k' 0) there == 0) = false)) (fun o lf s i => M - (intOf i).toNat)
      case atStart => exact ⟨rfl, rfl, rfl, 0, Nat.zero_le _, rfl, Lib.hid fun p hp => by omega⟩
      case round =>
        obtain ⟨rfl, rfl, rfl, p, hp, rfl, Hp⟩ := hrel
        by_cases hpp : p < M
        case neg =>
          exact absurd (Hnot.out (by rw [← Hll.out, show M = p by omega]; exact Hp.out)) HX.out
        case pos =>
          obtain ⟨bb, off, s, rfl, hb, Hsv, q0⟩ := Hr.out.get hpp
          obtain ⟨k, rfl, hk⟩ := mems_get Hsv.out
          have hkm := (mems_mem L k).1 (List.mem_of_getElem? hk)
          have hkn := Hlu.out k hkm.2
          have hatk := HT4.out.at (i := k) (by rw [Hsl.out]; exact hkn)
          have han := andn32 (S.getD k 0) there (Hss.out.get k) Hth.out
          have hz := beq0_cast (andN (S.getD k 0) there)
          have Hk := Lib.hid hk
          cases hb3 : (andN (S.getD k 0) there == 0)
          · have Hno : Hid (∀ p', p' < p + 1 → ∀ k', (memsN L)[p']? = some k' → (andN (S.getD k' 0) there == 0) = false) := Lib.hid fun p' hp' k' hk' => by
              rcases Nat.lt_or_ge p' p with h | h
              · exact Hp.out p' h k' hk'
              · obtain rfl : p' = p := by omega
                rw [Hk.out] at hk'
                injection hk' with hk'
                subst hk'
                exact hb3
            rw [hb3] at hz
            generalize andN (S.getD k 0) there = z at *
            generalize S.getD k 0 = v at *
            clear hb3 hk hkm
            go_wp2_with fail
            go_round
            case rel => exact ⟨rfl, rfl, rfl, p + 1, by omega, by go_num, Hno⟩
            case measure => simp [intOf]; omega
          · have hfb := Hfound.out p k Hk.out hb3 Hp.out
            have hst := HF.out k hfb
            have hl100 := HQ.out k hfb
            subst hst
            rw [hb3] at hz
            have CO := Lib.hid fun X => tr_one (k : Int) X
            have hor := or32 there (bitN (k : Int)) Hth.out (bitN_lt _)
            have hand := andn32 L (bitN (k : Int)) HL32.out (bitN_lt _)
            have Hdn := Lib.hid (andN_down hkm.2 hkm.1)
            have Hor2 := Lib.hid (Hor.out (bitN (k : Int)))
            generalize andN (S.getD k 0) there = z at *
            generalize S.getD k 0 = v at *
            have hown := Hown2.out
            have hbw := Hbel2.out.size
            have hll : (l ++ [k]).length = l.length + 1 := by simp
            have hli : ints .i64 (intsOf (l ++ [k])) = ints .i64 (intsOf l) ++ [.int .i64 (k : Int)] := by simp [ints, intsOf]
            have Hll2 := Lib.hid hll
            have Hli := Lib.hid hli
            clear hll hli hb3 hk hkm hfb
            go_wp2_with (first
              | (go_at_call 29; (with_reducible refine (CO.out _).mono ?_); rintro e w7 ⟨rfl, hb7⟩)
              | (at_builtin; refine wpl_append1 (w := w4) rfl _ _ 29 rfl w3.heap.size 3 (.int .i64 0) 8 Tryz.underlying29 Tryz.infoInt rfl _ l.length _ _ rfl hown (.int .i64 ((k : Int))) rfl rfl (by omega) (by omega) (by omega) ?_; intro A4 c4 w6 ho hg))
            rename_i wA hbA tt0
            have HB6 := Lib.hid (below_append Hbel2.out hg hown hbw)
            have Ho7 := Lib.hid (own_below (own_below ho hbA) hb7)
            have Hb7 := Lib.hid (below_tail (below_tail HB6.out hbA) hb7)
            clear ho hg hbA hb7 hown hbw
            go_roundw
            case rel =>
              refine ⟨q + 1, A4, c4, ?_⟩
              rw [Hst1.out]
              refine ⟨?_, rfl, ?_, ?_, Hb7.out⟩
              · show _ = Value.slice A4 (l ++ [k]).length c4
                rw [Hll2.out]
              · show Value.int .u32 ((andN L (bitN (k : Int)) : Nat) : Int) = Value.int .u32 ((andN use (there ||| bitN (k : Int)) : Nat) : Int)
                rw [Hor2.out]
              · show w7.ownsRow w3.heap.size 3 1 (.slice A4 (l ++ [k]).length c4) (l ++ [k]).length (ints .i64 (intsOf (l ++ [k])))
                rw [Hll2.out, Hli.out]
                exact Ho7.out
            case measure =>
              have := Hdn.out
              simp [intOf]
              omega
end Go.Proofs.YtfdbpafenhdkbaaGreatDoor
