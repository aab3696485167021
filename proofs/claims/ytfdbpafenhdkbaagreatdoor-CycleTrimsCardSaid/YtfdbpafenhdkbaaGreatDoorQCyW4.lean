/- steps: the reference's alone and made, walked. -/
import Derived.Test.YtfdbpafenhdkbaaGreatDoorQCyP
import Derived.Test.YtfdbpafenhdkbaaGreatDoorQCyW3
import Derived.Test.YtfdbpafenhdkbaaGreatDoorQGrE0
import Derived.Deep.RegionHeld3
namespace Go.Proofs.YtfdbpafenhdkbaaGreatDoor
open Go.RowKit
set_option linter.unusedVariables false
set_option linter.unusedSimpArgs false

set_option maxHeartbeats 1000000 in
theorem rf_made (Ar : Option Addr) (nr cr g n : Nat) (ss : List Int) (N : List Bool) (w : World) (hr : Ints .i64 w Ar nr cr ss) (hN : BoolT w g N) (hn : N.length = n) (hn2 : n ≤ 1000) (hs : ∀ s ∈ ss, -(n : Int) ≤ s ∧ s ≤ 1000) :
    Calls Tryz.prog 38 #[.slice Ar nr cr, .slice (some ⟨g, 0, none⟩) n n] w fun e w' => e = .returned (.bool (allP true N ss)) ∧ w = w' := by
  obtain rfl := hr.len
  have hcap := hr.cap
  have Hs := Lib.hid hs
  have HN := Lib.hid hN
  have Hf : Hid (allP true N ss = ss.all fun s => if 0 ≤ s then true else N.getD (nonI s) false) := Lib.hid rfl
  clear hs hN
  go_enter Tryz.func38, Tryz.ntmps38
  go_wp2_with fail
  go_loop [5] (fun i => ∃ (k : Nat), k ≤ ss.length ∧ i = .int .i64 (k : Int) ∧ Hid (∀ j, j < k → ∀ y, ss[j]? = some y → (!(if 0 ≤ y then true else N.getD (nonI y) false)) = false)) (fun i => ss.length - (intOf i).toNat)
  case atStart => exact ⟨0, Nat.zero_le _, rfl, Lib.hid fun j hj => by omega⟩
  case round =>
    obtain ⟨k, hk, rfl, Hk⟩ := hrel
    by_cases hkk : k < ss.length
    · obtain ⟨bb, off, s, rfl, hb, Hsv, q0⟩ := hr.get hkk
      obtain ⟨s1, s2⟩ := Hs.out s (List.mem_of_getElem? Hsv.out)
      by_cases h0 : 0 ≤ s
      · have hgood : (!(if 0 ≤ s then true else N.getD (nonI s) false)) = false := by rw [if_pos h0]; rfl
        have Hgood := Lib.hid hgood
        clear hgood
        go_wp2_with fail
        go_roundw
        case rel => exact ⟨k + 1, by omega, by go_num, Lib.hid (next_none Hk.out Hsv.out Hgood.out)⟩
        case measure => simp [intOf]; omega
      · obtain ⟨j, hj, hnj, hw⟩ := non_place (s := s) (n := n) (by omega) s1 hn2
        have c0 := HN.out.at (i := j) (by omega)
        have hbad : N.getD j false = false → allP true N ss = false := fun hb => by rw [Hf.out]; exact all_false Hsv.out (by rw [if_neg h0, hnj]; exact hb)
        have hgood : N.getD j false = true → (!(if 0 ≤ s then true else N.getD (nonI s) false)) = false := fun hb => by rw [if_neg h0, hnj, hb]; rfl
        generalize N.getD j false = x at *
        have Hbad := Lib.hid hbad
        have Hgood := Lib.hid hgood
        clear hbad hgood
        rcases (by cases x <;> simp : x = false ∨ x = true) with rfl | rfl
        · go_wp2_with fail
          go_ret
          exact ⟨by rw [Hbad.out (by trivial)]; rfl, rfl⟩
        · go_wp2_with fail
          go_roundw
          case rel => exact ⟨k + 1, by omega, by go_num, Lib.hid (next_none Hk.out Hsv.out (Hgood.out (by trivial)))⟩
          case measure => simp [intOf]; omega
    · obtain rfl : k = ss.length := by omega
      have hall : allP true N ss = true := by
        rw [Hf.out]
        exact all_true fun j y hy => by
          have := Hk.out j (List.getElem?_eq_some_iff.1 hy).1 y hy
          rw [Bool.not_eq_eq_eq_not] at this
          exact this
      have Hall := Lib.hid hall
      clear hall
      go_wp2_with fail
      go_ret
      exact ⟨by rw [Hall.out]; rfl, rfl⟩

theorem alone_true {N : List Bool} {ss : List Int} {k : Nat} (h : ∀ p s, ss[p]? = some s → p ≠ k → nulB N s = true) : aloneP N ss k = true := by
  unfold aloneP
  rw [Bool.and_eq_true, List.all_eq_true, List.all_eq_true]
  constructor
  · intro s hs
    obtain ⟨p, hp⟩ := List.getElem?_of_mem hs
    rw [List.getElem?_take] at hp
    split at hp
    · exact h p s hp (by omega)
    · cases hp
  · intro s hs
    obtain ⟨p, hp⟩ := List.getElem?_of_mem hs
    rw [List.getElem?_drop] at hp
    exact h _ s hp (by omega)
theorem alone_false {N : List Bool} {ss : List Int} {k p : Nat} {s : Int} (hp : ss[p]? = some s) (hne : p ≠ k) (h : nulB N s = false) : aloneP N ss k = false := by
  unfold aloneP
  rw [Bool.and_eq_false_iff]
  rcases Nat.lt_or_ge p k with hlt | hge
  · left
    rw [List.all_eq_false]
    refine ⟨s, ?_, by rw [h]; simp⟩
    exact List.mem_of_getElem? (i := p) (by rw [List.getElem?_take, if_pos hlt]; exact hp)
  · right
    rw [List.all_eq_false]
    refine ⟨s, ?_, by rw [h]; simp⟩
    exact List.mem_of_getElem? (i := p - (k + 1)) (by rw [List.getElem?_drop, show k + 1 + (p - (k + 1)) = p by omega]; exact hp)
set_option maxHeartbeats 1000000 in
theorem rf_alone (Ar : Option Addr) (nr cr g n q : Nat) (ss : List Int) (N : List Bool) (w : World) (hr : Ints .i64 w Ar nr cr ss) (hN : BoolT w g N) (hn : N.length = n) (hn2 : n ≤ 1000) (hs : ∀ s ∈ ss, -(n : Int) ≤ s ∧ s ≤ 1000) (hq : q ≤ 1000) (hnr : nr ≤ 1000) :
    Calls Tryz.prog 37 #[.slice Ar nr cr, .int .i64 (q : Int), .slice (some ⟨g, 0, none⟩) n n] w fun e w' => e = .returned (.bool (aloneP N ss q)) ∧ w = w' := by
  obtain rfl := hr.len
  have hcap := hr.cap
  have Hs := Lib.hid hs
  have HN := Lib.hid hN
  clear hs hN
  go_enter Tryz.func37, Tryz.ntmps37
  go_wp2_with fail
  go_loop [7] (fun i => ∃ (k : Nat), k ≤ ss.length ∧ i = .int .i64 (k : Int) ∧ Hid (∀ p, p < k → ∀ s, ss[p]? = some s → p ≠ q → nulB N s = true)) (fun i => ss.length - (intOf i).toNat)
  case atStart => exact ⟨0, Nat.zero_le _, rfl, Lib.hid fun j hj => by omega⟩
  case round =>
    obtain ⟨k, hk, rfl, Hk⟩ := hrel
    by_cases hkk : k < ss.length
    · obtain ⟨bb, off, s, rfl, hb, Hsv, q0⟩ := hr.get hkk
      obtain ⟨s1, s2⟩ := Hs.out s (List.mem_of_getElem? Hsv.out)
      by_cases hkq : k = q
      · have hnx : ∀ p, p < k + 1 → ∀ s, ss[p]? = some s → p ≠ q → nulB N s = true := fun p hp s hs hne => Hk.out p (by omega) s hs hne
        have Hnx := Lib.hid hnx
        have hne : ((k : Int) != (q : Int)) = false := by rw [bne_eq_false_iff_eq]; omega
        clear hnx hkq
        go_wp2_with fail
        go_roundw
        case rel => exact ⟨k + 1, by omega, by go_num, Hnx⟩
        case measure => simp [intOf]; omega
      · have hne : ((k : Int) != (q : Int)) = true := by rw [bne_iff_ne]; omega
        have hgood : nulB N s = true → ∀ p, p < k + 1 → ∀ s, ss[p]? = some s → p ≠ q → nulB N s = true := fun hn p hp y hy hne => by
          rcases Nat.lt_or_ge p k with h | h
          · exact Hk.out p h y hy hne
          · obtain rfl : p = k := by omega
            have := Hsv.out.symm.trans hy
            injection this with this
            rw [← this]; exact hn
        have hbad : nulB N s = false → aloneP N ss q = false := fun hn => alone_false Hsv.out hkq hn
        have Hbad := Lib.hid hbad
        have Hgood := Lib.hid hgood
        clear hbad hgood hkq
        by_cases h0 : 0 ≤ s
        · have hn0 : Hid (nulB N s = false) := Lib.hid (by unfold nulB; rw [show decide (s < 0) = false by rw [decide_eq_false_iff_not]; omega]; rfl)
          go_wp2_with fail
          go_ret
          exact ⟨by rw [Hbad.out hn0.out]; rfl, rfl⟩
        · obtain ⟨j, hj, hnj, hw⟩ := non_place (s := s) (n := n) (by omega) s1 hn2
          have c0 := HN.out.at (i := j) (by omega)
          have hnu : nulB N s = N.getD j false := by unfold nulB; rw [show decide (s < 0) = true by rw [decide_eq_true_iff]; omega, hnj]; rfl
          have Hnu := Lib.hid hnu
          clear hnu
          generalize N.getD j false = x at *
          rcases (by cases x <;> simp : x = false ∨ x = true) with rfl | rfl
          · go_wp2_with fail
            go_ret
            exact ⟨by rw [Hbad.out Hnu.out]; rfl, rfl⟩
          · go_wp2_with fail
            go_roundw
            case rel => exact ⟨k + 1, by omega, by go_num, Lib.hid (Hgood.out Hnu.out)⟩
            case measure => simp [intOf]; omega
    · obtain rfl : k = ss.length := by omega
      have hall : aloneP N ss q = true := alone_true fun p s hp hne => Hk.out p (List.getElem?_eq_some_iff.1 hp).1 s hp hne
      have Hall := Lib.hid hall
      clear hall
      go_wp2_with fail
      go_ret
      exact ⟨by rw [Hall.out]; rfl, rfl⟩
end Go.Proofs.YtfdbpafenhdkbaaGreatDoor

namespace Go.Proofs.YtfdbpafenhdkbaaGreatDoor
open Go.RowKit
set_option linter.unusedVariables false
set_option linter.unusedSimpArgs false

theorem Blk.hidden {w w' : World} {g : Nat} {t : TypeId} {cs : Array Value} (h : Blk w g t cs) (hb : Hid (Below w.heap.size w w')) : Blk w' g t cs := h.ext hb.out
set_option maxRecDepth 20000 in
set_option maxHeartbeats 4000000 in
theorem rf_Steps (h : GH) (G : Gr) (w : World) (hg : GrAt w h G) (h1 : h.n1 ≤ 100) (h2 : h.n2 ≤ 100) (h3 : h.n3 ≤ 100) :
    Calls Tryz.prog 13 #[GV h G.start] w fun e w' => Below w.heap.size w w' ∧
      ((G.right = false ∧ e = .returned (.slice none 0 0)) ∨ (G.right = true ∧ ∃ g, w.heap.size ≤ g ∧ e = .returned (.slice (some ⟨g, 0, none⟩) h.n2 h.n2) ∧ SetT w' g (stepsN G))) := by
  obtain ⟨a1, n1, c1, a2, n2, c2, a3, n3, c3⟩ := h
  have e2 : G.nons.length = n2 := hg.nons.len
  have e3 : G.rules.length = n3 := hg.rules.len
  have k3 := hg.rules.cap
  have k2 := hg.nons.cap
  simp only [] at h1 h2 h3 k3 k2
  have Hg := Lib.hid hg
  have hB0 := alloc_below w (.cells #[.slice a1 n1 c1, .slice a2 n2 c2, .slice a3 n3 c3, .int .i64 G.start] 26)
  have hbox := GBox.new w 26 ⟨a1, n1, c1, a2, n2, c2, a3, n3, c3⟩ G.start
  have hmk := make_sets n2 (by omega)
  clear hg
  go_enter Tryz.func13, Tryz.ntmps13
  have ⟨z5, z0, z1, z2, z3⟩ := hbox
  simp only [] at z0 z1 z2 z3
  go_wp2_with fail
  generalize w.alloc (.cells #[.slice a1 n1 c1, .slice a2 n2 c2, .slice a3 n3 c3, .int .i64 G.start] 26) = W0 at *
  (with_reducible refine (rf_right9 ⟨a1, n1, c1, a2, n2, c2, a3, n3, c3⟩ G W0 (Hg.out.below hB0) (by simp only []; omega) (by simp only []; omega) (by simp only []; omega)).mono ?_)
  rintro e W1 ⟨rfl, hb1⟩
  have hB1 := below_tail hB0 hb1
  have hbx1 := hbox.below hb1
  clear z0 z1 z2 z3 z5 hbox
  have ⟨y5, y0, y1, y2, y3⟩ := hbx1
  simp only [] at y0 y1 y2 y3
  rcases hrt : G.right with _ | _
  · go_wp2_with fail
    go_ret
    exact ⟨hB1, .inl ⟨hrt, rfl⟩⟩
  have hfit := Gr.fits hrt
  have Hrt := Lib.hid hrt
  have Hfit := Lib.hid hfit
  have CN := Lib.hid fun X (hb : Below W1.heap.size W1 X) => (rf_Nullable ⟨a1, n1, c1, a2, n2, c2, a3, n3, c3⟩ G X ((Hg.out.below hB1).below hb) (by simp only []; omega) (by simp only []; omega) (by simp only []; omega)).mono fun e w' hh => And.intro (below_tail hb hh.1) (And.intro (Lib.hid hh.1) (hh.2.resolve_left fun hc => by rw [Hrt.out] at hc; cases hc.1).2)
  have CP := Lib.hid fun X (hb : Below W1.heap.size W1 X) => (rf_Productive ⟨a1, n1, c1, a2, n2, c2, a3, n3, c3⟩ G X ((Hg.out.below hB1).below hb) (by simp only []; omega) (by simp only []; omega) (by simp only []; omega)).mono fun e w' hh => And.intro (below_tail hb hh.1) (And.intro (Lib.hid hh.1) (hh.2.resolve_left fun hc => by rw [Hrt.out] at hc; cases hc.1).2)
  have HS : Hid (∀ W', Below W1.heap.size W1 W' → W'.cell? ⟨w.heap.size, 0, none⟩ = some (.slice a1 n1 c1) ∧ W'.cell? ⟨w.heap.size, 1, none⟩ = some (.slice a2 n2 c2) ∧ W'.cell? ⟨w.heap.size, 2, none⟩ = some (.slice a3 n3 c3) ∧ W'.cell? ⟨w.heap.size, 3, none⟩ = some (.int .i64 G.start) ∧ Below W1.heap.size W1 W') := Lib.hid fun W' hb => ⟨by rw [hb.cell (by exact y5)]; exact y0, by rw [hb.cell (by exact y5)]; exact y1, by rw [hb.cell (by exact y5)]; exact y2, by rw [hb.cell (by exact y5)]; exact y3, hb⟩
  have HB1 := Lib.hid hB1
  have Hbx1 := Lib.hid hbx1
  clear hrt hfit hB1 hbx1 hB0 hb1
  go_wp2_with fail
  go_region_held3 (fun W' => W'.cell? ⟨w.heap.size, 0, none⟩ = some (.slice a1 n1 c1) ∧ W'.cell? ⟨w.heap.size, 1, none⟩ = some (.slice a2 n2 c2) ∧ W'.cell? ⟨w.heap.size, 2, none⟩ = some (.slice a3 n3 c3) ∧ W'.cell? ⟨w.heap.size, 3, none⟩ = some (.int .i64 G.start) ∧ Below W1.heap.size W1 W')
    ((refine HS.out _ ?_; (repeat (first | assumption | exact Below.refl _ _ | refine Below.drew ?_ | refine below_alloc ?_ _ | refine below_set ?_ _ _ _ (by (first | exact Nat.le_refl _ | exact Nat.le_succ _ | exact Below.size (by assumption) | exact Nat.le_succ_of_le (Below.size (by assumption)) | (simp; done) | omega)))); done))
    (first
      | (go_at_call 36; refine (CN.out _ (by (repeat (first | assumption | exact Below.refl _ _ | refine Below.drew ?_ | refine below_alloc ?_ _ | refine below_set ?_ _ _ _ (by (first | exact Nat.le_refl _ | exact Nat.le_succ _ | exact Below.size (by assumption) | exact Nat.le_succ_of_le (Below.size (by assumption)) | (simp; done) | omega)))))).mono ?_; rintro e w2 ⟨hB2, Hb2, gN, hgN, rfl, HTN⟩)
      | (go_at_call 20; refine (CP.out _ (by (repeat (first | assumption | exact Below.refl _ _ | refine Below.drew ?_ | refine below_alloc ?_ _ | refine below_set ?_ _ _ _ (by (first | exact Nat.le_refl _ | exact Nat.le_succ _ | exact Below.size (by assumption) | exact Nat.le_succ_of_le (Below.size (by assumption)) | (simp; done) | omega)))))).mono ?_; rintro e w3 ⟨hB3, Hb3, gP, hgP, rfl, HTP⟩))
  have HN3 : Hid (BoolT w3 gN (nullN G)) := Lib.hid (Blk.hidden HTN Hb3)
  have HP3 : Hid (BoolT w3 gP (prodN G)) := Lib.hid HTP
  have HB3 := Lib.hid (below_tail HB1.out hB3)
  have Hbx3 := Lib.hid (Hbx1.out.below hB3)
  clear hB2 Hb2 hgN HTN Hb3 hgP HTP hB3 CN CP HS y0 y1 y2 y3 y5
  have ⟨y5, y0, y1, y2, y3⟩ := Hbx3.out
  simp only [] at y0 y1 y2 y3
  go_upto_region 5 with fail
  have hT0 := SetT.new w3 (List.replicate n2 0)
  have hB40 := alloc_below w3 (.cells (nums .u32 (List.replicate n2 0)).toArray 36)
  generalize w3.alloc (.cells (nums .u32 (List.replicate n2 0)).toArray 36) = W4 at *

  generalize hgS : w3.heap.size = gS at *
  have HgS := Lib.hid hgS
  have HT0 := Lib.hid hT0
  have HB40 := Lib.hid hB40
  clear hgS hT0 hB40 y0 y1 y2 y3 y5 hmk
  go_wp2_with fail
  go_loopw [6] (fun i wr => ∃ j : Nat, j ≤ n3 ∧ i = .int .i64 (j : Int) ∧ Hid (Below gS w3 wr) ∧ Hid (SetT wr gS (passSt (nullN G) (prodN G) (G.rules.take j) (List.replicate n2 0)))) (fun i _ => n3 - (intOf i).toNat)
  case atStart => exact ⟨0, Nat.zero_le _, rfl, HB40, Lib.hid (by simpa [passSt] using HT0.out)⟩
  case round =>
    obtain ⟨j, hj, rfl, HB, HT⟩ := hrel
    have hgs3 : w3.heap.size = gS := HgS.out
    have HBw := Lib.hid (HB3.out.trans (HB.out.mono (by rw [← hgs3]; exact HB3.out.size)))
    have hbx := Hbx3.out.below (by rw [hgs3]; exact HB.out)
    have ⟨y5, y0, y1, y2, y3⟩ := hbx
    simp only [] at y0 y1 y2 y3
    clear hgs3
    by_cases hjj : j < n3
    case neg =>
      obtain rfl : j = n3 := by omega
      have Hf : Hid (SetT wr gS (stepsN G)) := Lib.hid (by have := HT.out; rw [List.take_of_length_le (by omega)] at this; unfold stepsN; rw [e2]; exact this)
      go_wp2_with fail
      go_ret
      exact ⟨HBw.out, .inr ⟨Hrt.out, gS, by rw [← HgS.out]; exact HB3.out.size, rfl, Hf.out⟩⟩
    case pos =>
      obtain ⟨bb, off, r, Ar, cr, rfl, hb0, Hr, q0, q1, q2, hrrw⟩ := Hg.out.rules.get hjj
      rw [← HBw.out.cell (by exact hb0)] at q0 q1 q2
      have hb : bb < wr.heap.size := Nat.lt_of_lt_of_le hb0 HBw.out.size
      have HrrW := Lib.hid hrrw
      have hmem := List.mem_of_getElem? Hr.out
      have Hnx : Hid (passSt (nullN G) (prodN G) (G.rules.take (j + 1)) (List.replicate n2 0) = posSt (nullN G) (prodN G) r r.right.length (passSt (nullN G) (prodN G) (G.rules.take j) (List.replicate n2 0))) := Lib.hid (by rw [take_snoc' Hr.out, passSt_snoc])
      have hcl : (passSt (nullN G) (prodN G) (G.rules.take j) (List.replicate n2 0)).length = n2 := by rw [passSt_len]; simp
      have hcs := passSt_small (nullN G) (prodN G) (G.rules.take j) (Small.zero n2)
      generalize passSt (nullN G) (prodN G) (G.rules.take j) (List.replicate n2 0) = cur at *
      obtain ⟨l1, l2⟩ := Hfit.out.left r hmem
      obtain ⟨jl, hjl⟩ : ∃ jl : Nat, r.left = (jl : Int) := ⟨r.left.toNat, by omega⟩
      have hjl2 : jl < n2 := by omega
      have Hjl : Hid (r.left.toNat = jl) := Lib.hid (by omega)
      have hlen := Hfit.out.len r hmem
      have hsy := Hfit.out.symB hmem
      rw [e2] at hsy
      rw [hjl] at q0
      have Hsy := Lib.hid hsy
      have Hcl := Lib.hid hcl
      have Hcs := Lib.hid hcs
      have hbA := alloc_below wr (.cells #[.int .i64 (jl : Int), .slice Ar r.right.length cr, .int .i64 r.prec] 51)
      have hRb := Blk.new wr 51 #[.int .i64 (jl : Int), .slice Ar r.right.length cr, .int .i64 r.prec]
      have hgw : gS < wr.heap.size := HT.out.lt
      clear hrrw hsy hcl hcs l1 l2 hjl hmem hbx
      go_wp2_with fail
      have HTA : Hid (SetT (wr.alloc (.cells #[.int .i64 (jl : Int), .slice Ar r.right.length cr, .int .i64 r.prec] 51)) gS cur) := Lib.hid (Blk.ext HT.out hbA)
      have HBA := Lib.hid (HB.out.trans (hbA.mono (Nat.le_of_lt hgw)))
      have HRb := Lib.hid hRb
      generalize wr.alloc (.cells #[.int .i64 (jl : Int), .slice Ar r.right.length cr, .int .i64 r.prec] 51) = WA at *
      generalize wr.heap.size = gR at *
      clear hbA hRb y0 y1 y2 y3 y5 q0 q1 q2 HT HB HBw
      have hlA : gS < WA.heap.size := HTA.out.lt
      have hcapr := HrrW.out.cap
      go_loopw [8] (fun i wz => ∃ kk : Nat, kk ≤ r.right.length ∧ i = .int .i64 (kk : Int) ∧ Hid (SetT wz gS (posSt (nullN G) (prodN G) r kk cur)) ∧ Hid (WA.grownBy wz (some gS))) (fun i _ => r.right.length - (intOf i).toNat)
      case atStart => exact ⟨0, Nat.zero_le _, rfl, HTA, Lib.hid (grown_refl _ _)⟩
      case round =>
        obtain ⟨kk, hkk, rfl, HT, Hgr⟩ := hrel
        have hgRS : gR ≠ gS := by omega
        have hRz := HRb.out.grown Hgr.out (by intro e; injection e with e; exact hgRS e)
        have r0 : wr.cell? ⟨gR, 0, none⟩ = some (.int .i64 (jl : Int)) := hRz.cell 0
        have r1 : wr.cell? ⟨gR, 1, none⟩ = some (.slice Ar r.right.length cr) := hRz.cell 1
        have hRl : gR < wr.heap.size := hRz.lt
        have HBz := Lib.hid (HBA.out.trans (grown_is_below Hgr.out (Nat.le_of_lt hlA) (Nat.le_refl _)))
        have HBzw := Lib.hid (HB3.out.trans (HBz.out.mono (by rw [← HgS.out]; exact HB3.out.size)))
        have hcl3 : (posSt (nullN G) (prodN G) r kk cur).length = n2 := by rw [posSt_len]; exact Hcl.out
        have hsm3 := posSt_small (nullN G) (prodN G) r Hcs.out kk
        have Hrrz := Lib.hid (HrrW.out.below HBzw.out)
        have hgw : gS < wr.heap.size := HT.out.lt
        by_cases hkl : kk < r.right.length
        case neg =>
          obtain rfl : kk = r.right.length := by omega
          clear hcl3 hsm3 hRz
          go_wp2_with fail
          go_roundw
          case rel => exact ⟨j + 1, by omega, by go_num, HBz, Lib.hid (by rw [Hnx.out]; exact HT.out)⟩
          case measure => simp [intOf]; omega
        case pos =>
          obtain ⟨sb, so, s, rfl, hsb, Hs, qs⟩ := Hrrz.out.get hkl
          have hs1 := Hsy.out s (List.mem_of_getElem? Hs.out)
          have hnx := posSt_succ (nullN G) (prodN G) r kk cur
          have hgs : growSt (nullN G) (prodN G) r kk (posSt (nullN G) (prodN G) r kk cur) = if standsR (nullN G) (prodN G) r.right kk s then addAt jl (bitN (-1 - s)) (posSt (nullN G) (prodN G) r kk cur) else posSt (nullN G) (prodN G) r kk cur := by unfold growSt; rw [Hs.out]; simp only [Hjl.out]
          have Hnx2 := Lib.hid (hnx.trans hgs)
          have hat := HT.out.at (i := jl) (by rw [hcl3]; exact hjl2)
          have hgN : gN < gS := by have := HN3.out.lt; rw [HgS.out] at this; exact this
          have hgP : gP < gS := by have := HP3.out.lt; rw [HgS.out] at this; exact this
          have cA := rf_alone (some ⟨sb, so, none⟩) r.right.length cr gN n2 kk r.right (nullN G) wr Hrrz.out (Blk.below HN3.out HBz.out hgN) (by rw [nullN_grown, grownN_len]; exact e2) (by omega) Hsy.out (by omega) (by omega)
          have cM := rf_made (some ⟨sb, so, none⟩) r.right.length cr gP n2 r.right (prodN G) wr Hrrz.out (Blk.below HP3.out HBz.out hgP) (by rw [prodN_len]; exact e2) (by omega) Hsy.out
          have hst : standsR (nullN G) (prodN G) r.right kk s = (decide (s < 0) && aloneP (nullN G) r.right kk && allP true (prodN G) r.right) := rfl
          have Hst := Lib.hid hst
          generalize aloneP (nullN G) r.right kk = ta at *
          generalize allP true (prodN G) r.right = tm at *
          have CA := Lib.hid cA
          have CM := Lib.hid cM
          clear hnx hgs cA cM hst hgN hgP hRz
          have skip : standsR (nullN G) (prodN G) r.right kk s = false → Hid (SetT wr gS (posSt (nullN G) (prodN G) r (kk + 1) cur)) := fun hf => Lib.hid (by rw [Hnx2.out, hf]; exact HT.out)
          have Hskip := Lib.hid skip
          clear skip
          by_cases h0 : 0 ≤ s
          · have Hf := Hskip.out (by rw [Hst.out, show decide (s < 0) = false by rw [decide_eq_false_iff_not]; omega]; rfl)
            clear hcl3 hsm3
            go_wp2_with fail
            go_roundw
            case rel => exact ⟨kk + 1, by omega, by go_num, Hf, Hgr⟩
            case measure => simp [intOf]; omega
          have hneg : decide (s < 0) = true := by rw [decide_eq_true_iff]; omega
          rcases (by cases ta <;> cases tm <;> simp : ta = false ∨ (ta = true ∧ tm = false) ∨ (ta = true ∧ tm = true)) with rfl | ⟨rfl, rfl⟩ | ⟨rfl, rfl⟩
          · have Hf := Hskip.out (by rw [Hst.out, hneg]; rfl)
            clear hcl3 hsm3
            go_wp2_with (go_at_call 37; (with_reducible refine CA.out.mono ?_); rintro e w' ⟨rfl, rfl⟩)
            go_roundw
            case rel => exact ⟨kk + 1, by omega, by go_num, Hf, Hgr⟩
            case measure => simp [intOf]; omega
          · have Hf := Hskip.out (by rw [Hst.out, hneg]; rfl)
            clear hcl3 hsm3
            go_wp2_with (first
              | (go_at_call 37; (with_reducible refine CA.out.mono ?_); rintro e w' ⟨rfl, rfl⟩)
              | (go_at_call 38; (with_reducible refine CM.out.mono ?_); rintro e w' ⟨rfl, rfl⟩))
            go_roundw
            case rel => exact ⟨kk + 1, by omega, by go_num, Hf, Hgr⟩
            case measure => simp [intOf]; omega
          · have hstt : standsR (nullN G) (prodN G) r.right kk s = true := by rw [Hst.out, hneg]; rfl
            have Hnx3 : Hid (posSt (nullN G) (prodN G) r (kk + 1) cur = addAt jl (bitN (-1 - s)) (posSt (nullN G) (prodN G) r kk cur)) := Lib.hid (by rw [Hnx2.out, hstt]; rfl)
            have hws : IntKind.i64.wrap (-1 - s) = -1 - s := IntWalk.i64_in _ (by omega)
            have hlo := hsm3.get jl
            have hhi := bitN_lt (-1 - s)
            have hor := or32 ((posSt (nullN G) (prodN G) r kk cur).getD jl 0) (bitN (-1 - s)) hlo hhi
            have Hput := Lib.hid fun x : Ext wr => SetT.put (Blk.ext HT.out (bl_below wr x) : SetT (bl wr x) gS (posSt (nullN G) (prodN G) r kk cur)) jl ((posSt (nullN G) (prodN G) r kk cur).getD jl 0 ||| bitN (-1 - s))
            have hfz := Blk.frozen HT.out jl
            have CB := Lib.hid fun x : Ext wr => ref_bit (-1 - s) (bl wr x)
            unfold addAt at Hnx3
            generalize (posSt (nullN G) (prodN G) r kk cur).getD jl 0 ||| bitN (-1 - s) = z at *
            generalize (posSt (nullN G) (prodN G) r kk cur).getD jl 0 = old at *
            generalize bitN (-1 - s) = bv at *
            have bc := bl_cell wr
            have bf := bl_frozen wr
            clear hstt hcl3 hsm3
            go_wp2_with (first
              | (go_at_call 37; (with_reducible refine CA.out.mono ?_); rintro e w' ⟨rfl, rfl⟩)
              | (go_at_call 38; (with_reducible refine CM.out.mono ?_); rintro e w' ⟨rfl, rfl⟩))
            refine wp_region_below_tail 17 (by kernel_rfl) (by kernel_rfl) ?_
            simp only [List.take_succ_cons, List.take_zero, List.drop_succ_cons, List.drop_zero]
            repeat (go_big_quiet_step ((go_at_call 23; with_reducible exact bl_of_same (CB.out _))))
            refine wpQuiet_nil ?_
            rintro _ ⟨x, rfl⟩
            have hcx := (bc x gS jl hgw).trans hat
            have hfx := (bf x gS jl hgw).trans hfz
            have hsx := bl_size wr x
            go_wp2_with fail
            go_roundw
            case rel => exact ⟨kk + 1, by omega, by go_num, Lib.hid (by rw [Hnx3.out]; exact Hput.out x), Lib.hid (grown_trans (grown_trans Hgr.out (grown_below _ (bl_below wr x))) (grown_set _ _ _ _))⟩
            case measure => simp [intOf]; omega
end Go.Proofs.YtfdbpafenhdkbaaGreatDoor

namespace Go.Proofs.YtfdbpafenhdkbaaGreatDoor
set_option linter.unusedVariables false
set_option linter.unusedSimpArgs false

/-! ### sets by a question -/
/-- the set of those below n of which f holds -/
def setB (f : Nat → Bool) (n : Nat) : Nat := (List.range n).foldl (fun s i => if f i then s ||| bitN (i : Int) else s) 0
theorem setB_succ (f : Nat → Bool) (n : Nat) : setB f (n + 1) = if f n then setB f n ||| bitN (n : Int) else setB f n := by
  unfold setB
  rw [List.range_succ, List.foldl_append]
  rfl
theorem bitN_test (i t : Nat) : (bitN (i : Int)).testBit t = (decide (i < 32) && decide (t = i)) := by
  unfold bitN
  by_cases h : i < 32
  · rw [if_pos (by omega), Int.toNat_natCast, Nat.testBit_two_pow]
    simp [h, eq_comm]
  · rw [if_neg (by omega)]
    simp [h]
theorem setB_bit (f : Nat → Bool) (n t : Nat) : (setB f n).testBit t = (decide (t < 32) && (decide (t < n) && f t)) := by
  induction n with
  | zero => simp [setB]
  | succ n ih =>
    rw [setB_succ]
    by_cases htn : t = n
    · subst htn
      cases hf : f t
      · simp [ih, hf]
      · rw [if_pos rfl, Nat.testBit_or, ih, bitN_test]
        simp
    · have e : decide (t < n + 1) = decide (t < n) := by
        rw [Bool.eq_iff_iff, decide_eq_true_iff, decide_eq_true_iff]; omega
      rw [e]
      split
      · rw [Nat.testBit_or, ih, bitN_test]
        simp [htn]
      · exact ih
theorem setB_lt (f : Nat → Bool) : ∀ n, setB f n < 4294967296
  | 0 => by simp [setB]
  | n + 1 => by
    rw [setB_succ]
    split
    · exact or_lt32 (setB_lt f n) (bitN_lt _)
    · exact setB_lt f n
theorem bits_le {a b : Nat} (h : ∀ t, a.testBit t = true → b.testBit t = true) : a ≤ b := by
  have : a &&& b = a := by
    apply Nat.eq_of_testBit_eq
    intro t
    rw [Nat.testBit_and]
    cases ha : a.testBit t
    · rfl
    · rw [h t ha]; rfl
  rw [← this]
  exact Nat.and_le_right

/-! ### passes over all places -/
def fwK (i k : Nat) (F : List Nat) : List Nat := if (F.getD i 0).testBit k then addAt i (F.getD k 0) F else F
def fwR (i m : Nat) (F : List Nat) : List Nat := (List.range m).foldl (fun F k => fwK i k F) F
def fwI (m q : Nat) (F : List Nat) : List Nat := (List.range q).foldl (fun F i => fwR i m F) F
theorem fwR_succ (i m : Nat) (F : List Nat) : fwR i (m + 1) F = fwK i m (fwR i m F) := by
  unfold fwR
  rw [List.range_succ, List.foldl_append]
  rfl
theorem fwI_succ (m q : Nat) (F : List Nat) : fwI m (q + 1) F = fwR q m (fwI m q F) := by
  unfold fwI
  rw [List.range_succ, List.foldl_append]
  rfl
theorem fwK_len (i k : Nat) (F : List Nat) : (fwK i k F).length = F.length := by
  unfold fwK
  split
  · simp [addAt]
  · rfl
theorem fwR_len (i : Nat) (F : List Nat) : ∀ m, (fwR i m F).length = F.length
  | 0 => rfl
  | m + 1 => by rw [fwR_succ, fwK_len, fwR_len i F m]
theorem fwI_len (m : Nat) (F : List Nat) : ∀ q, (fwI m q F).length = F.length
  | 0 => rfl
  | q + 1 => by rw [fwI_succ, fwR_len, fwI_len m F q]
theorem fwK_small (i k : Nat) {F : List Nat} (h : Small F) : Small (fwK i k F) := by
  unfold fwK
  split
  · exact h.addAt _ (h.get _)
  · exact h
theorem fwR_small (i : Nat) {F : List Nat} (h : Small F) : ∀ m, Small (fwR i m F)
  | 0 => h
  | m + 1 => by rw [fwR_succ]; exact fwK_small _ _ (fwR_small i h m)
theorem fwI_small (m : Nat) {F : List Nat} (h : Small F) : ∀ q, Small (fwI m q F)
  | 0 => h
  | q + 1 => by rw [fwI_succ]; exact fwR_small _ (fwI_small m h q) _
theorem iterFw_small (m q : Nat) {F : List Nat} (h : Small F) : ∀ p, Small (iter (fwI m q) p F)
  | 0 => h
  | p + 1 => by rw [iter]; exact fwI_small _ (iterFw_small m q h p) _
theorem iterFw_len (m q : Nat) (F : List Nat) : ∀ p, (iter (fwI m q) p F).length = F.length
  | 0 => rfl
  | p + 1 => by rw [iter, fwI_len, iterFw_len m q F p]
theorem addAt_get (i x j : Nat) (F : List Nat) : (addAt i x F).getD j 0 = if j = i ∧ i < F.length then F.getD i 0 ||| x else F.getD j 0 := by
  unfold addAt
  rw [List.getD_eq_getElem?_getD, List.getElem?_set]
  by_cases hij : i = j
  · subst hij
    by_cases hl : i < F.length
    · simp [hl]
    · simp [hl, List.getD_eq_getElem?_getD, List.getElem?_eq_none (show F.length ≤ i by omega)]
  · rw [if_neg hij, if_neg (by rintro ⟨h, _⟩; exact hij h.symm), List.getD_eq_getElem?_getD]
theorem fwK_up (i k : Nat) (F : List Nat) {j t : Nat} (h : (F.getD j 0).testBit t = true) : ((fwK i k F).getD j 0).testBit t = true := by
  unfold fwK
  split
  · rw [addAt_get]
    split
    · rename_i hc
      rw [Nat.testBit_or, ← hc.1, h]; rfl
    · exact h
  · exact h
theorem fwR_up (i : Nat) (F : List Nat) {j t : Nat} (h : (F.getD j 0).testBit t = true) : ∀ m, ((fwR i m F).getD j 0).testBit t = true
  | 0 => h
  | m + 1 => by rw [fwR_succ]; exact fwK_up _ _ _ (fwR_up i F h m)
theorem fwI_up (m : Nat) (F : List Nat) {j t : Nat} (h : (F.getD j 0).testBit t = true) : ∀ q, ((fwI m q F).getD j 0).testBit t = true
  | 0 => h
  | q + 1 => by rw [fwI_succ]; exact fwR_up _ _ (fwI_up m F h q) _
theorem iterFw_up (m q : Nat) (F : List Nat) {j t : Nat} (h : (F.getD j 0).testBit t = true) : ∀ p, ((iter (fwI m q) p F).getD j 0).testBit t = true
  | 0 => h
  | p + 1 => by rw [iter]; exact fwI_up _ _ (iterFw_up m q F h p) _
theorem fwR_low (i : Nat) (F : List Nat) (hi : i < F.length) {k t : Nat} (h1 : (F.getD i 0).testBit k = true) (h2 : (F.getD k 0).testBit t = true) : ∀ m, k < m → ((fwR i m F).getD i 0).testBit t = true
  | 0, h => by omega
  | m + 1, h => by
    rw [fwR_succ]
    by_cases hk : k = m
    · subst hk
      unfold fwK
      rw [if_pos (fwR_up i F h1 k), addAt_get, if_pos ⟨rfl, by rw [fwR_len]; exact hi⟩, Nat.testBit_or, fwR_up i F h2 k, Bool.or_true]
    · exact fwK_up _ _ _ (fwR_low i F hi h1 h2 m (by omega))
theorem fwI_low (m : Nat) (F : List Nat) {i k t : Nat} (hk : k < m) (h1 : (F.getD i 0).testBit k = true) (h2 : (F.getD k 0).testBit t = true) : ∀ q, i < q → i < F.length → ((fwI m q F).getD i 0).testBit t = true
  | 0, h, _ => by omega
  | q + 1, h, hl => by
    rw [fwI_succ]
    by_cases hq : i = q
    · subst hq
      exact fwR_low i _ (by rw [fwI_len]; exact hl) (fwI_up m F h1 i) (fwI_up m F h2 i) m hk
    · exact fwR_up _ _ (fwI_low m F hk h1 h2 q (by omega) hl) _
theorem floyd_low (S : List Nat) : ∀ (p : Nat) {i t : Nat}, i < S.length → ((iter (stepD S) p S).getD i 0).testBit t = true → ((iter (fwI S.length S.length) p S).getD i 0).testBit t = true
  | 0, i, t, hi, h => h
  | p + 1, i, t, hi, h => by
    rw [iter, stepD_get _ _ (by rw [iterD_len]; exact hi), Nat.testBit_or, Bool.or_eq_true] at h
    rw [iter]
    rcases h with h | h
    · exact fwI_up _ _ (floyd_low S p hi h) _
    · obtain ⟨k, hk, h3, h4⟩ := joinS_mem.1 h
      rw [iterD_len] at hk
      exact fwI_low _ _ hk (iterFw_up _ _ S h3 p) (floyd_low S p hk h4) _ hi (by rw [iterFw_len]; exact hi)
def UpF (S F : List Nat) : Prop := F.length = S.length ∧ ∀ i t, i < S.length → (F.getD i 0).testBit t = true → comesTo S i t = true
theorem fwK_in {S F : List Nat} (h : UpF S F) (i : Nat) {k : Nat} (hk : k < S.length) : UpF S (fwK i k F) := by
  refine ⟨by rw [fwK_len]; exact h.1, fun j t hj hb => ?_⟩
  unfold fwK at hb
  split at hb
  · rename_i hc
    rw [addAt_get] at hb
    split at hb
    · rename_i he
      obtain ⟨rfl, _⟩ := he
      rw [Nat.testBit_or, Bool.or_eq_true] at hb
      rcases hb with hb | hb
      · exact h.2 _ _ hj hb
      · exact comes_trans hj hk (h.2 _ _ hj hc) (h.2 _ _ hk hb)
    · exact h.2 _ _ hj hb
  · exact h.2 _ _ hj hb
theorem fwR_in {S F : List Nat} (h : UpF S F) (i : Nat) : ∀ m, m ≤ S.length → UpF S (fwR i m F)
  | 0, _ => h
  | m + 1, hm => by rw [fwR_succ]; exact fwK_in (fwR_in h i m (by omega)) i (by omega)
theorem fwI_in {S F : List Nat} (h : UpF S F) (q : Nat) : UpF S (fwI S.length q F) := by
  induction q with
  | zero => exact h
  | succ q ih => rw [fwI_succ]; exact fwR_in ih q _ (Nat.le_refl _)
theorem iterFw_in (S : List Nat) (q : Nat) : ∀ p, UpF S (iter (fwI S.length q) p S)
  | 0 => ⟨rfl, fun i t hi h => comes_once hi h⟩
  | p + 1 => by rw [iter]; exact fwI_in (iterFw_in S q p) q
theorem sets_ext {F F' : List Nat} (hl : F.length = F'.length) (h : ∀ i, i < F.length → ∀ t, (F.getD i 0).testBit t = (F'.getD i 0).testBit t) : F = F' := by
  refine List.ext_getElem hl fun i h1 h2 => ?_
  have := Nat.eq_of_testBit_eq (h i h1)
  rw [List.getD_eq_getElem?_getD, List.getD_eq_getElem?_getD, List.getElem?_eq_getElem h1, List.getElem?_eq_getElem h2] at this
  exact this
/-- as many passes as places: the closure -/
theorem floyd_eq (S : List Nat) : iter (fwI S.length S.length) S.length S = closeS S := by
  refine sets_ext (by rw [iterFw_len, closeS_len]) fun i hi t => ?_
  rw [iterFw_len] at hi
  rw [Bool.eq_iff_iff]
  exact ⟨fun h => (iterFw_in S _ _).2 i t hi h, fun h => floyd_low S _ hi h⟩
theorem closeS_small {S : List Nat} (h : Small S) : Small (closeS S) := by rw [← floyd_eq]; exact iterFw_small _ _ h _

/-! ### the closure of one, member by member -/
def moreN (S : List Nat) (R : Nat) (l : List Nat) : Nat := l.foldl (fun m k => m ||| S.getD k 0) R
theorem moreN_snoc (S : List Nat) (R : Nat) (l : List Nat) (k : Nat) : moreN S R (l ++ [k]) = moreN S R l ||| S.getD k 0 := by simp [moreN]
theorem moreN_bit (S : List Nat) (t : Nat) : ∀ (l : List Nat) (R : Nat), (moreN S R l).testBit t = (R.testBit t || l.any fun k => (S.getD k 0).testBit t)
  | [], R => by simp [moreN]
  | k :: l, R => by
    show (moreN S (R ||| S.getD k 0) l).testBit t = _
    rw [moreN_bit S t l, Nat.testBit_or, List.any_cons, Bool.or_assoc]
theorem moreN_lt {S : List Nat} (hS : Small S) : ∀ (l : List Nat) {R : Nat}, R < 4294967296 → moreN S R l < 4294967296
  | [], R, h => h
  | k :: l, R, h => moreN_lt hS l (or_lt32 h (hS.get k))
theorem moreN_le (S : List Nat) (l : List Nat) (R : Nat) : R ≤ moreN S R l := bits_le fun t h => by rw [moreN_bit, h]; rfl
theorem bit_lt {s t : Nat} (hs : s < 4294967296) (h : s.testBit t = true) : t < 32 := by
  rcases Nat.lt_or_ge t 32 with h' | h'
  · exact h'
  · rw [test_big s hs t h'] at h; cases h
/-- all steps go to places that are there -/
def InS (S : List Nat) : Prop := ∀ i t, (S.getD i 0).testBit t = true → t < S.length
def ReachI (S : List Nat) (i R : Nat) : Prop := R < 4294967296 ∧ (∀ t, (S.getD i 0).testBit t = true → R.testBit t = true) ∧ ∀ t, R.testBit t = true → t < S.length ∧ comesTo S i t = true
theorem ReachI.start {S : List Nat} (hs : Small S) (hI : InS S) {i : Nat} (hi : i < S.length) : ReachI S i (S.getD i 0) :=
  ⟨hs.get i, fun _ h => h, fun t h => ⟨hI i t h, comes_once hi h⟩⟩
theorem ReachI.next {S : List Nat} (hs : Small S) (hI : InS S) {i : Nat} (hi : i < S.length) {R : Nat} (h : ReachI S i R) : ReachI S i (moreN S R (memsN R)) := by
  refine ⟨moreN_lt hs _ h.1, fun t ht => by rw [moreN_bit, h.2.1 t ht]; rfl, fun t ht => ?_⟩
  rw [moreN_bit, Bool.or_eq_true] at ht
  rcases ht with ht | ht
  · exact h.2.2 t ht
  · rw [List.any_eq_true] at ht
    obtain ⟨k, hk, hkt⟩ := ht
    have hkR := ((mems_mem R k).1 hk).2
    obtain ⟨hkl, hc⟩ := h.2.2 k hkR
    exact ⟨hI k t hkt, comes_trans hi hkl hc (comes_once hkl hkt)⟩
theorem ReachI.done {S : List Nat} (hI : InS S) {i : Nat} (hi : i < S.length) {R : Nat} (h : ReachI S i R) (he : moreN S R (memsN R) = R) : R = (closeS S).getD i 0 := by
  apply Nat.eq_of_testBit_eq
  intro t
  rw [Bool.eq_iff_iff]
  refine ⟨fun ht => (h.2.2 t ht).2, fun ht => ?_⟩
  refine comes_in (S := S) (fun t => R.testBit t = true) (fun k hk hR t hkt => ?_) hI hi (fun t ht => h.2.1 t ht) ht
  have := moreN_bit S t (memsN R) R
  rw [he] at this
  rw [this, Bool.or_eq_true]
  right
  rw [List.any_eq_true]
  exact ⟨k, (mems_mem R k).2 ⟨bit_lt h.1 hR, hR⟩, hkt⟩

/-! ### what both sides answer -/
/-- the cycles -/
def cycS (S : List Nat) : Nat := setB (fun i => comesTo S i i) S.length
theorem stepsN_in (G : Gr) (hG : G.Fits) : InS (stepsN G) := by
  have hgrow : ∀ (r : Rul), r ∈ G.rules → ∀ (k : Nat) (F : List Nat), (∀ i t, (F.getD i 0).testBit t = true → t < G.nons.length) → ∀ i t, ((growSt (nullN G) (prodN G) r k F).getD i 0).testBit t = true → t < G.nons.length := by
    intro r hr k F hF i t h
    unfold growSt at h
    split at h
    · exact hF i t h
    · rename_i s hs
      split at h
      · rename_i hst
        rw [addAt_get] at h
        split at h
        · rw [Nat.testBit_or, Bool.or_eq_true] at h
          rcases h with h | h
          · exact hF _ t h
          · have h2 := hG.sym r hr s (List.mem_of_getElem? hs)
            unfold standsR at hst
            simp only [Bool.and_eq_true, decide_eq_true_eq] at hst
            obtain ⟨j, hj⟩ : ∃ j : Nat, -1 - s = (j : Int) := ⟨(-1 - s).toNat, by omega⟩
            rw [hj, bitN_test, Bool.and_eq_true, decide_eq_true_iff, decide_eq_true_iff] at h
            omega
        · exact hF i t h
      · exact hF i t h
  have hpos : ∀ (r : Rul), r ∈ G.rules → ∀ (k : Nat) (F : List Nat), (∀ i t, (F.getD i 0).testBit t = true → t < G.nons.length) → ∀ i t, ((posSt (nullN G) (prodN G) r k F).getD i 0).testBit t = true → t < G.nons.length := by
    intro r hr k F hF
    induction k with
    | zero => exact hF
    | succ k ih => rw [posSt_succ]; exact hgrow r hr k _ ih
  have hpass : ∀ (rs : List Rul), (∀ r ∈ rs, r ∈ G.rules) → ∀ (F : List Nat), (∀ i t, (F.getD i 0).testBit t = true → t < G.nons.length) → ∀ i t, ((passSt (nullN G) (prodN G) rs F).getD i 0).testBit t = true → t < G.nons.length := by
    intro rs
    induction rs with
    | nil => exact fun _ F hF => hF
    | cons r rs ih => exact fun h F hF => ih (fun r' hr' => h r' (List.mem_cons_of_mem _ hr')) _ (hpos r (h r (List.mem_cons_self ..)) _ F hF)
  intro i t h
  rw [stepsN_len]
  refine hpass G.rules (fun _ h => h) _ (fun i t h => ?_) i t h
  rw [List.getD_eq_getElem?_getD] at h
  rcases Nat.lt_or_ge i G.nons.length with hl | hl
  · simp [hl] at h
  · simp [List.getElem?_eq_none, hl] at h
end Go.Proofs.YtfdbpafenhdkbaaGreatDoor
