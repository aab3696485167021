/- the reference's Back and Copy, walked. -/
import Derived.Test.YtfdbpafenhdkbaaGreatQStp
import Derived.Test.YtfdbpafenhdkbaaGreatQTrB
import Derived.Deep.RegionHeld3
namespace Go.Proofs.YtfdbpafenhdkbaaGreat
open Go.RowKit
set_option linter.unusedVariables false
set_option linter.unusedSimpArgs false

theorem Tryz.infoI64D : (Tryz.prog.info? 3).map (fun i => (i.zero, i.size, i.bytes)) = some (some (.int .i64 0), 1, 8) := by kernel_rfl
theorem rev_take {l : List Int} {k : Nat} {x : Int} (hk : k < l.length) (h : l[l.length - 1 - k]? = some x) : l.reverse.take (k + 1) = l.reverse.take k ++ [x] := by
  rw [List.take_add_one, List.getElem?_reverse hk, h]
  rfl
set_option maxRecDepth 20000 in
set_option maxHeartbeats 1000000 in
theorem rf_Back (A : Option Addr) (n c : Nat) (l : List Int) (w : World) (h : Ints .i64 w A n c l) (hn : n ≤ 100000) :
    Calls Tryz.prog 37 #[.slice A n c] w fun e w' => ∃ A' c', e = .returned (.slice A' n c') ∧ w'.ownsRow w.heap.size 3 1 (.slice A' n c') n (ints .i64 l.reverse) ∧ Below w.heap.size w w' := by
  obtain rfl := h.len
  have hcap := h.cap
  have H := Lib.hid h
  clear h
  have hw0 : IntKind.i64.wrap ((l.length : Int) - 1) = (l.length : Int) - 1 := IntWalk.i64_in _ (by omega)
  have Hi := Lib.hid Tryz.infoI64D
  go_enter Tryz.func37, Tryz.ntmps37
  go_wp2_with fail
  go_loopw [3, 4] (fun s i wr => ∃ (k : Nat) (A2 : Option Addr) (c2 : Nat), i = .int .i64 ((l.length : Int) - 1 - (k : Int)) ∧ s = .slice A2 k c2 ∧ k ≤ l.length ∧ Hid (wr.ownsRow w.heap.size 3 1 (.slice A2 k c2) k (ints .i64 (l.reverse.take k))) ∧ Hid (Below w.heap.size w wr)) (fun _ i _ => (intOf i + 1).toNat)
  case atStart => exact ⟨0, none, 0, by simp, rfl, Nat.zero_le _, Lib.hid (World.ownsRow_nil _ _ _ _), Lib.hid (Below.refl _ _)⟩
  case round =>
    obtain ⟨k, A2, c2, rfl, rfl, hk, Ho, HB⟩ := hrel
    have hbase : w.heap.size ≤ wr.heap.size := HB.out.size
    by_cases hkl : k < l.length
    · obtain ⟨j, hj⟩ : ∃ j : Nat, j = l.length - 1 - k := ⟨_, rfl⟩
      have hji : (l.length : Int) - 1 - (k : Int) = (j : Int) := by omega
      obtain ⟨b, off, x, rfl, hb, Hx, q0⟩ := (H.out.below HB.out).get (j := j) (by omega)
      have Hs : Hid (l.reverse.take (k + 1) = l.reverse.take k ++ [x]) := Lib.hid (rev_take hkl (by rw [← hj]; exact Hx.out))
      have hjl : j < l.length := by omega
      rw [hji]
      have hw1 : IntKind.i64.wrap ((j : Int) - 1) = (j : Int) - 1 := IntWalk.i64_in _ (by omega)
      have Hjk : Hid ((j : Int) = (l.length : Int) - 1 - (k : Int)) := Lib.hid hji.symm
      clear hj hji
      go_wp2_with (first
        | (at_builtin; refine wpl_appendT rfl _ _ 32 rfl w.heap.size 3 _ 1 8 Tryz.underlying32 Hi.out (by decide) (by decide) A2 k c2 (ints .i64 (l.reverse.take k)) rfl Ho.out [.int .i64 x] rfl rfl (by simp [Value.oneCell']) (by omega) (by omega) (by omega) ?_; intro A4 c4 w4 ho hgr ha
           have Ho4 := Lib.hid ho
           have HB4 := Lib.hid (below_append HB.out hgr Ho.out hbase)
           clear ho hgr ha))
      go_roundw
      case rel => exact ⟨k + 1, A4, c4, by have := Hjk.out; first | (congr 1; omega) | (rw [Hjk.out]; congr 1; omega), rfl, by omega, Lib.hid (by rw [Hs.out, ints_append]; exact Ho4.out), HB4⟩
      case measure => have := Hjk.out; simp [intOf] <;> omega
    · obtain rfl : k = l.length := by omega
      have hz : (l.length : Int) - 1 - (l.length : Int) = -1 := by omega
      rw [hz]
      have Hf : Hid (l.reverse.take l.length = l.reverse) := Lib.hid (List.take_of_length_le (by simp))
      clear hz
      go_wp2_with fail
      go_ret
      exact ⟨A2, c2, rfl, by rw [← Hf.out]; exact Ho.out, HB.out⟩
set_option maxHeartbeats 1000000 in
theorem rf_Copy (A : Option Addr) (n c : Nat) (l : List Int) (w : World) (h : Ints .i64 w A n c l) (hn : n ≤ 100000) :
    Calls Tryz.prog 24 #[.slice A n c] w fun e w' => ∃ A' c', e = .returned (.slice A' n c') ∧ Ints .i64 w' A' n c' l ∧ Below w.heap.size w w' := by
  obtain rfl := h.len
  have hcap := h.cap
  have hown : (w.alloc (.cells #[] 3)).ownsRow w.heap.size 3 1 (.slice (some ⟨w.heap.size, 0, none⟩) 0 0) 0 [] := World.ownsRow_lit (base := w.heap.size) (e := 3) (size := 1) w #[] 0 (Nat.le_refl _) (by decide) (by simp)
  have hs : Ints .i64 (w.alloc (.cells #[] 3)) A l.length c l := h.below (alloc_below w _)
  have Hi := Lib.hid Tryz.infoI64D
  have Hs := Lib.hid hs
  have Ho := Lib.hid hown
  have hb := alloc_below w (.cells #[] 3)
  have HB := Lib.hid hb
  clear h hs hown hb
  go_enter Tryz.func24, Tryz.ntmps24
  go_wp2_with (first
    | (at_builtin; refine wpl_appendI rfl _ _ 32 rfl w.heap.size 3 _ 8 Tryz.underlying32 Hi.out (by decide) _ 0 0 [] rfl Ho.out A l.length c (ints .i64 l) rfl Hs.out (ints_one _ _) (by omega) (by omega) (by simp) ?_; intro A4 c4 w4 ho hgr ha
       have hn0 : (0 + l.length) = l.length := Nat.zero_add _
       rw [hn0] at ho
       have Ho4 := Lib.hid ho
       have HB4 := Lib.hid (below_append HB.out hgr Ho.out (by simp))
       clear ho hgr ha hn0))
  go_ret
  refine ⟨A4, c4, by simp, ?_, HB4.out⟩
  have := own_sl Ho4.out
  rwa [List.nil_append] at this
end Go.Proofs.YtfdbpafenhdkbaaGreat

namespace Go.Proofs.YtfdbpafenhdkbaaGreat
open Go.RowKit
set_option linter.unusedVariables false
set_option linter.unusedSimpArgs false

theorem derGo_none {G : Gr} {rs : List Int} {k : Nat} {i : Int} {form : List Int} (hi : rs[k]? = some i) (h : derStep G form i = none) : derGo G (rs.drop k) form = none := by
  rw [drop_get hi, derGo, h]
theorem derGo_some {G : Gr} {rs : List Int} {k : Nat} {i : Int} {form f : List Int} (hi : rs[k]? = some i) (h : derStep G form i = some f) : derGo G (rs.drop k) form = derGo G (rs.drop (k + 1)) f := by
  rw [drop_get hi, derGo, h]
theorem derP_none {G : Gr} {rs w : List Int} (h : derGo G rs [-1 - G.start] = none) : derP G rs w = false := by unfold derP; rw [h]
theorem derP_some {G : Gr} {rs w f : List Int} (h : derGo G rs [-1 - G.start] = some f) : derP G rs w = (f == w) := by unfold derP; rw [h]
/-- a form, at a place behind which there is no nonterminal -/
theorem form_parts {form : List Int} {j : Nat} {s : Int} (hj : form[j]? = some s) : form = form.take j ++ s :: form.drop (j + 1) := by
  rw [← drop_get hj, List.take_append_drop]
/-- the rows that a form is put together of -/
theorem row_take {w : World} {A : Option Addr} {n c : Nat} {f : List Int} (h : Ints .i64 w A n c f) (k : Nat) (hk : k ≤ n) : Ints .i64 w A k c (f.take k) := by
  have hl : f.length = n := h.len
  have h1 := h.1
  have h2 := h.2.1
  have h3 := h.2.2.1
  refine ⟨by rw [ints_length, List.length_take]; omega, by omega, by omega, fun hn => ?_⟩
  rw [ints_length, List.length_take] at hn
  obtain ⟨b, off, e, hb, hc⟩ := h.2.2.2 (by rw [ints_length]; omega)
  refine ⟨b, off, e, hb, fun j hj => ?_⟩
  rw [ints_length, List.length_take] at hj
  rw [hc j (by rw [ints_length]; omega)]
  unfold ints
  rw [List.getElem?_map, List.getElem?_map, List.getElem?_take, if_pos (by omega)]
set_option maxRecDepth 20000 in
set_option maxHeartbeats 4000000 in
theorem rf_Derives (h : GH) (G : Gr) (Ar : Option Addr) (nr cr : Nat) (rs : List Int) (Aw : Option Addr) (nw cw : Nat) (wd : List Int) (w : World) (hg : GrAt w h G) (hfit : G.Fits) (hr : Ints .i64 w Ar nr cr rs) (hw : Ints .i64 w Aw nw cw wd) (hn : nr ≤ 300) (h3 : h.n3 ≤ 100) :
    Calls Tryz.prog 36 #[GV h G.start, .slice Ar nr cr, .slice Aw nw cw] w fun e w' => e = .returned (.bool (derP G rs wd)) ∧ Below w.heap.size w w' := by
  obtain rfl := hr.len
  obtain rfl := hw.len
  have hcap := hr.cap
  have hcapw := hw.cap
  obtain ⟨a1, n1, c1, a2, n2, c2, a3, n3, c3⟩ := h
  simp only [] at h3
  have e3 : G.rules.length = n3 := hg.rules.len
  have k3 := hg.rules.cap
  simp only [] at k3
  have hst := hfit.st
  have hfn := hfit.n2
  have hft := hfit.n1
  have hB0 := alloc_below w (.cells #[.slice a1 n1 c1, .slice a2 n2 c2, .slice a3 n3 c3, .int .i64 G.start] 26)
  have hbox := GBox.new w 26 ⟨a1, n1, c1, a2, n2, c2, a3, n3, c3⟩ G.start
  have hw1 : IntKind.i64.wrap (-1 - G.start) = -1 - G.start := IntWalk.i64_in _ (by omega)
  have Hg := Lib.hid hg
  have Hr := Lib.hid hr
  have Hw := Lib.hid hw
  have Hfit := Lib.hid hfit
  have Hi := Lib.hid Tryz.infoI64D
  clear hg hr hw hfit
  go_enter Tryz.func36, Tryz.ntmps36
  have ⟨z5, z0, z1, z2, z3⟩ := hbox
  simp only [] at z0 z1 z2 z3
  go_wp2_with fail
  have p5 := alloc_size w (.cells #[.slice a1 n1 c1, .slice a2 n2 c2, .slice a3 n3 c3, .int .i64 G.start] 26)
  generalize w.alloc (.cells #[.slice a1 n1 c1, .slice a2 n2 c2, .slice a3 n3 c3, .int .i64 G.start] 26) = W0 at *
  have hone : Ints .i64 (W0.alloc (.cells #[.int .i64 (-1 - G.start)] 3)) (some ⟨W0.heap.size, 0, none⟩) 1 1 [-1 - G.start] := lit_sl W0 3 (ints .i64 [-1 - G.start]) 1 _ rfl rfl (by decide)
  rw [p5] at hone
  clear p5
  have hB1 := below_alloc hB0 (.cells #[.int .i64 (-1 - G.start)] 3)
  have hbx1 := hbox.below (alloc_below W0 (.cells #[.int .i64 (-1 - G.start)] 3))
  have Hone := Lib.hid hone
  have HB1 := Lib.hid hB1
  have Hbx1 := Lib.hid hbx1
  clear hone hB1 hbx1 hB0 hbox z0 z1 z2 z3 z5
  generalize W0.alloc (.cells #[.int .i64 (-1 - G.start)] 3) = W1 at *
  have hstb : ∀ s ∈ [-1 - G.start], -100 ≤ s ∧ s ≤ 100 := fun s hs => by simp at hs; omega
  have Hstb := Lib.hid hstb
  clear hstb
  go_loopw [7, 8] (fun v i wr => ∃ (k m cf : Nat) (A : Option Addr) (f : List Int), v = .slice A m cf ∧ i = .int .i64 (k : Int) ∧ k ≤ rs.length ∧ m ≤ 1 + 6 * k ∧ Hid (Ints .i64 wr A m cf f) ∧ Hid (∀ s ∈ f, -100 ≤ s ∧ s ≤ 100) ∧ Hid (derGo G rs [-1 - G.start] = derGo G (rs.drop k) f) ∧ Hid (Below W1.heap.size W1 wr)) (fun _ i _ => rs.length - (intOf i).toNat)
  case atStart => exact ⟨0, 1, 1, _, [-1 - G.start], rfl, rfl, Nat.zero_le _, by omega, Hone, Hstb, Lib.hid rfl, Lib.hid (Below.refl _ _)⟩
  case round =>
    obtain ⟨k, m, cf, A, f, rfl, rfl, hk, hm, Hf, Hb, Hgo, HB⟩ := hrel
    have HBw := Lib.hid (below_tail HB1.out HB.out)
    have hcf := Hf.out.cap
    by_cases hkl : k < rs.length
    case neg =>
      have hgo : derGo G rs [-1 - G.start] = some f := by
        rw [Hgo.out, List.drop_eq_nil_of_le (by omega)]
        rfl
      have Hres := Lib.hid (derP_some (w := wd) hgo)
      have hmf := Hf.out.len
      have Hwd := Lib.hid (Hw.out.below HBw.out)
      clear hgo
      by_cases hlen : m = wd.length
      case neg =>
        have hne : ((m : Int) != (wd.length : Int)) = true := by rw [bne_iff_ne]; omega
        have Hfalse : Hid (derP G rs wd = false) := Lib.hid (by rw [Hres.out, beq_eq_false_iff_ne]; intro e; rw [e] at hmf; omega)
        clear hmf hlen
        go_wp2_with fail
        go_ret
        exact ⟨by rw [Hfalse.out]; rfl, HBw.out⟩
      case pos =>
        subst hlen
        have Hmf := Lib.hid hmf
        clear hmf
        go_wp2_with fail
        go_loopw [12] (fun i wq => ∃ j : Nat, j ≤ wd.length ∧ i = .int .i64 (j : Int) ∧ Hid (f.take j = wd.take j) ∧ Same wr wq) (fun i _ => wd.length - (intOf i).toNat)
        case atStart => exact ⟨0, Nat.zero_le _, rfl, Lib.hid rfl, Same.refl _⟩
        case round =>
          rename_i wr0 _
          obtain ⟨j, hj, rfl, Ht, hS⟩ := hrel
          by_cases hjl : j < wd.length
          · obtain ⟨b1, o1, x, rfl, hb1, Hx, hc1⟩ := (Hf.out.same hS).get (j := j) hjl
            obtain ⟨b2, o2, y, rfl, hb2, Hy, hc2⟩ := (Hwd.out.same hS).get (j := j) hjl
            have g0 : (0 : Int) ≤ (j : Int) := by omega
            have g1 : (j : Int) < (wd.length : Int) := by omega
            by_cases hxy : x = y
            · subst hxy
              go_wp2_with fail
              go_quiet (fail)
              go_wp2_with fail
              go_roundw
              case rel => exact ⟨j + 1, by omega, by go_num, Lib.hid (by rw [List.take_add_one, List.take_add_one, Ht.out, Hx.out, Hy.out]), hS.drewN _⟩
              case measure => simp [intOf]; omega
            · have Hfalse : Hid (derP G rs wd = false) := Lib.hid (by
                rw [Hres.out, beq_eq_false_iff_ne]
                rintro rfl
                have := Hx.out.symm.trans Hy.out
                exact hxy (by simpa using this))
              have hd : (x != y) = true := by rw [bne_iff_ne]; exact hxy
              clear hxy
              go_wp2_with fail
              go_quiet (fail)
              go_wp2_with fail
              go_ret
              exact ⟨by rw [Hfalse.out]; rfl, below_tail HBw.out ((hS.drewN _).below _)⟩
          · have Htrue : Hid (derP G rs wd = true) := Lib.hid (by
              have := Ht.out
              rw [List.take_of_length_le (by rw [Hmf.out]; omega), List.take_of_length_le (by omega)] at this
              rw [Hres.out, this]
              simp)
            go_wp2_with fail
            go_ret
            exact ⟨by rw [Htrue.out]; rfl, below_tail HBw.out (hS.below _)⟩
    case pos =>
      obtain ⟨bi, offi, i, rfl, hbi, Hik, q0⟩ := (Hr.out.below HBw.out).get hkl
      have hbxr := Hbx1.out.below HB.out
      have ⟨z5, z0, z1, z2, z3⟩ := hbxr
      simp only [] at z0 z1 z2 z3
      have bc := bl_cell wr
      by_cases hi0 : i < 0
      case pos =>
        have Hfalse : Hid (derP G rs wd = false) := Lib.hid (derP_none (by rw [Hgo.out, derGo_none Hik.out (by unfold derStep; rw [show ruleAt G i = none by unfold ruleAt; rw [if_neg (by omega)]])]))
        go_wp2_with fail
        refine wp_region_below (by kernel_rfl) (by kernel_rfl) ?_
        repeat (go_big_quiet_step (fail))
        refine wpQuiet_nil ?_
        rintro _ ⟨x, rfl⟩
        go_wp2_with fail
        go_ret
        exact ⟨by rw [Hfalse.out]; rfl, below_tail HBw.out (bl_below wr x)⟩
      case neg =>
      by_cases hi3 : (n3 : Int) ≤ i
      case pos =>
        have Hfalse : Hid (derP G rs wd = false) := Lib.hid (derP_none (by rw [Hgo.out, derGo_none Hik.out (by unfold derStep; rw [show ruleAt G i = none by unfold ruleAt; rw [if_pos (by omega)]; exact List.getElem?_eq_none (by omega)])]))
        have hd0 : decide (i < 0) = false := by rw [decide_eq_false_iff_not]; exact hi0
        go_wp2_with fail
        refine wp_region_below (by kernel_rfl) (by kernel_rfl) ?_
        repeat (go_big_quiet_step (fail))
        refine wpQuiet_nil ?_
        rintro _ ⟨x, rfl⟩
        go_wp2_with fail
        go_ret
        exact ⟨by rw [Hfalse.out]; rfl, below_tail HBw.out (bl_below wr x)⟩
      case neg =>
      obtain ⟨ir, rfl⟩ : ∃ ir : Nat, i = (ir : Int) := ⟨i.toNat, by omega⟩
      have hir : ir < n3 := by omega
      obtain ⟨rb, roff, r, Arr, crr, rfl, hrb, Hr0, w0c, w1c, w2c, hri⟩ := (Hg.out.below HBw.out).rules.get hir
      have hrat : ruleAt G (ir : Int) = some r := by
        unfold ruleAt
        rw [if_pos (by omega), Int.toNat_natCast]
        exact Hr0.out
      have hrm := List.mem_of_getElem? Hr0.out
      have hlen := Hfit.out.len r hrm
      have hsym := Hfit.out.sym r hrm
      have hleft := Hfit.out.left r hrm
      have hcapr := hri.cap
      have hsb : ∀ s ∈ r.right, -100 ≤ s ∧ s ≤ 100 := fun s hs => by have := hsym s hs; omega
      have Hrat := Lib.hid hrat
      have Hri := Lib.hid hri
      have Hsb := Lib.hid hsb
      clear hrat hrm hsym hri hsb
      have hd1 : decide (n3 ≤ ir) = false := by rw [decide_eq_false_iff_not]; omega
      have hd2 : decide ((ir : Int) < 0) = false := by rw [decide_eq_false_iff_not]; omega
      have hrle : -100 ≤ r.left ∧ r.left ≤ 100 := by omega
      clear hleft
      go_wp2_with fail
      refine wp_region_below (by kernel_rfl) (by kernel_rfl) ?_
      repeat (go_big_quiet_step (fail))
      refine wpQuiet_nil ?_
      rintro _ ⟨x, rfl⟩
      have hbx := bl_below wr x
      have hs2 := bl_size wr x
      rw [← bc x _ _ hbi] at q0
      rw [← bc x _ _ hrb] at w0c w1c w2c
      have hbx2 := hbxr.below hbx
      have HB2 := Lib.hid (HB.out.trans (hbx.mono HB.out.size))
      have HBw2 := Lib.hid (below_tail HBw.out hbx)
      have Hf2 := Lib.hid (Hf.out.below hbx)
      have Hri2 := Lib.hid (Hri.out.below hbx)
      clear z0 z1 z2 z3 z5 bc hbx
      have ⟨z5, z0, z1, z2, z3⟩ := hbx2
      simp only [] at z0 z1 z2 z3
      generalize bl wr x = W2 at *
      have hbW2 : bi < W2.heap.size := by omega
      have hrW2 : rb < W2.heap.size := by omega
      have HS : Hid (∀ W', Below W2.heap.size W2 W' → W'.cell? ⟨w.heap.size, 2, none⟩ = some (.slice (some ⟨rb, roff, none⟩) n3 c3) ∧ W'.cell? ⟨bi, offi + k, none⟩ = some (.int .i64 (ir : Int)) ∧ W'.cell? ⟨rb, roff + ir * 3, none⟩ = some (.int .i64 r.left) ∧ W'.cell? ⟨rb, roff + ir * 3 + 1, none⟩ = some (.slice Arr r.right.length crr) ∧ W'.cell? ⟨rb, roff + ir * 3 + 2, none⟩ = some (.int .i64 r.prec) ∧ Below W2.heap.size W2 W') := Lib.hid fun W' hb2 => ⟨by rw [hb2.cell (by exact z5)]; exact z2, by rw [hb2.cell (by exact hbW2)]; exact q0, by rw [hb2.cell (by exact hrW2)]; exact w0c, by rw [hb2.cell (by exact hrW2)]; exact w1c, by rw [hb2.cell (by exact hrW2)]; exact w2c, hb2⟩
      go_wp2_with fail
      go_region_held3 (fun W' => W'.cell? ⟨w.heap.size, 2, none⟩ = some (.slice (some ⟨rb, roff, none⟩) n3 c3) ∧ W'.cell? ⟨bi, offi + k, none⟩ = some (.int .i64 (ir : Int)) ∧ W'.cell? ⟨rb, roff + ir * 3, none⟩ = some (.int .i64 r.left) ∧ W'.cell? ⟨rb, roff + ir * 3 + 1, none⟩ = some (.slice Arr r.right.length crr) ∧ W'.cell? ⟨rb, roff + ir * 3 + 2, none⟩ = some (.int .i64 r.prec) ∧ Below W2.heap.size W2 W')
        ((refine HS.out _ ?_; (repeat (first | assumption | exact Below.refl _ _ | refine Below.drew ?_ | refine below_alloc ?_ _ | refine below_set ?_ _ _ _ (by (first | exact Nat.le_refl _ | exact Nat.le_succ _ | exact Below.size (by assumption) | exact Nat.le_succ_of_le (Below.size (by assumption)) | (simp; done) | omega)))); done))
        (fail)
      have hRb := (Blk.new W2 41 #[.int .i64 r.left, .slice Arr r.right.length crr, .int .i64 r.prec]).drew
      have hb3 := ((Below.refl W2.heap.size W2).alloc (Nat.le_refl _) (.cells #[.int .i64 r.left, .slice Arr r.right.length crr, .int .i64 r.prec] 41)).drew
      have hsz3 : (W2.alloc (.cells #[.int .i64 r.left, .slice Arr r.right.length crr, .int .i64 r.prec] 41)).drew.heap.size = W2.heap.size + 1 := alloc_size _ _
      go_upto_region 8 with fail
      generalize (W2.alloc (.cells #[.int .i64 r.left, .slice Arr r.right.length crr, .int .i64 r.prec] 41)).drew = W3 at *
      have HB3 := Lib.hid (HB2.out.trans (hb3.mono HB2.out.size))
      have HBw3 := Lib.hid (below_tail HBw2.out hb3)
      have HRb := Lib.hid hRb
      have Hf3 := Lib.hid (Hf2.out.below hb3)
      have Hri3 := Lib.hid (Hri2.out.below hb3)
      have hr0 : W3.cell? ⟨W2.heap.size, 0, none⟩ = some (.int .i64 r.left) := hRb.cell 0
      have hr1 : W3.cell? ⟨W2.heap.size, 1, none⟩ = some (.slice Arr r.right.length crr) := hRb.cell 1
      clear hRb hb3 z0 z1 z2 z3 z5 HS q0 w0c w1c w2c hs2 hbW2 hrW2 hbx2 hbxr
      generalize hgR : W2.heap.size = gR at *
      have hgR3 : gR < W3.heap.size := by omega
      clear hsz3 hgR
      have hmf := Hf3.out.len
      have Hmf := Lib.hid hmf
      clear hmf
      have hwm : IntKind.i64.wrap ((m : Int) - 1) = (m : Int) - 1 := IntWalk.i64_in _ (by omega)
      go_wp2_with fail
      go_loopw [10] (fun i wq => ∃ j : Nat, i = .int .i64 ((j : Int) - 1) ∧ j ≤ m ∧ Hid (∀ x ∈ f.drop j, 0 ≤ x) ∧ W3 = wq) (fun i _ => (intOf i + 1).toNat)
      case atStart => exact ⟨m, rfl, Nat.le_refl _, Lib.hid (by rw [List.drop_eq_nil_of_le (Nat.le_of_eq Hmf.out)]; intro x hx; cases hx), rfl⟩
      case round =>
        obtain ⟨j, rfl, hj, Hneg, rfl⟩ := hrel
        rcases Nat.eq_zero_or_pos j with rfl | hj0
        · have Hfalse : Hid (derP G rs wd = false) := Lib.hid (derP_none (by rw [Hgo.out, derGo_none Hik.out (by
            unfold derStep
            rw [Hrat.out]
            simp only
            rw [splitNeg_none (by have := Hneg.out; rw [List.drop_zero] at this; exact this)])]))
          have hz : ((0 : Nat) : Int) - 1 = -1 := by omega
          rw [hz]
          clear hz
          go_wp2_with fail
          refine wp_region_below (by kernel_rfl) (by kernel_rfl) ?_
          repeat (go_big_quiet_step (fail))
          refine wpQuiet_nil ?_
          rintro _ ⟨x, rfl⟩
          go_wp2_with fail
          go_ret
          exact ⟨by rw [Hfalse.out]; rfl, below_tail HBw3.out (bl_below W3 x)⟩
        · obtain ⟨j', rfl⟩ : ∃ j', j = j' + 1 := ⟨j - 1, by omega⟩
          have hz : ((j' + 1 : Nat) : Int) - 1 = (j' : Int) := by omega
          rw [hz]
          obtain ⟨fb, fo, s, rfl, hfb, Hs, qf⟩ := Hf3.out.get (j := j') (by omega)
          have hsb := Hb.out s (List.mem_of_getElem? Hs.out)
          have hjm : j' < m := by omega
          have hwj : IntKind.i64.wrap ((j' : Int) - 1) = (j' : Int) - 1 := IntWalk.i64_in _ (by omega)
          clear hz
          by_cases hs0 : 0 ≤ s
          · go_wp2_with fail
            go_roundw
            case rel =>
              refine ⟨j', rfl, by omega, Lib.hid ?_, trivial⟩
              rw [drop_get Hs.out]
              intro x hx
              rcases List.mem_cons.1 hx with rfl | hx
              · exact hs0
              · exact Hneg.out x hx
            case measure => simp [intOf]
          · have hws : IntKind.i64.wrap (-1 - s) = -1 - s := IntWalk.i64_in _ (by omega)
            have Hfp := Lib.hid (form_parts Hs.out)
            have Hsp : Hid (splitNeg f = some (f.take j', s, f.drop (j' + 1))) := Lib.hid (by
              conv => lhs; rw [Hfp.out]
              exact splitNeg_mid _ (by omega) Hneg.out)
            have bc := bl_cell W3
            have hdj : decide ((j' : Int) < 0) = false := by rw [decide_eq_false_iff_not]; omega
            by_cases hl : -1 - s = r.left
            case neg =>
              have Hfalse : Hid (derP G rs wd = false) := Lib.hid (derP_none (by rw [Hgo.out, derGo_none Hik.out (by
                unfold derStep
                rw [Hrat.out]
                simp only
                rw [Hsp.out]
                simp only
                rw [if_neg hl])]))
              have hne : ((-1 - s) != r.left) = true := by rw [bne_iff_ne]; exact hl
              clear hl
              go_wp2_with fail
              refine wp_region_below (by kernel_rfl) (by kernel_rfl) ?_
              repeat (go_big_quiet_step (fail))
              refine wpQuiet_nil ?_
              rintro _ ⟨x, rfl⟩
              go_wp2_with fail
              go_ret
              exact ⟨by rw [Hfalse.out]; rfl, below_tail HBw3.out (bl_below W3 x)⟩
            case pos =>
              have Hst : Hid (derStep G f (ir : Int) = some (f.take j' ++ r.right ++ f.drop (j' + 1))) := Lib.hid (by
                unfold derStep
                rw [Hrat.out]
                simp only
                rw [Hsp.out]
                simp only
                rw [if_pos hl])
              have hne : ((-1 - s) != r.left) = false := by rw [bne_eq_false_iff_eq]; exact hl
              clear hl
              go_wp2_with fail
              refine wp_region_below (by kernel_rfl) (by kernel_rfl) ?_
              repeat (go_big_quiet_step (fail))
              refine wpQuiet_nil ?_
              rintro _ ⟨x, rfl⟩
              have hb4 := bl_below W3 x
              have hs4 := bl_size W3 x
              have Hb4 := Lib.hid hb4
              have hr1' := (bc x gR 1 hgR3).trans hr1
              have HT0 := (Hf3.out.below hb4).tail (j' + 1) (by omega)
              have HH0 := row_take (Hf3.out.below hb4) j' (by omega)
              have Hri4 := Lib.hid (Hri3.out.below hb4)
              have hr4 : gR < (bl W3 x).heap.size := by omega
              generalize bl W3 x = W4 at *
              have Hown0 : Hid ((W4.alloc (.cells #[] 3)).ownsRow W4.heap.size 3 1 (.slice (some ⟨W4.heap.size, 0, none⟩) 0 0) 0 []) := Lib.hid (World.ownsRow_lit (base := W4.heap.size) (e := 3) (size := 1) W4 #[] 0 (Nat.le_refl _) (by decide) (by simp))
              have hba := alloc_below W4 (.cells #[] 3)
              have HT := Lib.hid (HT0.below hba)
              have HH := Lib.hid HH0
              have Hba := Lib.hid hba
              clear HT0 HH0 hb4 hba bc hr1 hr0
              by_cases hcc : cf = j' + 1
              case pos =>
                have hmj : m = j' + 1 := by omega
                subst hcc
                subst hmj
                have Hdr : Hid (f.drop (j' + 1) = []) := Lib.hid (List.drop_eq_nil_of_le (Nat.le_of_eq Hmf.out))
                clear HT
                go_wp2_with (first
                  | (at_builtin; refine wpl_appendI rfl _ _ 32 rfl W4.heap.size 3 _ 8 Tryz.underlying32 Hi.out (by decide) _ 0 0 [] rfl Hown0.out _ 0 _ [] rfl (Sl.nil _ _ _ (by omega)) (by intro u hu; cases hu) (by omega) (by omega) (by simp) ?_; intro A5 c5 w5 ho hgr ha
                     have hn0 : 0 + 0 = 0 := Nat.zero_add _
                     rw [hn0] at ho
                     have hb5 := below_append Hba.out hgr Hown0.out (by simp)
                     have Hrest : Hid (Ints .i64 w5 A5 0 c5 ([] : List Int)) := Lib.hid (by have := own_sl ho; first | rwa [List.nil_append] at this | exact this)
                     clear hn0 ho hgr ha))
                have hs5 := hb5.size
                have HB5 := Lib.hid hb5
                have hr5 : w5.cell? ⟨gR, 1, none⟩ = some (.slice Arr r.right.length crr) := (hb5.cell (p := ⟨gR, 1, none⟩) hr4).trans hr1'
                have HownR : Hid ((w5.alloc (.cells #[] 3)).ownsRow w5.heap.size 3 1 (.slice (some ⟨w5.heap.size, 0, none⟩) 0 0) 0 []) := Lib.hid (World.ownsRow_lit (base := w5.heap.size) (e := 3) (size := 1) w5 #[] 0 (Nat.le_refl _) (by decide) (by simp))
                have HHr := Lib.hid ((HH.out.below hb5).below (alloc_below w5 (.cells #[] 3)))
                have HbR := Lib.hid (alloc_below w5 (.cells #[] 3))
                have Hri5 := Lib.hid (Hri4.out.below hb5)
                have hgR5 : gR < w5.heap.size := by omega
                have HS : Hid (∀ W', Below w5.heap.size w5 W' → W'.cell? ⟨gR, 1, none⟩ = some (.slice Arr r.right.length crr)) := Lib.hid fun W' hb2 => by rw [hb2.cell (by exact hgR5)]; exact hr5
                have h01 : (0 : Int) ≤ (j' : Int) := by omega
                have h02 : (j' : Int) ≤ ((j' + 1) : Int) := by omega
                clear hb5
                go_region_held3 (fun W' => W'.cell? ⟨gR, 1, none⟩ = some (.slice Arr r.right.length crr))
                  ((refine HS.out _ ?_; (repeat (first | assumption | exact Below.refl _ _ | refine Below.drew ?_ | refine bC_alloc ?_ (Nat.le_refl _) _)); done))
                  (first
                    | (refine step_appendS rfl _ _ 32 rfl w5.heap.size 3 _ 8 Tryz.underlying32 Hi.out (by decide) A7 (j' + r.right.length) c7 (ints .i64 (f.take j') ++ ints .i64 r.right) (by simp [Act.eval, Act.put]) (by exact Ho7.out) A5 0 c5 (ints .i64 ([] : List Int)) (by simp [Act.eval, Act.put]) (by exact Hrest.out.below hB7) (ints_one _ _) (by omega) (by omega) (by exact hB7.size) ?_; intro A8 c8 w8 ho hgr ha
                       have hB8 : Below w5.heap.size w5 w8 := below_append hB7 hgr Ho7.out hB7.size
                       have Ho8 := Lib.hid ho
                       clear ho hgr ha)
                    | (refine step_appendS rfl _ _ 32 rfl w5.heap.size 3 _ 8 Tryz.underlying32 Hi.out (by decide) A6 j' c6 (ints .i64 (f.take j')) (by simp [Act.eval, Act.put]) (by exact Ho6.out) Arr r.right.length crr (ints .i64 r.right) (by simp [Act.eval, Act.put]) (by exact Hri5.out.below hB6) (ints_one _ _) (by omega) (by omega) (by exact hB6.size) ?_; intro A7 c7 w7 ho hgr ha
                       have hB7 : Below w5.heap.size w5 w7 := below_append hB6 hgr Ho6.out hB6.size
                       have Ho7 := Lib.hid ho
                       clear ho hgr ha)
                    | (refine step_appendS rfl _ _ 32 rfl w5.heap.size 3 _ 8 Tryz.underlying32 Hi.out (by decide) (some ⟨w5.heap.size, 0, none⟩) 0 0 [] (by simp [Act.eval, Act.put]) (by exact HownR.out) (some ⟨fb, fo, none⟩) j' (j' + 1) (ints .i64 (f.take j')) (by simp [Act.eval, Act.put]) (by exact HHr.out) (ints_one _ _) (by omega) (by omega) (by simp) ?_; intro A6 c6 w6 ho hgr ha
                       have hn0 : 0 + j' = j' := Nat.zero_add _
                       rw [hn0, List.nil_append] at ho
                       rw [hn0]
                       have hB6 : Below w5.heap.size w5 w6 := (below_append HbR.out (by exact ⟨hgr.os, hgr.tape, hgr.output, hgr.size, hgr.block⟩) HownR.out (by simp))
                       have Ho6 := Lib.hid ho
                       clear hn0 ho hgr ha))
                all_goals
                  have Hnew : Hid (Ints .i64 w8 A8 (j' + r.right.length + 0) c8 (f.take j' ++ r.right ++ ([] : List Int))) := Lib.hid (by have := own_sl Ho8.out; rw [← ints_append, ← ints_append] at this; exact this)
                  have HBn : Hid (Below W1.heap.size W1 w8) := Lib.hid ((HB3.out.trans ((below_tail Hb4.out HB5.out).mono HB3.out.size)).trans (hB8.mono (Nat.le_trans (HB3.out.trans ((below_tail Hb4.out HB5.out).mono HB3.out.size)).size (Nat.le_refl _))))
                  have HbN : Hid (∀ s ∈ f.take j' ++ r.right ++ ([] : List Int), -100 ≤ s ∧ s ≤ 100) := Lib.hid fun s hs => by
                    rcases List.mem_append.1 hs with hs | hs
                    · rcases List.mem_append.1 hs with hs | hs
                      · exact Hb.out s (List.mem_of_mem_take hs)
                      · exact Hsb.out s hs
                    · first
                        | exact Hb.out s (List.mem_of_mem_drop hs)
                        | cases hs
                  have Hgon : Hid (derGo G rs [-1 - G.start] = derGo G (rs.drop (k + 1)) (f.take j' ++ r.right ++ ([] : List Int))) := Lib.hid (by rw [Hgo.out, derGo_some Hik.out Hst.out, Hdr.out])
                  go_wp2_with fail
                  go_roundw
                  case rel => exact ⟨k + 1, _, c8, A8, _, rfl, by go_num, by omega, by omega, Hnew, HbN, Hgon, HBn⟩
                  case measure => simp [intOf]; omega
              case neg =>
                have HT2 : Hid (Ints .i64 (W4.alloc (.cells #[] 3)) (some ⟨fb, fo + (j' + 1), none⟩) (m - (j' + 1)) (cf - (j' + 1)) (f.drop (j' + 1))) := Lib.hid (by have := HT.out; rw [if_neg hcc] at this; exact this)
                go_wp2_with (first
                  | (at_builtin; refine wpl_appendI rfl _ _ 32 rfl W4.heap.size 3 _ 8 Tryz.underlying32 Hi.out (by decide) _ 0 0 [] rfl Hown0.out _ (m - (j' + 1)) (cf - (j' + 1)) (ints .i64 (f.drop (j' + 1))) rfl HT2.out (ints_one _ _) (by omega) (by omega) (by simp) ?_; intro A5 c5 w5 ho hgr ha
                     have hn0 : 0 + (m - (j' + 1)) = (m - (j' + 1)) := Nat.zero_add _
                     rw [hn0] at ho
                     have hb5 := below_append Hba.out hgr Hown0.out (by simp)
                     have Hrest : Hid (Ints .i64 w5 A5 (m - (j' + 1)) c5 (f.drop (j' + 1))) := Lib.hid (by have := own_sl ho; first | rwa [List.nil_append] at this | exact this)
                     clear hn0 ho hgr ha))
                have hs5 := hb5.size
                have HB5 := Lib.hid hb5
                have hr5 : w5.cell? ⟨gR, 1, none⟩ = some (.slice Arr r.right.length crr) := (hb5.cell (p := ⟨gR, 1, none⟩) hr4).trans hr1'
                have HownR : Hid ((w5.alloc (.cells #[] 3)).ownsRow w5.heap.size 3 1 (.slice (some ⟨w5.heap.size, 0, none⟩) 0 0) 0 []) := Lib.hid (World.ownsRow_lit (base := w5.heap.size) (e := 3) (size := 1) w5 #[] 0 (Nat.le_refl _) (by decide) (by simp))
                have HHr := Lib.hid ((HH.out.below hb5).below (alloc_below w5 (.cells #[] 3)))
                have HbR := Lib.hid (alloc_below w5 (.cells #[] 3))
                have Hri5 := Lib.hid (Hri4.out.below hb5)
                have hgR5 : gR < w5.heap.size := by omega
                have HS : Hid (∀ W', Below w5.heap.size w5 W' → W'.cell? ⟨gR, 1, none⟩ = some (.slice Arr r.right.length crr)) := Lib.hid fun W' hb2 => by rw [hb2.cell (by exact hgR5)]; exact hr5
                have h01 : (0 : Int) ≤ (j' : Int) := by omega
                have h02 : (j' : Int) ≤ (cf : Int) := by omega
                clear hb5
                go_region_held3 (fun W' => W'.cell? ⟨gR, 1, none⟩ = some (.slice Arr r.right.length crr))
                  ((refine HS.out _ ?_; (repeat (first | assumption | exact Below.refl _ _ | refine Below.drew ?_ | refine bC_alloc ?_ (Nat.le_refl _) _)); done))
                  (first
                    | (refine step_appendS rfl _ _ 32 rfl w5.heap.size 3 _ 8 Tryz.underlying32 Hi.out (by decide) A7 (j' + r.right.length) c7 (ints .i64 (f.take j') ++ ints .i64 r.right) (by simp [Act.eval, Act.put]) (by exact Ho7.out) A5 (m - (j' + 1)) c5 (ints .i64 (f.drop (j' + 1))) (by simp [Act.eval, Act.put]) (by exact Hrest.out.below hB7) (ints_one _ _) (by omega) (by omega) (by exact hB7.size) ?_; intro A8 c8 w8 ho hgr ha
                       have hB8 : Below w5.heap.size w5 w8 := below_append hB7 hgr Ho7.out hB7.size
                       have Ho8 := Lib.hid ho
                       clear ho hgr ha)
                    | (refine step_appendS rfl _ _ 32 rfl w5.heap.size 3 _ 8 Tryz.underlying32 Hi.out (by decide) A6 j' c6 (ints .i64 (f.take j')) (by simp [Act.eval, Act.put]) (by exact Ho6.out) Arr r.right.length crr (ints .i64 r.right) (by simp [Act.eval, Act.put]) (by exact Hri5.out.below hB6) (ints_one _ _) (by omega) (by omega) (by exact hB6.size) ?_; intro A7 c7 w7 ho hgr ha
                       have hB7 : Below w5.heap.size w5 w7 := below_append hB6 hgr Ho6.out hB6.size
                       have Ho7 := Lib.hid ho
                       clear ho hgr ha)
                    | (refine step_appendS rfl _ _ 32 rfl w5.heap.size 3 _ 8 Tryz.underlying32 Hi.out (by decide) (some ⟨w5.heap.size, 0, none⟩) 0 0 [] (by simp [Act.eval, Act.put]) (by exact HownR.out) (some ⟨fb, fo, none⟩) j' cf (ints .i64 (f.take j')) (by simp [Act.eval, Act.put]) (by exact HHr.out) (ints_one _ _) (by omega) (by omega) (by simp) ?_; intro A6 c6 w6 ho hgr ha
                       have hn0 : 0 + j' = j' := Nat.zero_add _
                       rw [hn0, List.nil_append] at ho
                       rw [hn0]
                       have hB6 : Below w5.heap.size w5 w6 := (below_append HbR.out (by exact ⟨hgr.os, hgr.tape, hgr.output, hgr.size, hgr.block⟩) HownR.out (by simp))
                       have Ho6 := Lib.hid ho
                       clear hn0 ho hgr ha))
                all_goals
                  have Hnew : Hid (Ints .i64 w8 A8 (j' + r.right.length + (m - (j' + 1))) c8 (f.take j' ++ r.right ++ (f.drop (j' + 1)))) := Lib.hid (by have := own_sl Ho8.out; rw [← ints_append, ← ints_append] at this; exact this)
                  have HBn : Hid (Below W1.heap.size W1 w8) := Lib.hid ((HB3.out.trans ((below_tail Hb4.out HB5.out).mono HB3.out.size)).trans (hB8.mono (Nat.le_trans (HB3.out.trans ((below_tail Hb4.out HB5.out).mono HB3.out.size)).size (Nat.le_refl _))))
                  have HbN : Hid (∀ s ∈ f.take j' ++ r.right ++ (f.drop (j' + 1)), -100 ≤ s ∧ s ≤ 100) := Lib.hid fun s hs => by
                    rcases List.mem_append.1 hs with hs | hs
                    · rcases List.mem_append.1 hs with hs | hs
                      · exact Hb.out s (List.mem_of_mem_take hs)
                      · exact Hsb.out s hs
                    · first
                        | exact Hb.out s (List.mem_of_mem_drop hs)
                        | cases hs
                  have Hgon : Hid (derGo G rs [-1 - G.start] = derGo G (rs.drop (k + 1)) (f.take j' ++ r.right ++ (f.drop (j' + 1)))) := Lib.hid (by rw [Hgo.out, derGo_some Hik.out Hst.out])
                  go_wp2_with fail
                  go_roundw
                  case rel => exact ⟨k + 1, _, c8, A8, _, rfl, by go_num, by omega, by omega, Hnew, HbN, Hgon, HBn⟩
                  case measure => simp [intOf]; omega
end Go.Proofs.YtfdbpafenhdkbaaGreat
