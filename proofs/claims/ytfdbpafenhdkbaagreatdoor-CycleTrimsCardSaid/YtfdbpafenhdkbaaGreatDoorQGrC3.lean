/- grammars: levels, walked. -/
import Derived.Test.YtfdbpafenhdkbaaGreatDoorQGrS1
import Derived.Outline
namespace Go.Proofs.YtfdbpafenhdkbaaGreatDoor
open Go.RowKit Go.Maps
set_option linter.unusedVariables false
set_option linter.unusedSimpArgs false

theorem law3 : Keyed Tryz.prog 3 := int_keyed Tryz.underlying3
theorem zero3 (w : World) : (zeroValue 3).run Tryz.prog w = .ok (.int .i64 0) w := by kernel_rfl

/-- what the map holds when some terminals have been seen -/
structure Ways (D : DataW Unit) (p : List Trm) : Prop where
  tidy : Tidy D
  at_ : ∀ L : Int, 1 ≤ L → D.atKey (.int .i64 L) (.lit (.int .i64 0)) = .lit (.int .i64 (wayOf p L))
  has_ : ∀ L : Int, 1 ≤ L → has D (.int .i64 L) = hasL p L
  size_ : Maps.size D = cntL p
theorem key_int (L : Int) : WideAt.IsKeyLit (.int .i64 L) := trivial
theorem Ways.start : Ways (.map []) [] := ⟨tidy_empty, fun L _ => rfl, fun L _ => rfl, rfl⟩
theorem Ways.zero {D : DataW Unit} {p : List Trm} {t : Trm} (h : Ways D p) (ht : t.level = 0) : Ways D (p ++ [t]) :=
  ⟨h.tidy, fun L hL => by rw [h.at_ L hL, wayOf_snoc, if_neg (by omega)], fun L hL => by rw [h.has_ L hL, hasL_snoc, show decide (t.level = L) = false from by simp; omega, Bool.or_false], by rw [h.size_, cntL_zero p t ht]⟩
theorem Ways.more {D : DataW Unit} {p : List Trm} {t : Trm} (h : Ways D p) (h1 : 1 ≤ t.level) (h2 : t.level ≤ 24) : Ways (D.put (.int .i64 t.level) (.lit (.int .i64 t.assoc))) (p ++ [t]) := by
  refine ⟨h.tidy.put (key_int _) _, fun L hL => ?_, fun L hL => ?_, ?_⟩
  · rw [wayOf_snoc]
    by_cases he : t.level = L
    · subst he
      rw [if_pos rfl, atKey_put_same h.tidy.isMap (key_int _)]
    · rw [if_neg he, atKey_put_other (by intro h'; injection h' with _ h'; exact he h'.symm), h.at_ L hL]
  · rw [hasL_snoc]
    by_cases he : t.level = L
    · subst he
      rw [has_put_same h.tidy.isMap (key_int _)]; simp
    · rw [has_put_other (by intro h'; injection h' with _ h'; exact he h'.symm), h.has_ L hL]
      simp [he]
  · rw [size_put h.tidy, h.has_ _ h1, h.size_, cntL_snoc p t h1 h2]

set_option maxHeartbeats 2000000 in
theorem cf_levels (A : Option Addr) (n c : Nat) (l : List Trm) (w : World) (h : Trms w A n c l) (hn : n ≤ 1000) (hb : ∀ t ∈ l, 0 ≤ t.level ∧ t.level ≤ 24 ∧ 0 ≤ t.assoc ∧ t.assoc ≤ 3) :
    Calls Tryz.prog 78 #[.slice A n c] w fun e w' => e = .returned (.bool (levelsP l)) ∧ Below w.heap.size w w' := by
  obtain rfl := h.len
  have hcap := h.cap
  have Hb := Lib.hid hb
  clear hb
  have hmm := @run_makeMap Tryz.prog
  have hB0 := alloc_below w (.map #[] 0)
  have hM0 := World.ownsMap_made w Tryz.prog 3 (plainElem (H := Unit) Tryz.prog 3)
  go_enter Tryz.func78, Tryz.ntmps78
  go_wp2_with fail
  go_loopw [4, 6, 7, 11] (fun top _ _ i wr => ∃ (k : Nat) (D : DataW Unit), k ≤ l.length ∧ i = .int .i64 (k : Int) ∧ top = .int .i64 (topL (l.take k)) ∧ wr.ownsMap Tryz.prog 3 (plainElem Tryz.prog 3) w.heap.size k D ∧ Below w.heap.size w wr ∧ Hid (Ways D (l.take k)) ∧ Hid (0 ≤ topL (l.take k) ∧ topL (l.take k) ≤ 24) ∧ Hid (∀ j, j < k → ∀ y, l[j]? = some y → (!consAt l j y) = false)) (fun _ _ _ i _ => l.length - (intOf i).toNat)
  case atStart => exact ⟨0, .map [], Nat.zero_le _, rfl, rfl, hM0, hB0, Lib.hid Ways.start, Lib.hid (by simp [topL]), Lib.hid fun j hj => by omega⟩
  case round =>
    clear hM0 hB0 hmm
    obtain ⟨k, D, hk, rfl, rfl, hown, hB, Hway, Htop, Hk⟩ := hrel
    have hlt := hown.lt
    by_cases hkk : k < l.length
    · obtain ⟨b, off, t, rfl, hb, Ht, q0, q1, q2⟩ := h.get hkk
      rw [← hB.cell (by exact hb)] at q0 q1 q2
      have hbt := Hb.out t (List.mem_of_getElem? Ht.out)
      have htk : l.take (k + 1) = l.take k ++ [t] := by rw [List.take_add_one, Ht.out]; rfl
      have Htk := Lib.hid htk
      obtain ⟨g1, g2, g3, g4⟩ := hbt
      obtain ⟨t1, t2⟩ := Htop.out
      have hB1 : ∀ o, Below w.heap.size w (wr.alloc o) := fun o => hB.alloc hB.size o
      have HB1 := Lib.hid hB1
      have Hown1 : Hid (∀ o, (wr.alloc o).ownsMap Tryz.prog 3 (plainElem Tryz.prog 3) w.heap.size k D) := Lib.hid fun o => hown.alloc o
      clear hB1 htk hown
      by_cases hz : t.level = 0
      · have d1 : (t.level == 0) = true := by rw [beq_iff_eq]; exact hz
        have Hz := Lib.hid hz
        clear hz
        go_wp2_with fail
        go_roundw
        case rel => exact ⟨k + 1, D, by omega, by go_num, by rw [Htk.out, topL_snoc, if_pos Hz.out], (Hown1.out _).mono (by omega), HB1.out _, by rw [Htk.out]; exact Lib.hid (Hway.out.zero Hz.out), by rw [Htk.out, topL_snoc, if_pos Hz.out]; exact Htop, Lib.hid (next_noneI Hk.out Ht.out (by simp [consAt, Hz.out]))⟩
        case measure => simp [intOf]; omega
      · have d1 : (t.level == 0) = false := by rw [beq_eq_false_iff_ne]; exact hz
        have Hz := Lib.hid hz
        have g5 : 1 ≤ t.level := by omega
        have hkey : keyOf Tryz.prog 3 (.int .i64 t.level) = some (.int .i64 t.level) := keyOf_int_mk Tryz.underlying3 (WalkArith.wf_i64 (by omega))
        have hlk := Hway.out.at_ t.level g5
        have hcons : consAt l k t = (decide (wayOf (l.take k) t.level = 0) || decide (wayOf (l.take k) t.level = t.assoc)) := by
          unfold consAt
          rw [show decide (t.level = 0) = false from by simp [hz], Bool.false_or]
        have Hcons := Lib.hid hcons
        generalize wayOf (l.take k) t.level = wy at *
        have Hlk := Lib.hid hlk
        clear hz hlk hcons
        by_cases hbad : wy ≠ 0 ∧ wy ≠ t.assoc
        · have Hfin : Hid (levelsP l = false) := Lib.hid (by
            have : consOK l = false := allI_false Ht.out (by rw [Hcons.out]; simp [hbad.1, hbad.2])
            unfold levelsP; rw [this]; rfl)
          have d2 : (wy != 0) = true := by rw [bne_iff_ne]; exact hbad.1
          have d3 : (wy != t.assoc) = true := by rw [bne_iff_ne]; exact hbad.2
          clear hbad
          go_wp2_with (at_lookup; refine wpList_lookup_own_int _ rfl _ _ 130 rfl 3 3 .i64 law3 Tryz.underlying130 Tryz.underlying3 (zero3 _) w.heap.size k _ rfl (Hown1.out _) _ _ rfl hkey ?_; intro c' hat hwc; rw [Hlk.out] at hat; injection hat with hat; injection hat with _ hat; subst hat)
          go_ret
          exact ⟨by rw [Hfin.out]; rfl, HB1.out _⟩
        · have Hnx : Hid ((!consAt l k t) = false) := Lib.hid (by
            rw [Hcons.out]
            by_cases h0 : wy = 0
            · simp [h0]
            · by_cases h9 : wy = t.assoc
              · simp [h9]
              · exact absurd ⟨h0, h9⟩ hbad)
          have hw : (wy != 0) = false ∨ ((wy != 0) = true ∧ (wy != t.assoc) = false) := by
            rw [bne_eq_false_iff_eq, bne_eq_false_iff_eq, bne_iff_ne]
            by_cases h0 : wy = 0
            · exact .inl h0
            · exact .inr ⟨h0, by by_cases h9 : wy = t.assoc; exact h9; exact absurd ⟨h0, h9⟩ hbad⟩
          have Htop2 : Hid (topL (l.take (k + 1)) = max (topL (l.take k)) t.level) := Lib.hid (by rw [Htk.out, topL_snoc, if_neg Hz.out])
          have hc1 := alloc_cell wr 71 #[.string t.name, .int .i64 t.level, .int .i64 t.assoc] 1
          simp only [List.getElem?_toArray, List.getElem?_cons_zero, List.getElem?_cons_succ] at hc1
          have Hc1 := Lib.hid hc1
          clear hbad hc1
          rcases hw with d2 | ⟨d2, d3⟩
          all_goals
            go_wp2_with (first
              | (at_lookup; refine wpList_lookup_own_int _ rfl _ _ 130 rfl 3 3 .i64 law3 Tryz.underlying130 Tryz.underlying3 (zero3 _) w.heap.size k _ rfl (Hown1.out _) _ _ rfl hkey ?_; intro c' hat hwc; rw [Hlk.out] at hat; injection hat with hat; injection hat with _ hat; subst hat)
              | (at_mapUpdate; refine wpList_mapUpdate_own _ rfl _ _ _ 130 rfl 3 3 law3 Tryz.underlying130 _ w.heap.size k _ rfl (Hown1.out _) (by unfold maxLen; omega) _ _ _ rfl rfl hkey _ [] (plainElem_int Tryz.underlying3 (WalkArith.wf_i64 (by omega))) ?_; intro w4 hown4 hgrow4; have r1 := (World.cell?_of_block (a := ⟨wr.heap.size, 1, none⟩) (hgrow4.block wr.heap.size (by simp) (by intro h'; injection h' with h'; omega))).trans Hc1.out))
            go_roundw
            case rel => exact ⟨k + 1, _, by omega, by go_num, by rw [Htop2.out], hown4, (HB1.out _).grown hgrow4 (HB1.out _).size (fun j hj => by cases hj; exact Nat.le_refl _), by rw [Htk.out]; exact Lib.hid (Hway.out.more g5 g2), Lib.hid (by rw [Htop2.out]; omega), Lib.hid (next_noneI Hk.out Ht.out Hnx.out)⟩
            case measure => simp [intOf]; omega
    · obtain rfl : k = l.length := by omega
      have hL : ((l.length : Int) < (l.length : Int)) = False := by simp
      have Hfin : Hid (levelsP l = (((Maps.size D : Nat) : Int) == topL l)) := Lib.hid (by
        have hc : consOK l = true := allI_true fun j y hy => by
          have := Hk.out j (List.getElem?_eq_some_iff.1 hy).1 y hy
          simpa using this
        have h1 := Hway.out.size_
        have h2 := Htop.out
        rw [List.take_of_length_le (Nat.le_refl _)] at h1 h2
        unfold levelsP
        rw [hc, h1, Bool.true_and, Bool.eq_iff_iff, decide_eq_true_iff, beq_iff_eq])
      go_wp2_with (at_len; refine wpList_len_own _ rfl _ 130 rfl 3 3 Tryz.underlying130 _ w.heap.size _ _ rfl hown ?_)
      go_ret
      exact ⟨by rw [Hfin.out]; rfl, hB⟩
end Go.Proofs.YtfdbpafenhdkbaaGreatDoor

namespace Go.Proofs.YtfdbpafenhdkbaaGreatDoor
open Go.RowKit
set_option linter.unusedVariables false
set_option linter.unusedSimpArgs false

theorem withinB_true {n a b : Int} (h : withinB n a b = true) : a ≤ n ∧ n ≤ b := by unfold withinB at h; simpa using h
/-- what the program's terms says -/
def termsP (l : List Trm) : Bool := l.all basicT && (decide (l.length ≤ 24) && levelsP l)

set_option maxHeartbeats 2000000 in
theorem cf_terms (A : Option Addr) (n c : Nat) (l : List Trm) (w : World) (h : Trms w A n c l) (hn : n ≤ 1000) (hs : ∀ t ∈ l, t.name.size ≤ maxLen) :
    Calls Tryz.prog 48 #[.slice A n c] w fun e w' => e = .returned (.bool (termsP l)) ∧ Below w.heap.size w w' := by
  obtain rfl := h.len
  have hcap := h.cap
  have Hs := Lib.hid hs
  have Hh := Lib.hid h
  clear hs
  go_enter Tryz.func48, Tryz.ntmps48
  go_wp2_with fail
  go_loopw [4, 7] (fun _ i wr => ∃ (k : Nat), k ≤ l.length ∧ i = .int .i64 (k : Int) ∧ Below w.heap.size w wr ∧ Hid (∀ j, j < k → ∀ y, l[j]? = some y → (!basicT y) = false)) (fun _ i _ => l.length - (intOf i).toNat)
  case atStart => exact ⟨0, Nat.zero_le _, rfl, Below.refl _ _, Lib.hid fun j hj => by omega⟩
  case round =>
    obtain ⟨k, hk, rfl, hB, Hk⟩ := hrel
    by_cases hkk : k < l.length
    · obtain ⟨b, off, t, rfl, hb, Ht, q0, q1, q2⟩ := h.get hkk
      rw [← hB.cell (by exact hb)] at q0 q1 q2
      have hst := Hs.out t (List.mem_of_getElem? Ht.out)
      have hB1 := hB.alloc hB.size (.cells #[.string t.name, .int .i64 t.level, .int .i64 t.assoc] 71)
      have p0 := alloc_cell wr 71 #[.string t.name, .int .i64 t.level, .int .i64 t.assoc] 0
      have p1 := alloc_cell wr 71 #[.string t.name, .int .i64 t.level, .int .i64 t.assoc] 1
      have p2 := alloc_cell wr 71 #[.string t.name, .int .i64 t.level, .int .i64 t.assoc] 2
      have p5 := alloc_size wr (.cells #[.string t.name, .int .i64 t.level, .int .i64 t.assoc] 71)
      simp only [List.getElem?_toArray, List.getElem?_cons_zero, List.getElem?_cons_succ] at p0 p1 p2
      go_wp2_with fail
      generalize wr.alloc (.cells #[.string t.name, .int .i64 t.level, .int .i64 t.assoc] 71) = W1 at *
      have hlt1 : wr.heap.size < W1.heap.size := by omega
      clear p5 q0 q1 q2
      generalize wr.heap.size = gt at *
      have CN := Lib.hid ((cf_named t.name W1 hst).mono fun e w' hh => And.intro hh.1 (And.intro (bcell hh.2).1 (Lib.hid (hB1.trans (hh.2.mono hB1.size)))))
      have cW1 := fun w => cf_within t.level 0 24 w
      have cW2 := fun w => cf_within t.assoc 0 3 w
      have hdef : basicT t = (namedB t.name && withinB t.level 0 24 && withinB t.assoc 0 3 && (decide (t.level = 0) == decide (t.assoc = 0))) := rfl
      have hx1 : withinB t.level 0 24 = true → 0 ≤ t.level ∧ t.level ≤ 24 := withinB_true
      have hx2 : withinB t.assoc 0 3 = true → 0 ≤ t.assoc ∧ t.assoc ≤ 3 := withinB_true
      have Hdef := Lib.hid hdef
      clear hdef
      generalize namedB t.name = b1 at *
      generalize withinB t.level 0 24 = b2 at *
      generalize withinB t.assoc 0 3 = b3 at *
      have CW1 := Lib.hid cW1
      have CW2 := Lib.hid cW2
      have Hx1 := Lib.hid hx1
      have Hx2 := Lib.hid hx2
      clear cW1 cW2 hst hB1 hx1 hx2
      have hways : b1 = false ∨ (b1 = true ∧ b2 = false) ∨ (b1 = true ∧ b2 = true ∧ b3 = false) ∨ (b1 = true ∧ b2 = true ∧ b3 = true) := by cases b1 <;> cases b2 <;> cases b3 <;> simp
      have hbad : basicT t = false → termsP l = false := fun hf => by
        have := all_false (p := basicT) Ht.out hf
        unfold termsP; rw [this]; rfl
      have Hbad := Lib.hid hbad
      clear hbad
      rcases hways with rfl | ⟨rfl, rfl⟩ | ⟨rfl, rfl, rfl⟩ | ⟨rfl, rfl, rfl⟩
      · go_wp2_with (go_at_call 77; (with_reducible refine CN.out.mono ?_); rintro e w3 ⟨rfl, hc3, Hb3⟩)
        go_ret
        exact ⟨by rw [Hbad.out (by rw [Hdef.out]; rfl)]; rfl, Hb3.out⟩
      · go_wp2_with (first
          | (go_at_call 77; (with_reducible refine CN.out.mono ?_); rintro e w3 ⟨rfl, hc3, Hb3⟩; have p1' := (hc3 _ 1 hlt1).trans p1)
          | (go_at_call 49; (with_reducible refine (CW1.out _).mono ?_); rintro e w4 ⟨rfl, rfl⟩))
        go_ret
        exact ⟨by rw [Hbad.out (by rw [Hdef.out]; rfl)]; rfl, Hb3.out⟩
      · have Hy := Hx1.out rfl
        go_wp2_with (first
          | (go_at_call 77; (with_reducible refine CN.out.mono ?_); rintro e w3 ⟨rfl, hc3, Hb3⟩; have p1' := (hc3 _ 1 hlt1).trans p1; have p2' := (hc3 _ 2 hlt1).trans p2)
          | (go_at_call 49; (with_reducible refine (CW1.out _).mono ?_); rintro e w4 ⟨rfl, rfl⟩)
          | (go_at_call 49; (with_reducible refine (CW2.out _).mono ?_); rintro e w5 ⟨rfl, rfl⟩))
        go_ret
        exact ⟨by rw [Hbad.out (by rw [Hdef.out]; rfl)]; rfl, Hb3.out⟩
      · have hee : ((t.level == 0) = true ∧ (t.assoc == 0) = true ∧ basicT t = true) ∨ ((t.level == 0) = false ∧ (t.assoc == 0) = false ∧ basicT t = true) ∨ ((t.level == 0) = true ∧ (t.assoc == 0) = false ∧ basicT t = false) ∨ ((t.level == 0) = false ∧ (t.assoc == 0) = true ∧ basicT t = false) := by
          rw [beq_iff_eq, beq_iff_eq, beq_eq_false_iff_ne, beq_eq_false_iff_ne, Hdef.out]
          by_cases g1 : t.level = 0 <;> by_cases g2 : t.assoc = 0 <;> simp [g1, g2]
        rcases hee with ⟨e1, e2, hx⟩ | ⟨e1, e2, hx⟩ | ⟨e1, e2, hx⟩ | ⟨e1, e2, hx⟩
        all_goals
          have Hx := Lib.hid hx
          clear hx
          go_wp2_with (first
            | (go_at_call 77; (with_reducible refine CN.out.mono ?_); rintro e w3 ⟨rfl, hc3, Hb3⟩; have p1' := (hc3 _ 1 hlt1).trans p1; have p2' := (hc3 _ 2 hlt1).trans p2)
            | (go_at_call 49; (with_reducible refine (CW1.out _).mono ?_); rintro e w4 ⟨rfl, rfl⟩)
            | (go_at_call 49; (with_reducible refine (CW2.out _).mono ?_); rintro e w5 ⟨rfl, rfl⟩))
          first
            | (go_ret; exact ⟨by rw [Hbad.out Hx.out]; rfl, Hb3.out⟩)
            | (go_roundw
               case rel => exact ⟨k + 1, by omega, by go_num, Hb3.out, Lib.hid (next_none Hk.out Ht.out (by rw [Hx.out]; rfl))⟩
               case measure => simp [intOf]; omega)
    · obtain rfl : k = l.length := by omega
      have hall : l.all basicT = true := all_true fun j y hy => by
        have := Hk.out j (List.getElem?_eq_some_iff.1 hy).1 y hy
        simpa using this
      have Hall := Lib.hid hall
      have Hfin : Hid (termsP l = (decide (l.length ≤ 24) && levelsP l)) := Lib.hid (by unfold termsP; rw [hall]; rfl)
      clear hall
      by_cases h24 : l.length ≤ 24
      · have CL := Lib.hid (cf_levels A l.length c l wr (Hh.out.below hB) hn fun t ht => by
          have := basicT_facts ((List.all_eq_true.1 Hall.out) t ht)
          exact ⟨this.2.1, this.2.2.1, this.2.2.2.1, this.2.2.2.2.1⟩)
        have Hf2 : Hid (termsP l = levelsP l) := Lib.hid (by rw [Hfin.out, decide_eq_true h24]; rfl)
        go_wp2_with (go_at_call 78; (with_reducible refine CL.out.mono ?_); rintro e w3 ⟨rfl, hb3⟩)
        go_ret
        exact ⟨by rw [Hf2.out]; rfl, below_tail hB hb3⟩
      · have Hf2 : Hid (termsP l = false) := Lib.hid (by rw [Hfin.out, decide_eq_false h24]; rfl)
        go_wp2_with fail
        go_ret
        exact ⟨by rw [Hf2.out]; rfl, hB⟩
end Go.Proofs.YtfdbpafenhdkbaaGreatDoor
