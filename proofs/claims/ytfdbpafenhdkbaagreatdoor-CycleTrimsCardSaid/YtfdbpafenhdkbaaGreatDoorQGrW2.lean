/- grammars: the reference's Right, walked. -/
import Derived.Test.YtfdbpafenhdkbaaGreatDoorQGrW1
namespace Go.Proofs.YtfdbpafenhdkbaaGreatDoor
open Go.RowKit
set_option linter.unusedVariables false
set_option linter.unusedSimpArgs false

theorem bcell {W w1 : World} (hb : Below W.heap.size W w1) : (∀ b o, b < W.heap.size → w1.cell? ⟨b, o, none⟩ = W.cell? ⟨b, o, none⟩) ∧ (∀ b o, b < W.heap.size → w1.frozen? ⟨b, o, none⟩ = W.frozen? ⟨b, o, none⟩) :=
  ⟨fun b o h => hb.cell (p := ⟨b, o, none⟩) h, fun b o h => hb.frozen (p := ⟨b, o, none⟩) h⟩
theorem next_noneI {α : Type} {p : Nat → α → Bool} {l : List α} {k : Nat} {x : α} (h : ∀ j, j < k → ∀ y, l[j]? = some y → (!p j y) = false) (hx : l[k]? = some x) (hp : (!p k x) = false) : ∀ j, j < k + 1 → ∀ y, l[j]? = some y → (!p j y) = false := by
  intro j hj y hy
  rcases Nat.lt_or_ge j k with hlt | hge
  · exact h j hlt y hy
  · obtain rfl : j = k := by omega
    rw [hx] at hy
    injection hy with hy
    rw [← hy]; exact hp
/-- the cells of a grammar that was handed over -/
def GBox (w : World) (g : Nat) (h : GH) (st : Int) : Prop :=
  g < w.heap.size ∧ w.cell? ⟨g, 0, none⟩ = some (.slice h.a1 h.n1 h.c1) ∧ w.cell? ⟨g, 1, none⟩ = some (.slice h.a2 h.n2 h.c2) ∧ w.cell? ⟨g, 2, none⟩ = some (.slice h.a3 h.n3 h.c3) ∧ w.cell? ⟨g, 3, none⟩ = some (.int .i64 st)
theorem GBox.new (w : World) (t : TypeId) (h : GH) (st : Int) : GBox (w.alloc (.cells #[.slice h.a1 h.n1 h.c1, .slice h.a2 h.n2 h.c2, .slice h.a3 h.n3 h.c3, .int .i64 st] t)) w.heap.size h st := by
  refine ⟨by simp, ?_, ?_, ?_, ?_⟩ <;> (rw [alloc_cell]; rfl)
theorem GBox.below {w w' : World} {g : Nat} {h : GH} {st : Int} (hg : GBox w g h st) (hb : Below w.heap.size w w') : GBox w' g h st := by
  obtain ⟨h0, h1, h2, h3, h4⟩ := hg
  refine ⟨Nat.lt_of_lt_of_le h0 hb.size, ?_, ?_, ?_, ?_⟩
  · rw [hb.cell (p := ⟨g, 0, none⟩) h0]; exact h1
  · rw [hb.cell (p := ⟨g, 1, none⟩) h0]; exact h2
  · rw [hb.cell (p := ⟨g, 2, none⟩) h0]; exact h3
  · rw [hb.cell (p := ⟨g, 3, none⟩) h0]; exact h4

set_option maxHeartbeats 1000000 in
theorem rf_terms (h : GH) (G : Gr) (w : World) (hg : GrAt w h G) :
    Calls Tryz.prog 40 #[GV h G.start] w fun e w' => e = .returned (.bool G.termsOK) ∧ Below w.heap.size w w' := by
  obtain ⟨a1, n1, c1, a2, n2, c2, a3, n3, c3⟩ := h
  have ht : Trms w a1 n1 c1 G.terms := hg.terms
  have hl : G.terms.length = n1 := ht.len
  have hcap := ht.cap
  have Hf : Hid (G.termsOK = (decide (n1 ≤ 24) && allI G.termOK G.terms)) := Lib.hid (by unfold Gr.termsOK; rw [hl])
  by_cases h1 : n1 ≤ 24
  case neg =>
    have Hfin : Hid (G.termsOK = false) := Lib.hid (by rw [Hf.out]; simp; omega)
    have d1 : decide ((24 : Int) < (n1 : Int)) = true := by simp; omega
    clear hg h1
    go_enter Tryz.func40, Tryz.ntmps40
    go_wp2_with fail
    go_ret
    exact ⟨by rw [Hfin.out]; rfl, alloc_below _ _⟩
  have Hf2 : Hid (G.termsOK = allI G.termOK G.terms) := Lib.hid (by rw [Hf.out]; simp; omega)
  have d1 : decide ((24 : Int) < (n1 : Int)) = false := by simp; omega
  have Hg := Lib.hid hg
  clear Hf hg
  go_enter Tryz.func40, Tryz.ntmps40
  have hbox := GBox.new w 26 ⟨a1, n1, c1, a2, n2, c2, a3, n3, c3⟩ G.start
  go_wp2_with fail
  go_loopw [3, 4, 5] (fun i t n wr => ∃ (k : Nat), k ≤ n1 ∧ i = .int .i64 (k : Int) ∧ Below w.heap.size w wr ∧ GBox wr w.heap.size ⟨a1, n1, c1, a2, n2, c2, a3, n3, c3⟩ G.start ∧ Hid (∀ j, j < k → ∀ y, G.terms[j]? = some y → (!G.termOK j y) = false)) (fun i _ _ _ => n1 - (intOf i).toNat)
  case atStart => exact ⟨0, Nat.zero_le _, rfl, alloc_below _ _, hbox, Lib.hid fun j hj => by omega⟩
  case round =>
    clear hbox
    obtain ⟨wo, rfl⟩ : ∃ wo : World, wo = wr := ⟨_, rfl⟩
    obtain ⟨k, hk, rfl, hB, hbx, Hk⟩ := hrel
    have ⟨z5, z0, z1, z2, z3⟩ := hbx
    simp only [] at z0 z1 z2 z3
    by_cases hkk : k < n1
    · obtain ⟨b, off, t, rfl, hb, Ht, q0, q1, q2⟩ := ht.get hkk
      rw [← hB.cell (by exact hb)] at q0 q1 q2
      have hB1 := hB.alloc (Nat.le_of_lt z5) (.cells #[.string t.name, .int .i64 t.level, .int .i64 t.assoc] 71)
      have hx1 := hbx.below (alloc_below wo (.cells #[.string t.name, .int .i64 t.level, .int .i64 t.assoc] 71))
      have p0 := alloc_cell wo 71 #[.string t.name, .int .i64 t.level, .int .i64 t.assoc] 0
      have p1 := alloc_cell wo 71 #[.string t.name, .int .i64 t.level, .int .i64 t.assoc] 1
      have p2 := alloc_cell wo 71 #[.string t.name, .int .i64 t.level, .int .i64 t.assoc] 2
      have p5 := alloc_size wo (.cells #[.string t.name, .int .i64 t.level, .int .i64 t.assoc] 71)
      simp only [List.getElem?_toArray, List.getElem?_cons_zero, List.getElem?_cons_succ] at p0 p1 p2
      go_wp2_with fail
      generalize wo.alloc (.cells #[.string t.name, .int .i64 t.level, .int .i64 t.assoc] 71) = W1 at *
      have hg1 := Hg.out.below hB1
      have hlt1 : wo.heap.size < W1.heap.size := by omega
      clear p5 q0 q1 q2 z0 z1 z2 z3 hbx
      generalize wo.heap.size = gt at *
      have ⟨z5', z0, z1, z2, z3⟩ := hx1
      simp only [] at z0 z1 z2 z3
      have cN := rf_named t.name W1
      have cT := fun hh => rf_term ⟨some ⟨b, off, none⟩, n1, c1, a2, n2, c2, a3, n3, c3⟩ G t.name W1 hg1 hh
      have cT := cT (by simp only []; omega)
      have hdef : G.termOK k t = (decide (G.term t.name = (k : Int)) && basicT t && levelsT G.terms t) := rfl
      unfold basicT at hdef
      have Hdef := Lib.hid hdef
      clear hdef
      generalize namedB t.name = b1 at *
      generalize G.term t.name = tm at *
      have CN := Lib.hid cN
      have CT := Lib.hid cT
      clear cN cT
      have hways : (b1 = false ∨ (b1 = true ∧ tm ≠ k) ∨ (b1 = true ∧ tm = k ∧ t.level < 0) ∨ (b1 = true ∧ tm = k ∧ 0 ≤ t.level ∧ 24 < t.level) ∨ (b1 = true ∧ tm = k ∧ 0 ≤ t.level ∧ t.level ≤ 24 ∧ t.assoc < 0) ∨ (b1 = true ∧ tm = k ∧ 0 ≤ t.level ∧ t.level ≤ 24 ∧ 0 ≤ t.assoc ∧ 3 < t.assoc) ∨
          (b1 = true ∧ tm = k ∧ 0 ≤ t.level ∧ t.level ≤ 24 ∧ 0 ≤ t.assoc ∧ t.assoc ≤ 3 ∧ t.level = 0 ∧ t.assoc ≠ 0) ∨ (b1 = true ∧ tm = k ∧ 0 ≤ t.level ∧ t.level ≤ 24 ∧ 0 ≤ t.assoc ∧ t.assoc ≤ 3 ∧ t.level ≠ 0 ∧ t.assoc = 0)) ∨
          (b1 = true ∧ tm = k ∧ 0 ≤ t.level ∧ t.level ≤ 24 ∧ 0 ≤ t.assoc ∧ t.assoc ≤ 3 ∧ (t.level = 0 ∧ t.assoc = 0 ∨ t.level ≠ 0 ∧ t.assoc ≠ 0)) := by
        cases b1
        · simp
        · simp only [Bool.true_eq_false, false_or, true_and]
          omega
      rcases hways with hbad | hok
      · have Hbad : Hid (G.termsOK = false) := Lib.hid (by
          rw [Hf2.out]
          refine allI_false Ht.out ?_
          rw [Hdef.out]
          rcases hbad with rfl | ⟨rfl, g⟩ | ⟨rfl, g, g2⟩ | ⟨rfl, g, g2, g3⟩ | ⟨rfl, g, g2, g3, g4⟩ | ⟨rfl, g, g2, g3, g4, g5⟩ | ⟨rfl, g, g2, g3, g4, g5, g6, g7⟩ | ⟨rfl, g, g2, g3, g4, g5, g6, g7⟩
          · simp
          · simp [g]
          · simp; omega
          · simp; omega
          · simp; omega
          · simp; omega
          · simp [g6, g7]
          · simp [g6, g7])
        have HB1 := Lib.hid hB1
        clear hB1
        have CT2 : Hid (Calls Tryz.prog 66 #[GV ⟨some ⟨b, off, none⟩, n1, c1, a2, n2, c2, a3, n3, c3⟩ G.start, .string t.name] W1 fun e w' => e = .returned (.int .i64 tm) ∧ (∀ b o, b < W1.heap.size → w'.cell? ⟨b, o, none⟩ = W1.cell? ⟨b, o, none⟩) ∧ Hid (Below w.heap.size w w')) := Lib.hid (CT.out.mono fun e w' h => ⟨h.1, (bcell h.2).1, Lib.hid (HB1.out.trans (h.2.mono HB1.out.size))⟩)
        clear CT hk hkk
        rcases hbad with rfl | ⟨rfl, g⟩ | ⟨rfl, rfl, g2⟩ | ⟨rfl, rfl, g2, g3⟩ | ⟨rfl, rfl, g2, g3, g4⟩ | ⟨rfl, rfl, g2, g3, g4, g5⟩ | ⟨rfl, rfl, g2, g3, g4, g5, g6, g7⟩ | ⟨rfl, rfl, g2, g3, g4, g5, g6, g7⟩
        · go_wp2_with (go_at_call 65; (with_reducible refine CN.out.mono ?_); rintro e w2 ⟨rfl, rfl⟩)
          go_ret
          exact ⟨by rw [Hbad.out]; rfl, HB1.out⟩
        · have d : (tm != (k : Int)) = true := by rw [bne_iff_ne]; exact g
          clear g
          go_wp2_with (first
            | (go_at_call 65; (with_reducible refine CN.out.mono ?_); rintro e w2 ⟨rfl, rfl⟩)
            | (go_at_call 66; (with_reducible refine CT2.out.mono ?_); rintro e w3 ⟨rfl, hc3, Hb3⟩))
          go_ret
          exact ⟨by rw [Hbad.out]; rfl, Hb3.out⟩
        iterate 4
          · go_wp2_with (first
            | (go_at_call 65; (with_reducible refine CN.out.mono ?_); rintro e w2 ⟨rfl, rfl⟩)
            | (go_at_call 66; (with_reducible refine CT2.out.mono ?_); rintro e w3 ⟨rfl, hc3, Hb3⟩))
            go_ret
            exact ⟨by rw [Hbad.out]; rfl, Hb3.out⟩
        · have e1 : (t.level == 0) = true := by rw [beq_iff_eq]; exact g6
          have e2 : (t.assoc == 0) = false := by rw [beq_eq_false_iff_ne]; exact g7
          clear g6 g7
          go_wp2_with (first
            | (go_at_call 65; (with_reducible refine CN.out.mono ?_); rintro e w2 ⟨rfl, rfl⟩)
            | (go_at_call 66; (with_reducible refine CT2.out.mono ?_); rintro e w3 ⟨rfl, hc3, Hb3⟩))
          go_ret
          exact ⟨by rw [Hbad.out]; rfl, Hb3.out⟩
        · have e1 : (t.level == 0) = false := by rw [beq_eq_false_iff_ne]; exact g6
          have e2 : (t.assoc == 0) = true := by rw [beq_iff_eq]; exact g7
          clear g6 g7
          go_wp2_with (first
            | (go_at_call 65; (with_reducible refine CN.out.mono ?_); rintro e w2 ⟨rfl, rfl⟩)
            | (go_at_call 66; (with_reducible refine CT2.out.mono ?_); rintro e w3 ⟨rfl, hc3, Hb3⟩))
          go_ret
          exact ⟨by rw [Hbad.out]; rfl, Hb3.out⟩
      · obtain ⟨rfl, rfl, g2, g3, g4, g5, g6⟩ := hok
        have HB1 := Lib.hid hB1
        have Hg1 := Lib.hid hg1
        have Hx1 := Lib.hid hx1
        have CT2 : Hid (Calls Tryz.prog 66 #[GV ⟨some ⟨b, off, none⟩, n1, c1, a2, n2, c2, a3, n3, c3⟩ G.start, .string t.name] W1 fun e w' => e = .returned (.int .i64 (k : Int)) ∧ (∀ b o, b < W1.heap.size → w'.cell? ⟨b, o, none⟩ = W1.cell? ⟨b, o, none⟩) ∧ Hid (Below W1.heap.size W1 w')) := Lib.hid (CT.out.mono fun e w' h => ⟨h.1, (bcell h.2).1, Lib.hid h.2⟩)
        have Hok2 : Hid (G.termOK k t = levelsT G.terms t) := Lib.hid (by
          rw [Hdef.out]
          rcases g6 with ⟨g6, g7⟩ | ⟨g6, g7⟩
          · simp [g6, g7]
          · have h9 : 0 ≤ t.level ∧ t.level ≤ 24 ∧ 0 ≤ t.assoc ∧ t.assoc ≤ 3 := ⟨g2, g3, g4, g5⟩
            simp [g6, g7, h9])
        have hee : ((t.level == 0) = true ∧ (t.assoc == 0) = true) ∨ ((t.level == 0) = false ∧ (t.assoc == 0) = false) := by
          rw [beq_iff_eq, beq_iff_eq, beq_eq_false_iff_ne, beq_eq_false_iff_ne]; exact g6
        clear CT hB1 hg1 hx1 g6
        rcases hee with ⟨e1, e2⟩ | ⟨e1, e2⟩
        all_goals
          go_wp2_with (first
            | (go_at_call 65; (with_reducible refine CN.out.mono ?_); rintro e w2 ⟨rfl, rfl⟩)
            | (go_at_call 66; (with_reducible refine CT2.out.mono ?_); rintro e w3 ⟨rfl, hc3, Hb3⟩))
          have hB3 := HB1.out.trans (Hb3.out.mono HB1.out.size)
          have hx3 := Hx1.out.below Hb3.out
          have r1 : w3.cell? ⟨gt, 1, none⟩ = some (.int .i64 t.level) := by rw [hc3 _ _ hlt1]; exact p1
          have hlt3 : gt < w3.heap.size := Nat.lt_of_lt_of_le hlt1 Hb3.out.size
          have Hx3 := Lib.hid hx3
          clear hc3 Hb3 p0 p1 p2 z0 z1 z2 z3 hx3
          go_loopw [5] (fun n wr => ∃ m : Nat, (m : Int) ≤ t.level ∧ n = .int .i64 ((m : Int) + 1) ∧ Below w3.heap.size w3 wr ∧ Hid (∀ j : Nat, j < m → levelB G.terms ((j : Int) + 1) = true)) (fun n _ => t.level.toNat + 1 - (intOf n).toNat)
          case atStart => exact ⟨0, g2, rfl, Below.refl _ _, Lib.hid fun j hj => by omega⟩
          case round =>
            obtain ⟨m, hm, rfl, hB4, Hm⟩ := hrel
            rw [← hB4.cell (by exact hlt3)] at r1
            have hx4 := Hx3.out.below hB4
            have ⟨z5', z0, z1, z2, z3⟩ := hx4
            simp only [] at z0 z1 z2 z3
            have hB5 := hB3.trans (hB4.mono hB3.size)
            have hg5 := Hg.out.below hB5
            have HB5 := Lib.hid hB5
            have Hx4 := Lib.hid hx4
            have hlt5 : w.heap.size ≤ wr.heap.size := hB5.size
            have HB4 := Lib.hid hB4
            clear hB5 hx4 hB4
            by_cases hml : (m : Int) + 1 ≤ t.level
            · have cL := rf_level ⟨some ⟨b, off, none⟩, n1, c1, a2, n2, c2, a3, n3, c3⟩ G ((m : Int) + 1) wr hg5 (by simp only []; omega)
              cases hlv : levelB G.terms ((m : Int) + 1)
              · have Hbad : Hid (G.termsOK = false) := Lib.hid (by
                  rw [Hf2.out]
                  refine allI_false Ht.out ?_
                  rw [Hok2.out]
                  exact all_false (l := List.range t.level.toNat) (j := m) (y := m) (by rw [List.getElem?_range]; omega) hlv)
                rw [hlv] at cL
                have CL := Lib.hid cL
                clear cL hlv hg5
                go_wp2_with (go_at_call 67; (with_reducible refine CL.out.mono ?_); rintro e w6 ⟨rfl, hb6⟩)
                go_ret
                exact ⟨by rw [Hbad.out]; rfl, HB5.out.trans (hb6.mono hlt5)⟩
              · rw [hlv] at cL
                have CL := Lib.hid cL
                have Hlv := Lib.hid hlv
                clear cL hlv hg5
                go_wp2_with (go_at_call 67; (with_reducible refine CL.out.mono ?_); rintro e w6 ⟨rfl, hb6⟩)
                have Hb6 := Lib.hid (HB4.out.trans (hb6.mono HB4.out.size))
                clear hb6
                go_roundw
                case rel => exact ⟨m + 1, by omega, by go_num, Hb6.out, Lib.hid fun j hj => by
                  rcases Nat.lt_or_ge j m with h | h
                  · exact Hm.out j h
                  · obtain rfl : j = m := by omega
                    exact Hlv.out⟩
                case measure => simp [intOf]; omega
            · have Hnext : Hid ((!G.termOK k t) = false) := Lib.hid (by
                rw [Hok2.out]
                have : levelsT G.terms t = true := by
                  unfold levelsT
                  rw [List.all_eq_true]
                  intro j hj
                  rw [List.mem_range] at hj
                  exact Hm.out j (by omega)
                rw [this]; rfl)
              go_wp2_with fail
              go_roundw
              case rel => exact ⟨k + 1, by omega, by go_num, HB5.out, Hx4.out, Lib.hid (next_noneI Hk.out Ht.out Hnext.out)⟩
              case measure => simp [intOf]; omega
    · obtain rfl : k = n1 := by omega
      have Hfin : Hid (G.termsOK = true) := Lib.hid (by
        rw [Hf2.out]
        refine allI_true fun j y hy => ?_
        have := Hk.out j (by have := (List.getElem?_eq_some_iff.1 hy).1; omega) y hy
        simpa using this)
      go_wp2_with fail
      go_ret
      exact ⟨by rw [Hfin.out]; rfl, hB⟩
end Go.Proofs.YtfdbpafenhdkbaaGreatDoor
