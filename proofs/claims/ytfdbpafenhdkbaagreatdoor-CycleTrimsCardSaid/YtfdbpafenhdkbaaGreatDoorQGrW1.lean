/- grammars: the reference's small functions, walked. -/
import Derived.Test.YtfdbpafenhdkbaaGreatDoorQGrK
namespace Go.Proofs.YtfdbpafenhdkbaaGreatDoor
open Go.RowKit
set_option linter.unusedVariables false
set_option linter.unusedSimpArgs false

theorem toList_beq (a b : ByteArray) : (a.toList == b.toList) = decide (a = b) := by
  rw [Bool.eq_iff_iff, beq_iff_eq, decide_eq_true_iff]
  constructor
  · intro h
    rw [ByteArray.toList_eq, ByteArray.toList_eq] at h
    cases a; cases b
    simp only [ByteArray.mk.injEq]
    exact Array.toList_inj.1 h
  · intro h; rw [h]
theorem next_none {α : Type} {p : α → Bool} {l : List α} {k : Nat} {x : α} (h : ∀ j, j < k → ∀ y, l[j]? = some y → p y = false) (hx : l[k]? = some x) (hp : p x = false) : ∀ j, j < k + 1 → ∀ y, l[j]? = some y → p y = false := by
  intro j hj y hy
  rcases Nat.lt_or_ge j k with hlt | hge
  · exact h j hlt y hy
  · obtain rfl : j = k := by omega
    rw [hx] at hy
    injection hy with hy
    rw [← hy]; exact hp

theorem drop_get {α : Type} {l : List α} {k : Nat} {x : α} (h : l[k]? = some x) : l.drop k = x :: l.drop (k + 1) := by
  obtain ⟨hk, rfl⟩ := List.getElem?_eq_some_iff.1 h
  exact List.drop_eq_getElem_cons hk

theorem rf_has (h : GH) (G : Gr) (s : Int) (w : World) (hg : GrAt w h G) (hs : InI64 s) (h1 : h.n1 ≤ 1000) (h2 : h.n2 ≤ 1000) :
    Calls Tryz.prog 70 #[GV h G.start, .int .i64 s] w fun e w' => e = .returned (.bool (G.has s)) ∧ Below w.heap.size w w' := by
  obtain ⟨a1, n1, c1, a2, n2, c2, a3, n3, c3⟩ := h
  have e1 : G.terms.length = n1 := hg.terms.len
  have e2 : G.nons.length = n2 := hg.nons.len
  have hf : G.has s = if 0 ≤ s then decide (s < (n1 : Int)) else decide (-1 - s < (n2 : Int)) := by unfold Gr.has; rw [e1, e2]
  rw [hf]
  obtain ⟨s1, s2⟩ := hs
  simp only [] at h1 h2
  clear hf e1 e2 hg
  by_cases h0 : 0 ≤ s
  · rw [if_pos h0]
    go_enter Tryz.func70, Tryz.ntmps70
    go_wp2_with fail
    go_ret
    exact ⟨by simp, alloc_below _ _⟩
  · rw [if_neg h0]
    go_enter Tryz.func70, Tryz.ntmps70
    go_wp2_with fail
    go_ret
    exact ⟨by simp, alloc_below _ _⟩

set_option maxHeartbeats 400000 in
theorem rf_term (h : GH) (G : Gr) (s : ByteArray) (w : World) (hg : GrAt w h G) (h1 : h.n1 ≤ 1000) :
    Calls Tryz.prog 66 #[GV h G.start, .string s] w fun e w' => e = .returned (.int .i64 (G.term s)) ∧ Below w.heap.size w w' := by
  obtain ⟨a1, n1, c1, a2, n2, c2, a3, n3, c3⟩ := h
  have ht : Trms w a1 n1 c1 G.terms := hg.terms
  have hcap := ht.cap
  simp only [] at h1
  clear hg
  unfold Gr.term
  go_enter Tryz.func66, Tryz.ntmps66
  go_wp2_with fail
  go_loop [5] (fun i => ∃ k : Nat, k ≤ n1 ∧ i = .int .i64 (k : Int) ∧ Hid (∀ j, j < k → ∀ y, G.terms[j]? = some y → decide (y.name = s) = false)) (fun i => n1 - (intOf i).toNat)
  case atStart => exact ⟨0, Nat.zero_le _, rfl, Lib.hid fun j hj => by omega⟩
  case round =>
    obtain ⟨k, hk, rfl, Hk⟩ := hrel
    by_cases hkk : k < n1
    · obtain ⟨b, off, t, rfl, hb, Ht, q0, q1, q2⟩ := ht.get hkk
      by_cases hs : t.name = s
      · have Hf : Hid (findI (fun t => decide (t.name = s)) G.terms = (k : Int)) := Lib.hid (findI_at Ht.out (by simp [hs]) Hk.out)
        have hq : (t.name.toList == s.toList) = true := by rw [toList_beq]; simp [hs]
        clear hs
        go_wp2_with fail
        go_ret
        exact ⟨by rw [Hf.out]; rfl, alloc_below _ _⟩
      · have hq : (t.name.toList == s.toList) = false := by rw [toList_beq]; simp [hs]
        have Hs := Lib.hid hs
        clear hs
        go_wp2_with fail
        go_round
        case rel => exact ⟨k + 1, by omega, by go_num, Lib.hid (next_none Hk.out Ht.out (by simp [Hs.out]))⟩
        case measure => simp [intOf]; omega
    · obtain rfl : k = n1 := by omega
      have hl := ht.len
      have Hf : Hid (findI (fun t => decide (t.name = s)) G.terms = -1) := Lib.hid (findI_none fun j y hy => Hk.out j (by have := (List.getElem?_eq_some_iff.1 hy).1; omega) y hy)
      go_wp2_with fail
      go_ret
      exact ⟨by rw [Hf.out]; rfl, alloc_below _ _⟩

set_option maxHeartbeats 400000 in
theorem rf_non (h : GH) (G : Gr) (s : ByteArray) (w : World) (hg : GrAt w h G) (h1 : h.n2 ≤ 1000) :
    Calls Tryz.prog 69 #[GV h G.start, .string s] w fun e w' => e = .returned (.int .i64 (G.non s)) ∧ Below w.heap.size w w' := by
  obtain ⟨a1, n1, c1, a2, n2, c2, a3, n3, c3⟩ := h
  have ht : Strs w a2 n2 c2 G.nons := hg.nons
  have hcap := ht.cap
  simp only [] at h1
  clear hg
  unfold Gr.non
  go_enter Tryz.func69, Tryz.ntmps69
  go_wp2_with fail
  go_loop [5] (fun i => ∃ k : Nat, k ≤ n2 ∧ i = .int .i64 (k : Int) ∧ Hid (∀ j, j < k → ∀ y, G.nons[j]? = some y → decide (y = s) = false)) (fun i => n2 - (intOf i).toNat)
  case atStart => exact ⟨0, Nat.zero_le _, rfl, Lib.hid fun j hj => by omega⟩
  case round =>
    obtain ⟨k, hk, rfl, Hk⟩ := hrel
    by_cases hkk : k < n2
    · obtain ⟨b, off, t, rfl, hb, Ht, q0⟩ := ht.get hkk
      by_cases hs : t = s
      · have Hf : Hid (findI (fun t => decide (t = s)) G.nons = (k : Int)) := Lib.hid (findI_at Ht.out (by simp [hs]) Hk.out)
        have hq : (t.toList == s.toList) = true := by rw [toList_beq]; simp [hs]
        clear hs
        go_wp2_with fail
        go_ret
        exact ⟨by rw [Hf.out]; rfl, alloc_below _ _⟩
      · have hq : (t.toList == s.toList) = false := by rw [toList_beq]; simp [hs]
        have Hs := Lib.hid hs
        clear hs
        go_wp2_with fail
        go_round
        case rel => exact ⟨k + 1, by omega, by go_num, Lib.hid (next_none Hk.out Ht.out (by simp [Hs.out]))⟩
        case measure => simp [intOf]; omega
    · obtain rfl : k = n2 := by omega
      have hl := ht.len
      have Hf : Hid (findI (fun t => decide (t = s)) G.nons = -1) := Lib.hid (findI_none fun j y hy => Hk.out j (by have := (List.getElem?_eq_some_iff.1 hy).1; omega) y hy)
      go_wp2_with fail
      go_ret
      exact ⟨by rw [Hf.out]; rfl, alloc_below _ _⟩

theorem rf_named (s : ByteArray) (w : World) :
    Calls Tryz.prog 65 #[.string s] w fun e w' => e = .returned (.bool (namedB s)) ∧ w = w' := by
  have c1 := ref_name s w
  have c2 := ref_Literal s w
  unfold namedB
  generalize nameB (bytesOf s) = p at *
  generalize litB (bytesOf s) = q at *
  have C1 := Lib.hid c1
  have C2 := Lib.hid c2
  clear c1 c2
  cases p
  all_goals
    go_enter Tryz.func65, Tryz.ntmps65
    go_wp2_with (first
      | (go_at_call 68; (with_reducible refine C1.out.mono ?_); rintro e w' ⟨rfl, rfl⟩)
      | (go_at_call 92; (with_reducible refine C2.out.mono ?_); rintro e w' ⟨rfl, rfl⟩))
    go_ret
    exact ⟨rfl, rfl⟩

set_option maxHeartbeats 400000 in
theorem rf_great (h : GH) (G : Gr) (w : World) (hg : GrAt w h G) :
    Calls Tryz.prog 8 #[GV h G.start] w fun e w' => e = .returned (.bool G.great) ∧ Below w.heap.size w w' := by
  obtain ⟨a1, n1, c1, a2, n2, c2, a3, n3, c3⟩ := h
  have ht : Ruls w a3 n3 c3 G.rules := hg.rules
  have e1 : G.terms.length = n1 := hg.terms.len
  have e2 : G.nons.length = n2 := hg.nons.len
  have e3 : G.rules.length = n3 := hg.rules.len
  have k1 : n1 ≤ c1 ∧ c1 ≤ 9223372036854775807 := hg.terms.cap
  have k2 : n2 ≤ c2 ∧ c2 ≤ 9223372036854775807 := hg.nons.cap
  have k3 : n3 ≤ c3 ∧ c3 ≤ 9223372036854775807 := hg.rules.cap
  have Hf : Hid (G.great = (decide (40 < n1) || decide (40 < n2) || decide (60 < n3) || G.rules.any fun r => decide (20 < r.right.length))) := Lib.hid (by unfold Gr.great; rw [e1, e2, e3])
  clear hg e1 e2
  by_cases g1 : n1 ≤ 40
  case neg =>
    have hfin : G.great = true := by rw [Hf.out]; simp; omega
    have d1 : decide ((40 : Int) < (n1 : Int)) = true := by simp; omega
    rw [hfin]
    clear g1 hfin
    go_enter Tryz.func8, Tryz.ntmps8
    go_wp2_with fail
    go_ret
    exact ⟨rfl, alloc_below _ _⟩
  have d1 : decide ((40 : Int) < (n1 : Int)) = false := by simp; omega
  by_cases g2 : n2 ≤ 40
  case neg =>
    have hfin : G.great = true := by rw [Hf.out]; simp; omega
    have d2 : decide ((40 : Int) < (n2 : Int)) = true := by simp; omega
    rw [hfin]
    clear g1 g2 hfin
    go_enter Tryz.func8, Tryz.ntmps8
    go_wp2_with fail
    go_ret
    exact ⟨rfl, alloc_below _ _⟩
  have d2 : decide ((40 : Int) < (n2 : Int)) = false := by simp; omega
  by_cases g3 : n3 ≤ 60
  case neg =>
    have hfin : G.great = true := by rw [Hf.out]; simp; omega
    have d3 : decide ((60 : Int) < (n3 : Int)) = true := by simp; omega
    rw [hfin]
    clear g1 g2 g3 hfin
    go_enter Tryz.func8, Tryz.ntmps8
    go_wp2_with fail
    go_ret
    exact ⟨rfl, alloc_below _ _⟩
  have d3 : decide ((60 : Int) < (n3 : Int)) = false := by simp; omega
  have Hf2 : Hid (G.great = G.rules.any fun r => decide (20 < r.right.length)) := Lib.hid (by rw [Hf.out]; simp; omega)
  clear Hf
  go_enter Tryz.func8, Tryz.ntmps8
  go_wp2_with fail
  go_loop [3] (fun i => ∃ k : Nat, k ≤ n3 ∧ i = .int .i64 (k : Int) ∧ Hid (∀ j, j < k → ∀ y, G.rules[j]? = some y → decide (20 < y.right.length) = false)) (fun i => n3 - (intOf i).toNat)
  case atStart => exact ⟨0, Nat.zero_le _, rfl, Lib.hid fun j hj => by omega⟩
  case round =>
    obtain ⟨k, hk, rfl, Hk⟩ := hrel
    by_cases hkk : k < n3
    · obtain ⟨b, off, r, Ar, cr, rfl, hb, Hr, q0, q1, q2, hi⟩ := ht.get hkk
      have hic := hi.cap
      by_cases hs : 20 < r.right.length
      · have Hfin : Hid (G.great = true) := Lib.hid (by rw [Hf2.out, List.any_eq_true]; exact ⟨r, List.mem_of_getElem? Hr.out, by simp [hs]⟩)
        have hq : decide ((20 : Int) < (r.right.length : Int)) = true := by simp; omega
        go_wp2_with fail
        go_ret
        exact ⟨by rw [Hfin.out]; rfl, alloc_below _ _⟩
      · have hq : decide ((20 : Int) < (r.right.length : Int)) = false := by simp; omega
        go_wp2_with fail
        go_round
        case rel => exact ⟨k + 1, by omega, by go_num, Lib.hid (next_none Hk.out Hr.out (by simp; omega))⟩
        case measure => simp [intOf]; omega
    · obtain rfl : k = n3 := by omega
      have Hfin : Hid (G.great = false) := Lib.hid (by
        rw [Hf2.out, List.any_eq_false]
        intro x hx
        obtain ⟨j, hj⟩ := List.getElem?_of_mem hx
        have := Hk.out j (by have := (List.getElem?_eq_some_iff.1 hj).1; omega) x hj
        simpa using this)
      go_wp2_with fail
      go_ret
      exact ⟨by rw [Hfin.out]; rfl, alloc_below _ _⟩

set_option maxHeartbeats 400000 in
theorem rf_level (h : GH) (G : Gr) (n : Int) (w : World) (hg : GrAt w h G) (h1 : h.n1 ≤ 1000) :
    Calls Tryz.prog 67 #[GV h G.start, .int .i64 n] w fun e w' => e = .returned (.bool (levelB G.terms n)) ∧ Below w.heap.size w w' := by
  obtain ⟨a1, n1, c1, a2, n2, c2, a3, n3, c3⟩ := h
  have ht : Trms w a1 n1 c1 G.terms := hg.terms
  have hcap := ht.cap
  have hl : G.terms.length = n1 := ht.len
  simp only [] at h1
  clear hg
  go_enter Tryz.func67, Tryz.ntmps67
  go_wp2_with fail
  go_loopw [5, 6, 7] (fun way i t wr => ∃ (k : Nat) (wy : Int), k ≤ n1 ∧ i = .int .i64 (k : Int) ∧ way = .int .i64 wy ∧ Below w.heap.size w wr ∧ wr.cell? ⟨w.heap.size, 0, none⟩ = some (.slice a1 n1 c1) ∧ w.heap.size < wr.heap.size ∧ Hid (levelB G.terms n = levelGo n (G.terms.drop k) wy)) (fun _ i _ _ => n1 - (intOf i).toNat)
  case atStart => exact ⟨0, 0, Nat.zero_le _, rfl, rfl, alloc_below _ _, by simp, by simp, Lib.hid rfl⟩
  case round =>
    obtain ⟨k, wy, hk, rfl, rfl, hB, z0, hsz, Hk⟩ := hrel
    by_cases hkk : k < n1
    · obtain ⟨b, off, t, rfl, hb, Ht, q0, q1, q2⟩ := ht.get hkk
      rw [← hB.cell (by exact hb)] at q0 q1 q2
      have hd : G.terms.drop k = t :: G.terms.drop (k + 1) := drop_get Ht.out
      have hB' : ∀ o, Below w.heap.size w (wr.alloc o) := fun o => hB.alloc (Nat.le_of_lt hsz) o
      have z0' : ∀ o, (wr.alloc o).cell? ⟨w.heap.size, 0, none⟩ = some (.slice (some ⟨b, off, none⟩) n1 c1) := fun o => by rw [(alloc_below wr o).cell (p := ⟨w.heap.size, 0, none⟩) hsz]; exact z0
      have Hend := Lib.hid (⟨hB', z0'⟩ : _ ∧ _)
      clear hB' z0'
      by_cases g : t.level = n
      · by_cases g2 : wy ≠ 0 ∧ wy ≠ t.assoc
        · have Hfin : Hid (levelB G.terms n = false) := Lib.hid (by rw [Hk.out, hd, levelGo, if_pos g, if_pos g2])
          have d1 : (t.level != n) = false := by rw [bne_eq_false_iff_eq]; exact g
          have d2 : (wy != 0) = true := by rw [bne_iff_ne]; exact g2.1
          have d3 : (wy != t.assoc) = true := by rw [bne_iff_ne]; exact g2.2
          clear g g2 hd Hk
          go_wp2_with fail
          go_ret
          exact ⟨by rw [Hfin.out]; rfl, Hend.out.1 _⟩
        · have Hnx : Hid (levelB G.terms n = levelGo n (G.terms.drop (k + 1)) t.assoc) := Lib.hid (by rw [Hk.out, hd, levelGo, if_pos g, if_neg g2])
          have d1 : (t.level != n) = false := by rw [bne_eq_false_iff_eq]; exact g
          have hw : (wy != 0) = false ∨ ((wy != 0) = true ∧ (wy != t.assoc) = false) := by
            rw [bne_eq_false_iff_eq, bne_eq_false_iff_eq, bne_iff_ne]
            by_cases h0 : wy = 0
            · exact .inl h0
            · exact .inr ⟨h0, by by_cases h9 : wy = t.assoc; exact h9; exact absurd ⟨h0, h9⟩ g2⟩
          clear g g2 hd Hk
          rcases hw with d2 | ⟨d2, d3⟩
          all_goals
            go_wp2_with fail
            go_roundw
            case rel => exact ⟨k + 1, t.assoc, by omega, by go_num, rfl, Hend.out.1 _, Hend.out.2 _, by simp; omega, Hnx⟩
            case measure => simp [intOf]; omega
      · have Hnx : Hid (levelB G.terms n = levelGo n (G.terms.drop (k + 1)) wy) := Lib.hid (by rw [Hk.out, hd, levelGo, if_neg g])
        have d1 : (t.level != n) = true := by rw [bne_iff_ne]; exact g
        clear g hd Hk
        go_wp2_with fail
        go_roundw
        case rel => exact ⟨k + 1, wy, by omega, by go_num, rfl, Hend.out.1 _, Hend.out.2 _, by simp; omega, Hnx⟩
        case measure => simp [intOf]; omega
    · obtain rfl : k = n1 := by omega
      have Hfin : Hid (levelB G.terms n = decide (wy ≠ 0)) := Lib.hid (by rw [Hk.out, List.drop_of_length_le (by omega)]; rfl)
      have hw : ((wy != 0) = true ∧ wy ≠ 0) ∨ ((wy != 0) = false ∧ wy = 0) := by
        rw [bne_eq_false_iff_eq, bne_iff_ne]
        by_cases h0 : wy = 0
        · exact .inr ⟨h0, h0⟩
        · exact .inl ⟨h0, h0⟩
      rcases hw with ⟨d, h0⟩ | ⟨d, h0⟩
      all_goals
        have H0 := Lib.hid h0
        clear h0
        go_wp2_with fail
        go_ret
        exact ⟨by rw [Hfin.out]; simp [H0.out], hB⟩
end Go.Proofs.YtfdbpafenhdkbaaGreatDoor
