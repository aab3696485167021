/- grammars: a clone of strings; what the program's Right says, in plain words. -/
import Derived.Test.YtfdbpafenhdkbaaGreatDoorQGrC3
import Derived.Test.YtfdbpafenhdkbaaGreatDoorQGrShelf
namespace Go.Proofs.YtfdbpafenhdkbaaGreatDoor
open Go.RowKit
set_option linter.unusedVariables false
set_option linter.unusedSimpArgs false

theorem clone_strs (A : Option Addr) (n c : Nat) (zs : List ByteArray) (w : World) (h : Strs w A n c zs) (hn : n ≤ 1000) :
    Calls Tryz.prog 47 #[.slice A n c] w fun e w' => ∃ A' c', e = .returned (.slice A' n c') ∧ w'.ownsRow w.heap.size 9 1 (.slice A' n c') n (zs.map Value.string) ∧ Below w.heap.size w w' := by
  obtain rfl := h.len
  cases A with
  | none =>
    have hz : zs = [] := by
      cases zs with
      | nil => rfl
      | cons z zs =>
        obtain ⟨b, off, e, _⟩ := h.2.2.2 (by simp)
        cases e
    subst hz
    refine (Tryz.slices_Clone_string_nil 0 c w).mono ?_
    rintro e w' ⟨rfl, rfl⟩
    exact ⟨none, 0, rfl, World.ownsRow_nil w' _ _ _, Below.refl _ _⟩
  | some a =>
    by_cases h0 : zs.length = 0
    · have hz := List.eq_nil_of_length_eq_zero h0
      subst hz
      refine (Tryz.slices_Clone_string_zero a c w).mono ?_
      rintro e w' ⟨v', rfl, ho, _, hb⟩
      obtain ⟨A', c', rfl⟩ := own_form ho
      exact ⟨A', c', rfl, ho, hb⟩
    · obtain ⟨b, off, s, e, hb, _, _⟩ := h.get (j := 0) (by omega)
      injection e with e
      subst e
      have hc : ∀ j, j < zs.length → w.cell? ⟨b, off + j, none⟩ = some (.string (zs.getD j ByteArray.empty)) := fun j hj => by
        obtain ⟨b2, off2, s2, e2, _, Hs, hc2⟩ := h.get hj
        injection e2 with e2
        injection e2 with e3 e4
        subst e3 e4
        rw [hc2, List.getD_eq_getElem?_getD, Hs.out]; rfl
      refine (Tryz.slices_Clone_string b off zs.length c zs w (Nat.le_refl _) (by omega) hc).mono ?_
      rintro e w' ⟨v', rfl, ho, _, hb⟩
      obtain ⟨A', c', rfl⟩ := own_form ho
      rw [List.take_of_length_le (Nat.le_refl _)] at ho
      exact ⟨A', c', rfl, ho, hb⟩

/-! ### plain -/
theorem nodup_find {β : Type} (f : β → ByteArray) (l : List β) : (l.map f).Nodup ↔ ∀ (i : Nat) x, l[i]? = some x → findI (fun y => decide (f y = f x)) l = (i : Int) := by
  constructor
  · intro hn i x hx
    refine findI_at hx (by simp) fun j hj y hy => ?_
    rw [decide_eq_false_iff_not]
    intro he
    have := List.pairwise_iff_getElem.1 hn j i (by rw [List.length_map]; exact (List.getElem?_eq_some_iff.1 hy).1) (by rw [List.length_map]; exact (List.getElem?_eq_some_iff.1 hx).1) hj
    rw [List.getElem_map, List.getElem_map] at this
    obtain ⟨h1, e1⟩ := List.getElem?_eq_some_iff.1 hy
    obtain ⟨h2, e2⟩ := List.getElem?_eq_some_iff.1 hx
    rw [e1, e2] at this
    exact this he
  · intro h
    refine List.pairwise_iff_getElem.2 fun i j hi hj hij => ?_
    rw [List.length_map] at hi hj
    rw [List.getElem_map, List.getElem_map]
    intro he
    have h1 := h j l[j] (List.getElem?_eq_getElem hj)
    obtain ⟨x, hx, hp, hmin⟩ := findI_pos h1
    have := hmin i hij l[i] (List.getElem?_eq_getElem hi)
    simp [he] at this
theorem findI_lt {α : Type} {p : α → Bool} {l : List α} : findI p l < 0 ↔ ∀ x ∈ l, p x = false := by
  constructor
  · intro h x hx
    obtain ⟨j, hj⟩ := List.getElem?_of_mem hx
    exact findI_neg h j x hj
  · intro h
    rw [findI_none fun j y hy => h y (List.mem_of_getElem? hy)]; omega
theorem allI_iff {α : Type} {p : Nat → α → Bool} {l : List α} : allI p l = true ↔ ∀ (j : Nat) y, l[j]? = some y → p j y = true := ⟨fun h j y hy => allI_get h hy, allI_true⟩

def Gr.names (G : Gr) : List ByteArray := G.nons ++ G.terms.map Trm.name
/-- what the program asks of a grammar ahead of its rules -/
def Gr.aheadP (G : Gr) : Bool := termsP G.terms && withinB G.nons.length 1 16 && withinB G.rules.length 1 40 && decide G.names.Nodup && withinB G.start 0 ((G.nons.length : Int) - 1)
def Gr.rightP (G : Gr) : Bool := G.aheadP && !(G.nons.any fun s => !nameB (bytesOf s)) && decide (G.leftsGo G.rules (-1) = some ((G.nons.length : Int) - 1))

theorem names_nodup (G : Gr) : G.names.Nodup ↔ (∀ (i : Nat) s, G.nons[i]? = some s → G.non s = (i : Int) ∧ G.term s < 0) ∧ ∀ (i : Nat) t, G.terms[i]? = some t → G.term t.name = (i : Int) := by
  unfold Gr.names
  rw [List.nodup_append]
  have e1 := nodup_find id G.nons
  have e2 := nodup_find Trm.name G.terms
  rw [List.map_id] at e1
  rw [e1, e2]
  constructor
  · rintro ⟨h1, h2, h3⟩
    refine ⟨fun i s hs => ⟨h1 i s hs, findI_lt.2 fun t ht => ?_⟩, h2⟩
    rw [decide_eq_false_iff_not]
    intro he
    exact h3 s (List.mem_of_getElem? hs) t.name (List.mem_map_of_mem ht) he.symm
  · rintro ⟨h1, h2⟩
    refine ⟨fun i s hs => (h1 i s hs).1, h2, fun s hs n hn he => ?_⟩
    obtain ⟨t, ht, rfl⟩ := List.mem_map.1 hn
    obtain ⟨i, hi⟩ := List.getElem?_of_mem hs
    have := findI_lt.1 (h1 i s hi).2 t ht
    simp [he] at this

theorem right_same (G : Gr) : G.rightP = G.right := by
  rw [Bool.eq_iff_iff]
  unfold Gr.rightP Gr.right Gr.aheadP Gr.termsOK Gr.nonsOK termsP withinB
  simp only [Bool.and_eq_true, decide_eq_true_eq, List.all_eq_true, names_nodup, allI_iff, Gr.termOK, Gr.nonOK, Bool.not_eq_true', List.any_eq_false, Bool.not_eq_true, Bool.not_eq_false']
  constructor
  · rintro ⟨⟨⟨⟨⟨⟨⟨h1, h2, h3⟩, h4⟩, h5⟩, h6, h7⟩, h8⟩, h9⟩, h10⟩
    rw [levels_same _ h1, List.all_eq_true] at h3
    exact ⟨⟨⟨⟨⟨h2, fun j t ht => ⟨⟨h7 j t ht, h1 t (List.mem_of_getElem? ht)⟩, h3 t (List.mem_of_getElem? ht)⟩⟩, by omega, fun j s hs => ⟨⟨by simpa using h9 s (List.mem_of_getElem? hs), (h6 j s hs).1⟩, (h6 j s hs).2⟩⟩, by omega⟩, by omega⟩, h10⟩
  · rintro ⟨⟨⟨⟨⟨h1, h2⟩, h3, h4⟩, h5⟩, h6⟩, h7⟩
    have hb : ∀ t ∈ G.terms, basicT t = true := fun t ht => by
      obtain ⟨j, hj⟩ := List.getElem?_of_mem ht
      exact (h2 j t hj).1.2
    refine ⟨⟨⟨⟨⟨⟨⟨hb, h1, ?_⟩, by omega⟩, by omega⟩, fun i s hs => ⟨(h4 i s hs).1.2, (h4 i s hs).2⟩, fun i t ht => (h2 i t ht).1.1⟩, by omega⟩, fun s hs => ?_⟩, h7⟩
    · rw [levels_same _ hb, List.all_eq_true]
      intro t ht
      obtain ⟨j, hj⟩ := List.getElem?_of_mem ht
      exact (h2 j t hj).2
    · obtain ⟨j, hj⟩ := List.getElem?_of_mem hs
      simpa using (h4 j s hj).1.1
end Go.Proofs.YtfdbpafenhdkbaaGreatDoor

namespace Go.Proofs.YtfdbpafenhdkbaaGreatDoor
open Go.RowKit
set_option linter.unusedVariables false
set_option linter.unusedSimpArgs false

theorem Tryz.infoStr : (Tryz.prog.info? 9).map (fun i => (i.zero, i.size, i.bytes)) = some (some (.string ByteArray.empty), 1, 16) := by kernel_rfl

theorem names_take (G : Gr) {k : Nat} {t : Trm} (ht : G.terms[k]? = some t) : (G.nons ++ (G.terms.take (k + 1)).map Trm.name).map Value.string = (G.nons ++ (G.terms.take k).map Trm.name).map Value.string ++ [.string t.name] := by
  rw [List.take_add_one, ht]; simp

/-- the rules' loop, plainly -/
theorem leftsP_bad (G : Gr) {k : Nat} {r : Rul} {T : Int} (hr : G.rules[k]? = some r) (h : G.leftsGo (G.rules.take k) (-1) = some T) (hb : (withinB r.left 0 (T + 1) && G.ruleOK r) = false) : G.rightP = false := by
  have h1 : G.leftsGo (G.rules.take (k + 1)) (-1) = none := by
    rw [List.take_add_one, hr, Option.toList_some, Gr.leftsGo_snoc, h]
    simp only [Option.bind_some]
    rw [if_neg]
    rintro ⟨a, b, c⟩
    rw [c] at hb
    unfold withinB at hb
    simp [a, b] at hb
  have h2 := Gr.leftsGo_none G (G.rules.take (k + 1)) (G.rules.drop (k + 1)) (-1) h1
  rw [List.take_append_drop] at h2
  unfold Gr.rightP
  rw [h2]; simp
theorem leftsP_good (G : Gr) {k : Nat} {r : Rul} {T : Int} (hr : G.rules[k]? = some r) (h : G.leftsGo (G.rules.take k) (-1) = some T) (h0 : withinB r.left 0 (T + 1) = true) (h1 : G.ruleOK r = true) : G.leftsGo (G.rules.take (k + 1)) (-1) = some (max T r.left) := by
  rw [List.take_add_one, hr, Option.toList_some, Gr.leftsGo_snoc, h]
  simp only [Option.bind_some]
  have := withinB_true h0
  rw [if_pos ⟨this.1, this.2, h1⟩]

set_option maxHeartbeats 4000000 in
theorem cf_Right (h : GH) (G : Gr) (w : World) (hg : GrAt w h G) (hs : ∀ t ∈ G.terms, t.name.size ≤ maxLen) (h1 : h.n1 ≤ 100) (h2 : h.n2 ≤ 100) :
    Calls Tryz.prog 26 #[GV h G.start] w fun e w' => e = .returned (.bool G.right) ∧ Below w.heap.size w w' := by
  rw [← right_same]
  obtain ⟨a1, n1, c1, a2, n2, c2, a3, n3, c3⟩ := h
  have e1 : G.terms.length = n1 := hg.terms.len
  have e2 : G.nons.length = n2 := hg.nons.len
  have e3 : G.rules.length = n3 := hg.rules.len
  have k1 := hg.terms.cap
  have k3 := hg.rules.cap
  simp only [] at h1 h2 k1 k3
  have Hg := Lib.hid hg
  have Hs := Lib.hid hs
  have Hfin : Hid (G.rightP = (G.aheadP && !(G.nons.any fun s => !nameB (bytesOf s)) && decide (G.leftsGo G.rules (-1) = some ((n2 : Int) - 1)))) := Lib.hid (by unfold Gr.rightP; rw [e2])
  have Hah : Hid (G.aheadP = (termsP G.terms && withinB n2 1 16 && withinB n3 1 40 && decide G.names.Nodup && withinB G.start 0 ((n2 : Int) - 1))) := Lib.hid (by unfold Gr.aheadP; rw [e2, e3])
  clear hs
  have hB0 := alloc_below w (.cells #[.slice a1 n1 c1, .slice a2 n2 c2, .slice a3 n3 c3, .int .i64 G.start] 26)
  have hbox := GBox.new w 26 ⟨a1, n1, c1, a2, n2, c2, a3, n3, c3⟩ G.start
  go_enter Tryz.func26, Tryz.ntmps26
  have ⟨z5, z0, z1, z2, z3⟩ := hbox
  simp only [] at z0 z1 z2 z3
  go_wp2_with fail
  generalize w.alloc (.cells #[.slice a1 n1 c1, .slice a2 n2 c2, .slice a3 n3 c3, .int .i64 G.start] 26) = W0 at *
  have hG0 := Hg.out.below hB0
  (with_reducible refine (clone_strs a2 n2 c2 G.nons W0 hG0.nons (by omega)).mono ?_)
  rintro e w2 ⟨A2, C2, rfl, hown, hbel⟩
  have hbx2 := hbox.below hbel
  have ⟨y5, y0, y1, y2, y3⟩ := hbx2
  simp only [] at y0 y1 y2 y3
  clear z0 z1 z2 z3
  go_wp2_with fail
  go_loopw [3, 5, 15] (fun v _ i wr => ∃ (k : Nat) (A : Option Addr) (c : Nat), k ≤ n1 ∧ i = .int .i64 (k : Int) ∧ v = .slice A (n2 + k) c ∧ wr.ownsRow W0.heap.size 9 1 (.slice A (n2 + k) c) (n2 + k) ((G.nons ++ (G.terms.take k).map Trm.name).map Value.string) ∧ Below W0.heap.size W0 wr) (fun _ _ i _ => n1 - (intOf i).toNat)
  case atStart => exact ⟨0, A2, C2, Nat.zero_le _, rfl, rfl, by simpa using hown, hbel⟩
  case round =>
    clear hown hbel hbx2 y0 y1 y2 y3 y5
    obtain ⟨k, A, c, hk, rfl, rfl, hown, hbel⟩ := hrel
    by_cases hkk : k < n1
    · obtain ⟨b, off, t, rfl, hb, Ht, q0, q1, q2⟩ := hG0.terms.get hkk
      rw [← hbel.cell (by exact hb)] at q0 q1 q2
      have hbs : W0.heap.size ≤ wr.heap.size := hbel.size
      have hB1 := hbel.alloc hbs (.cells #[.string t.name, .int .i64 t.level, .int .i64 t.assoc] 71)
      have hown1 := hown.alloc (.cells #[.string t.name, .int .i64 t.level, .int .i64 t.assoc] 71)
      have p0 := alloc_cell wr 71 #[.string t.name, .int .i64 t.level, .int .i64 t.assoc] 0
      have p5 := alloc_size wr (.cells #[.string t.name, .int .i64 t.level, .int .i64 t.assoc] 71)
      simp only [List.getElem?_toArray, List.getElem?_cons_zero, List.getElem?_cons_succ] at p0
      have hbs1 : W0.heap.size ≤ (wr.alloc (.cells #[.string t.name, .int .i64 t.level, .int .i64 t.assoc] 71)).heap.size := by omega
      go_wp2_with (at_builtin; refine wpl_append1 (w := wr.alloc (.cells #[.string t.name, .int .i64 t.level, .int .i64 t.assoc] 71)) rfl _ _ 23 rfl W0.heap.size 9 (.string ByteArray.empty) 16 Tryz.underlying23 Tryz.infoStr rfl _ (n2 + k) _ _ rfl hown1 (.string t.name) (by rw [p5]; rfl) rfl (by omega) (by omega) (by omega) ?_; intro A4 c4 w4 ho hgr)
      go_roundw
      case rel => exact ⟨k + 1, A4, c4, by omega, by go_num, by rw [Nat.add_assoc], by rw [names_take G Ht.out]; exact ho, below_append hB1 hgr hown1 hbs1⟩
      case measure => simp [intOf]; omega
    · obtain rfl : k = n1 := by omega
      rw [List.take_of_length_le (by omega)] at hown
      have hnm : Strs wr A (n2 + k) c G.names := own_sl hown
      have hBw := hB0.trans (hbel.mono hB0.size)
      have hbx := hbox.below hbel
      have ⟨x5, x0, x1, x2, x3⟩ := hbx
      simp only [] at x0 x1 x2 x3
      have hbx3 : ∀ w3, Below wr.heap.size wr w3 → GBox w3 w.heap.size ⟨a1, k, c1, a2, n2, c2, a3, n3, c3⟩ G.start := fun w3 hb => hbx.below hb
      have CT := Lib.hid ((cf_terms a1 k c1 G.terms wr (hG0.terms.below hbel) (by omega) Hs.out).mono fun e w' hh => And.intro hh.1 (And.intro (bcell hh.2).1 (Lib.hid hh.2)))
      have cA := fun w3 (hb : Below wr.heap.size wr w3) => (cf_alone A (n2 + k) c G.names w3 (hnm.below hb) (by omega)).mono fun e w' hh => And.intro hh.1 (And.intro (bcell hh.2).1 (Lib.hid (below_tail hb hh.2)))
      have cW1 := fun w => cf_within (n2 : Int) 1 16 w
      have cW2 := fun w => cf_within (n3 : Int) 1 40 w
      have cW3 := fun w => cf_within G.start 0 ((n2 : Int) - 1) w
      have hx2 : withinB (n2 : Int) 1 16 = true → 1 ≤ (n2 : Int) ∧ (n2 : Int) ≤ 16 := withinB_true
      have hx3 : withinB (n3 : Int) 1 40 = true → 1 ≤ (n3 : Int) ∧ (n3 : Int) ≤ 40 := withinB_true
      have hs0 : IntKind.i64.wrap ((n2 : Int) - 1) = (n2 : Int) - 1 := IntWalk.i64_in _ (by omega)
      have Hst := Lib.hid hG0
      generalize termsP G.terms = b1 at *
      generalize withinB (n2 : Int) 1 16 = b2 at *
      generalize withinB (n3 : Int) 1 40 = b3 at *
      generalize decide G.names.Nodup = b4 at *
      generalize withinB G.start 0 ((n2 : Int) - 1) = b5 at *
      have CA := Lib.hid cA
      have CW1 := Lib.hid cW1
      have CW2 := Lib.hid cW2
      have CW3 := Lib.hid cW3
      have Hx2 := Lib.hid hx2
      have Hx3 := Lib.hid hx3
      have Hbx3 := Lib.hid hbx3
      have HBw := Lib.hid hBw
      clear cA cW1 cW2 cW3 hx2 hx3 hbx3 hBw hown hg hnm hbx hkk hk
      have hways : ((b1 = false) ∨ (b1 = true ∧ b2 = false) ∨ (b1 = true ∧ b2 = true ∧ b3 = false) ∨ (b1 = true ∧ b2 = true ∧ b3 = true ∧ b4 = false) ∨ (b1 = true ∧ b2 = true ∧ b3 = true ∧ b4 = true ∧ b5 = false)) ∨ (b1 = true ∧ b2 = true ∧ b3 = true ∧ b4 = true ∧ b5 = true) := by cases b1 <;> cases b2 <;> cases b3 <;> cases b4 <;> cases b5 <;> simp
      rcases hways with hbad | ⟨rfl, rfl, rfl, rfl, rfl⟩
      · have Hf0 : Hid (G.rightP = false) := Lib.hid (by
          rw [Hfin.out, Hah.out]
          rcases hbad with rfl | ⟨rfl, rfl⟩ | ⟨rfl, rfl, rfl⟩ | ⟨rfl, rfl, rfl, rfl⟩ | ⟨rfl, rfl, rfl, rfl, rfl⟩ <;> simp)
        rcases hbad with rfl | ⟨rfl, rfl⟩ | ⟨rfl, rfl, rfl⟩ | ⟨rfl, rfl, rfl, rfl⟩ | ⟨rfl, rfl, rfl, rfl, rfl⟩
        all_goals
          go_wp2_with (first
            | (go_at_call 48; (with_reducible refine CT.out.mono ?_); rintro e w3 ⟨rfl, hc3, Hb3⟩; have p1 := (hc3 _ 1 x5).trans x1; have p2 := (hc3 _ 2 x5).trans x2; have p3 := (hc3 _ 3 x5).trans x3)
            | (go_at_call 49; (with_reducible refine (CW1.out _).mono ?_); rintro e w4 ⟨rfl, rfl⟩)
            | (go_at_call 49; (with_reducible refine (CW2.out _).mono ?_); rintro e w5 ⟨rfl, rfl⟩)
            | (go_at_call 49; (with_reducible refine (CW3.out _).mono ?_); rintro e w6 ⟨rfl, rfl⟩)
            | (go_at_call 50; (with_reducible refine (CA.out _ Hb3.out).mono ?_); rintro e w7 ⟨rfl, hc7, Hb7⟩; have r1 := (hc7 _ 1 (Nat.lt_of_lt_of_le x5 Hb3.out.size)).trans p1; have r3 := (hc7 _ 3 (Nat.lt_of_lt_of_le x5 Hb3.out.size)).trans p3))
          go_ret
          first
            | exact ⟨by rw [Hf0.out]; rfl, below_tail HBw.out Hb7.out⟩
            | exact ⟨by rw [Hf0.out]; rfl, below_tail HBw.out Hb3.out⟩
      · have Hf1 : Hid (G.rightP = (!(G.nons.any fun s => !nameB (bytesOf s)) && decide (G.leftsGo G.rules (-1) = some ((n2 : Int) - 1)))) := Lib.hid (by rw [Hfin.out, Hah.out]; simp)
        have hn2 := Hx2.out rfl
        have hn3 := Hx3.out rfl
        have hC := fun w3 (hb : Below wr.heap.size wr w3) => (sl_contains_strs a2 n2 c2 G.nons 52 #[] (fun s => !nameB (bytesOf s)) w3 enters_right1 ((Hst.out.nons.below hbel).below hb) (fun s _ w' _ => (cf_right1 s w').mono fun e w' hh => ⟨hh.1, by rw [← hh.2]; exact Below.refl _ _⟩)).mono fun e w' hh => And.intro hh.1 (And.intro (bcell hh.2).1 (Lib.hid (below_tail hb hh.2)))
        generalize (G.nons.any fun s => !nameB (bytesOf s)) = b6 at *
        have HC := Lib.hid hC
        clear hC
        rcases (by cases b6 <;> simp : b6 = true ∨ b6 = false) with rfl | rfl
        · go_wp2_with (first
            | (go_at_call 48; (with_reducible refine CT.out.mono ?_); rintro e w3 ⟨rfl, hc3, Hb3⟩; have p1 := (hc3 _ 1 x5).trans x1; have p2 := (hc3 _ 2 x5).trans x2; have p3 := (hc3 _ 3 x5).trans x3)
            | (go_at_call 49; (with_reducible refine (CW1.out _).mono ?_); rintro e w4 ⟨rfl, rfl⟩)
            | (go_at_call 49; (with_reducible refine (CW2.out _).mono ?_); rintro e w5 ⟨rfl, rfl⟩)
            | (go_at_call 49; (with_reducible refine (CW3.out _).mono ?_); rintro e w6 ⟨rfl, rfl⟩)
            | (go_at_call 50; (with_reducible refine (CA.out _ Hb3.out).mono ?_); rintro e w7 ⟨rfl, hc7, Hb7⟩; have r1 := (hc7 _ 1 (Nat.lt_of_lt_of_le x5 Hb3.out.size)).trans p1; have r3 := (hc7 _ 3 (Nat.lt_of_lt_of_le x5 Hb3.out.size)).trans p3)
            | (go_at_call 51; (with_reducible refine (HC.out _ Hb7.out).mono ?_); rintro e w8 ⟨rfl, hc8, Hb8⟩))
          go_ret
          exact ⟨by rw [Hf1.out]; rfl, below_tail HBw.out Hb8.out⟩
        · have Hf2 : Hid (G.rightP = decide (G.leftsGo G.rules (-1) = some ((n2 : Int) - 1))) := Lib.hid (by rw [Hf1.out]; simp)
          go_wp2_with (first
            | (go_at_call 48; (with_reducible refine CT.out.mono ?_); rintro e w3 ⟨rfl, hc3, Hb3⟩; have p1 := (hc3 _ 1 x5).trans x1; have p2 := (hc3 _ 2 x5).trans x2; have p3 := (hc3 _ 3 x5).trans x3)
            | (go_at_call 49; (with_reducible refine (CW1.out _).mono ?_); rintro e w4 ⟨rfl, rfl⟩)
            | (go_at_call 49; (with_reducible refine (CW2.out _).mono ?_); rintro e w5 ⟨rfl, rfl⟩)
            | (go_at_call 49; (with_reducible refine (CW3.out _).mono ?_); rintro e w6 ⟨rfl, rfl⟩)
            | (go_at_call 50; (with_reducible refine (CA.out _ Hb3.out).mono ?_); rintro e w7 ⟨rfl, hc7, Hb7⟩; have r1 := (hc7 _ 1 (Nat.lt_of_lt_of_le x5 Hb3.out.size)).trans p1; have r3 := (hc7 _ 3 (Nat.lt_of_lt_of_le x5 Hb3.out.size)).trans p3)
            | (go_at_call 51; (with_reducible refine (HC.out _ Hb7.out).mono ?_); rintro e w8 ⟨rfl, hc8, Hb8⟩; have ⟨v5, v0, v1, v2, v3⟩ := Hbx3.out w8 Hb8.out; simp only [] at v0 v1 v2 v3))
          have hbx8 := Hbx3.out w8 Hb8.out
          have hB8 := below_tail HBw.out Hb8.out
          clear v5 v0 v1 v2 v3 p1 p2 p3 r1 r3 hc3 hc7 hc8 x5 x0 x1 x2 x3
          go_loopw [6, 8, 64] (fun nx _ i wz => ∃ (k3 : Nat) (T : Int), k3 ≤ n3 ∧ i = .int .i64 (k3 : Int) ∧ nx = .int .i64 (T + 1) ∧ -1 ≤ T ∧ T ≤ 1000 ∧ Hid (G.leftsGo (G.rules.take k3) (-1) = some T) ∧ Below w.heap.size w wz ∧ GBox wz w.heap.size ⟨a1, k, c1, a2, n2, c2, a3, n3, c3⟩ G.start) (fun _ _ i _ => n3 - (intOf i).toNat)
          case atStart => exact ⟨0, -1, Nat.zero_le _, rfl, rfl, by omega, by omega, Lib.hid rfl, hB8, hbx8⟩
          case round =>
            clear hbx8 hB8
            obtain ⟨k3, T, hk3, rfl, rfl, hT1, hT2, HT, hB, hbx⟩ := hrel
            have ⟨z5', z0, z1, z2, z3⟩ := hbx
            simp only [] at z0 z1 z2 z3
            by_cases hkk : k3 < n3
            · obtain ⟨b, off, r, Ar, cr, rfl, hb, Hr, q0, q1, q2, hrr⟩ := Hg.out.rules.get hkk
              rw [← hB.cell (by exact hb)] at q0 q1 q2
              have hrw := Hg.out.wf r (List.mem_of_getElem? Hr.out)
              have hB1 := hB.alloc hB.size (.cells #[.int .i64 r.left, .slice Ar r.right.length cr, .int .i64 r.prec] 51)
              have hx1 := hbx.below (alloc_below wr (.cells #[.int .i64 r.left, .slice Ar r.right.length cr, .int .i64 r.prec] 51))
              have hy1 := RBox.new wr 51 r.left Ar r.right.length cr r.prec
              have p5 := alloc_size wr (.cells #[.int .i64 r.left, .slice Ar r.right.length cr, .int .i64 r.prec] 51)
              go_wp2_with fail
              generalize wr.alloc (.cells #[.int .i64 r.left, .slice Ar r.right.length cr, .int .i64 r.prec] 51) = W1 at *
              have ⟨s5, s0, s1, s2, s3⟩ := hx1
              have ⟨u5, u0, u1, u2⟩ := hy1
              simp only [] at s0 s1 s2 s3 u0 u1 u2
              clear q0 q1 q2 z0 z1 z2 z3 hbx
              generalize wr.heap.size = gr at *
              have cR := cf_rule ⟨a1, k, c1, a2, n2, c2, some ⟨b, off, none⟩, n3, c3⟩ G r Ar cr W1 (Hg.out.below hB1) (hrr.below hB1) hrw (by simp only []; omega) (by simp only []; omega)
              have cW := fun w => cf_within r.left 0 (T + 1) w
              have hbad := @leftsP_bad G k3 r T Hr.out HT.out
              have hgood := @leftsP_good G k3 r T Hr.out HT.out
              have hwt : withinB r.left 0 (T + 1) = true → 0 ≤ r.left ∧ r.left ≤ T + 1 := withinB_true
              generalize withinB r.left 0 (T + 1) = b7 at *
              generalize G.ruleOK r = b8 at *
              have CR := Lib.hid (cR.mono fun e w' hh => And.intro hh.1 (And.intro (bcell hh.2).1 (Lib.hid hh.2)))
              have CW := Lib.hid cW
              have Hbad := Lib.hid hbad
              have Hgood := Lib.hid hgood
              have Hwt := Lib.hid hwt
              have HB1 := Lib.hid hB1
              have Hx1 := Lib.hid hx1
              clear cR cW hbad hgood hwt hrw hrr hB1 hx1 hy1
              rcases (by cases b7 <;> cases b8 <;> simp : (b7 = false) ∨ (b7 = true ∧ b8 = false) ∨ (b7 = true ∧ b8 = true)) with rfl | ⟨rfl, rfl⟩ | ⟨rfl, rfl⟩
              · go_wp2_with (go_at_call 49; (with_reducible refine (CW.out _).mono ?_); rintro e w9 ⟨rfl, rfl⟩)
                go_ret
                exact ⟨by rw [Hbad.out rfl]; rfl, HB1.out⟩
              · go_wp2_with (first
                  | (go_at_call 49; (with_reducible refine (CW.out _).mono ?_); rintro e w9 ⟨rfl, rfl⟩)
                  | (go_at_call 54; (with_reducible refine CR.out.mono ?_); rintro e w10 ⟨rfl, hc10, Hb10⟩))
                go_ret
                exact ⟨by rw [Hbad.out rfl]; rfl, below_tail HB1.out Hb10.out⟩
              · have hwl := Hwt.out rfl
                have hT' := Hgood.out rfl rfl
                have hbd := G.leftsGo_bd _ _ _ (by omega) hT'
                have hlt : (G.rules.take (k3 + 1)).length ≤ 40 := by rw [List.length_take]; omega
                have HT' := Lib.hid hT'
                clear hT'
                have hmx : max (T + 1) (r.left + 1) = max T r.left + 1 := by omega
                go_wp2_with (first
                  | (go_at_call 49; (with_reducible refine (CW.out _).mono ?_); rintro e w9 ⟨rfl, rfl⟩)
                  | (go_at_call 54; (with_reducible refine CR.out.mono ?_); rintro e w10 ⟨rfl, hc10, Hb10⟩; have v0 := (hc10 _ 0 u5).trans u0))
                go_roundw
                case rel => exact ⟨k3 + 1, max T r.left, by omega, by go_num, rfl, by omega, by omega, HT', below_tail HB1.out Hb10.out, Hx1.out.below Hb10.out⟩
                case measure => simp [intOf]; omega
            · obtain rfl : k3 = n3 := by omega
              have HT2 := HT.out
              rw [List.take_of_length_le (by omega)] at HT2
              have Hf3 : Hid (G.rightP = (T + 1 == (n2 : Int))) := Lib.hid (by
                rw [Hf2.out, HT2, Bool.eq_iff_iff, decide_eq_true_iff, beq_iff_eq]
                constructor
                · intro h; injection h with h; omega
                · intro h; congr 1; omega)
              clear HT2
              go_wp2_with fail
              go_ret
              exact ⟨by rw [Hf3.out]; rfl, hB⟩
end Go.Proofs.YtfdbpafenhdkbaaGreatDoor
