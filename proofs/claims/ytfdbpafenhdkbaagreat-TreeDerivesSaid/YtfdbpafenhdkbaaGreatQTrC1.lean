/- slices.Grow and slices.Concat of slices of integers, walked. -/
import Derived.Test.YtfdbpafenhdkbaaGreatQTrP
import Derived.Lib.AppendZerosOnto
namespace Go.Proofs.YtfdbpafenhdkbaaGreat
open Go.RowKit
set_option linter.unusedVariables false
set_option linter.unusedSimpArgs false

theorem Tryz.infoI64 : (Tryz.prog.info? 3).map (fun i => (i.zero, i.size, i.bytes)) = some (some (.int .i64 0), 1, 8) := by kernel_rfl
set_option maxRecDepth 20000 in
set_option maxHeartbeats 1000000 in
theorem sl_grow (n : Nat) (hn : n ≤ 100000) (w : World) :
    Calls Tryz.prog 79 #[.slice none 0 0, .int .i64 (n : Int)] w fun e w' => ∃ A c, e = .returned (.slice A 0 c) ∧ w'.ownsRow w.heap.size 3 1 (.slice A 0 c) 0 [] ∧ Below w.heap.size w w' := by
  have h1 : ¬ ((n : Int) < 0) := by omega
  have h2 : IntKind.i64.wrap ((0 : Int) - 0) = 0 := by decide
  have h3 : IntKind.i64.wrap ((n : Int) - 0) = (n : Int) := IntWalk.i64_in _ (by omega)
  rcases Nat.eq_zero_or_pos n with rfl | hpos
  · go_enter Tryz.func79, Tryz.ntmps79
    go_wp2_with fail
    go_ret
    exact ⟨none, 0, rfl, World.ownsRow_nil _ _ _ _, Below.refl _ _⟩
  · obtain ⟨i0, hi0, hz0, hs0, hb0⟩ := info_parts Tryz.infoI64
    have hold : (Builtin.firstCells i0.size 0 (.slice none 0 0)).run Tryz.prog w.drew = .ok ([] : List Value).toArray w.drew := run_firstCells_none w.drew i0.size 0 0 0
    have hrz : ∀ ty, (Builtin.append_ #[32, 3] ty #[.slice none 0 0, .int .i64 (n : Int)]).run Tryz.prog w =
        .ok (.slice (some ⟨w.heap.size, 0, none⟩) (0 + n) (grownCap w (0 + n) 0 3)) (w.drew.alloc (.cells (([] : List Value).toArray ++ Builtin.zeroCells (Value.int .i64 0).cells n ++ Builtin.zeroCells (Value.int .i64 0).cells (grownCap w (0 + n) 0 3 - (0 + n))) 3)) := fun ty =>
      Lib.run_append_grow_zeros w 32 3 ty 3 i0 (.int .i64 0) .i64 .i64 Tryz.underlying32 Tryz.underlying3 hi0 hz0 none 0 0 [] hold n hpos (by rw [hs0]; decide) (by omega) (by omega)
        (by rw [hb0]; omega) (by exact growslice_fits (by omega) (by rw [hb0]; omega))
    rw [Nat.zero_add] at hrz
    have hGn : n ≤ grownCap w n 0 3 := grownCap_ge w _ _ _
    have hG63 : grownCap w n 0 3 ≤ maxLen := grownCap_le_maxLen w n 0 3 (by unfold maxLen; omega)
    generalize grownCap w n 0 3 = G at *
    have hG64 : G ≤ 9223372036854775807 := by unfold maxLen at hG63; omega
    clear hold
    go_enter Tryz.func79, Tryz.ntmps79
    go_wp2_with (at_builtin; refine Lib.wpList_append_run _ rfl _ _ _ _ rfl _ _ rfl rfl _ _ (hrz _) ?_)
    all_goals
      go_ret
      refine ⟨some ⟨w.heap.size, 0, none⟩, G, rfl, ⟨rfl, .inr ⟨w.heap.size, G, _, rfl, Nat.le_refl _, heap_alloc_new w.drew _, Nat.zero_le _, hG63, ?_, by simp⟩⟩, (Below.refl w.heap.size w).drew.alloc (Nat.le_refl _) _⟩
      simp only [Array.size_append, List.size_toArray, size_zeroCells, List.length_nil]
      simp [Value.cells]
      omega

/-- lists as cells; the blocks of their rows are such as av says -/
def LsCs (w : World) (av : Nat → Prop) (cs : List Value) (ls : List (List Int)) : Prop := cs.length = ls.length ∧ ∀ (j : Nat) (l : List Int), ls[j]? = some l → ∃ Al cl, cs[j]? = some (.slice Al l.length cl) ∧ Ints .i64 w Al l.length cl l ∧ ∀ b off, Al = some ⟨b, off, none⟩ → b < w.heap.size ∧ av b
/-- a slice that reads as lists -/
def Lss (w : World) (A : Option Addr) (n c : Nat) (ls : List (List Int)) : Prop :=
  ls.length = n ∧ n ≤ c ∧ c ≤ 9223372036854775807 ∧ (0 < n → ∃ b off, A = some ⟨b, off, none⟩ ∧ b < w.heap.size ∧ ∀ (j : Nat) (l : List Int), ls[j]? = some l → ∃ Al cl, w.cell? ⟨b, off + j, none⟩ = some (.slice Al l.length cl) ∧ Ints .i64 w Al l.length cl l)
theorem Lss.below {w w' : World} {A : Option Addr} {n c : Nat} {ls : List (List Int)} (h : Lss w A n c ls) (hb : Below w.heap.size w w') : Lss w' A n c ls := by
  refine ⟨h.1, h.2.1, h.2.2.1, fun hn => ?_⟩
  obtain ⟨b, off, e, hlt, hc⟩ := h.2.2.2 hn
  refine ⟨b, off, e, Nat.lt_of_lt_of_le hlt hb.size, fun j l hl => ?_⟩
  rw [hb.cell (p := ⟨b, off + j, none⟩) hlt]
  obtain ⟨Al, cl, h1, h2⟩ := hc j l hl
  exact ⟨Al, cl, h1, h2.below hb⟩
theorem Lss.get {w : World} {A : Option Addr} {n c : Nat} {ls : List (List Int)} (h : Lss w A n c ls) {j : Nat} (hj : j < n) :
    ∃ b off l Al cl, A = some ⟨b, off, none⟩ ∧ b < w.heap.size ∧ Hid (ls[j]? = some l) ∧ w.cell? ⟨b, off + j, none⟩ = some (.slice Al l.length cl) ∧ Ints .i64 w Al l.length cl l := by
  obtain ⟨b, off, e, hlt, hc⟩ := h.2.2.2 (by omega)
  have hl := h.1
  have ht : ls[j]? = some (ls[j]'(by omega)) := List.getElem?_eq_getElem (by omega)
  obtain ⟨Al, cl, h1, h2⟩ := hc j _ ht
  exact ⟨b, off, _, Al, cl, e, hlt, Lib.hid ht, h1, h2⟩
/-- how long they are together -/
def lenS (ls : List (List Int)) : Nat := ls.flatten.length
theorem lenS_take {ls : List (List Int)} {k : Nat} {l : List Int} (h : ls[k]? = some l) : (ls.take (k + 1)).flatten = (ls.take k).flatten ++ l := by
  rw [List.take_add_one, h]
  simp
theorem lenS_le (ls : List (List Int)) (k : Nat) : (ls.take k).flatten.length ≤ ls.flatten.length := by
  have : ls.flatten = (ls.take k).flatten ++ (ls.drop k).flatten := by rw [← List.flatten_append, List.take_append_drop]
  rw [this, List.length_append]
  omega

theorem lenS_step {ls : List (List Int)} {k : Nat} {l : List Int} (h : ls[k]? = some l) : lenS (ls.take (k + 1)) = lenS (ls.take k) + l.length := by
  unfold lenS
  rw [lenS_take h, List.length_append]
theorem lenS_part (ls : List (List Int)) (k : Nat) : lenS (ls.take k) ≤ lenS ls := lenS_le ls k

set_option maxRecDepth 20000 in
set_option maxHeartbeats 1000000 in
theorem sl_concat (A : Option Addr) (n c : Nat) (ls : List (List Int)) (w : World) (h : Lss w A n c ls) (hlen : lenS ls ≤ 100000) (hn : n ≤ 100000) :
    Calls Tryz.prog 56 #[.slice A n c] w fun e w' => ∃ A' c', e = .returned (.slice A' (lenS ls) c') ∧ w'.ownsRow w.heap.size 3 1 (.slice A' (lenS ls) c') (lenS ls) (ints .i64 ls.flatten) ∧ Below w.heap.size w w' := by
  obtain rfl := h.1
  have hcap := h.2.1
  have hcap2 := h.2.2.1
  have H := Lib.hid h
  clear h
  go_enter Tryz.func56, Tryz.ntmps56
  go_wp2_with fail
  go_loopw [3, 11] (fun s i wr => ∃ k : Nat, i = .int .i64 (k : Int) ∧ s = .int .i64 ((lenS (ls.take k) : Nat) : Int) ∧ k ≤ ls.length ∧ w = wr) (fun _ i _ => ls.length - (intOf i).toNat)
  case atStart => exact ⟨0, rfl, rfl, Nat.zero_le _, rfl⟩
  case round =>
    obtain ⟨k, rfl, rfl, hk, rfl⟩ := hrel
    by_cases hkl : k < ls.length
    case pos =>
      obtain ⟨b, off, l, Al, cl, rfl, hb, Hl, q0, hli⟩ := H.out.get hkl
      have hle := lenS_part ls (k + 1)
      have hle2 := lenS_step Hl.out
      have Hs := Lib.hid hle2
      rw [hle2] at hle
      clear hle2 hli
      generalize lenS (ls.take k) = tk at *
      generalize l.length = ll at *
      go_wp2_with fail
      go_roundw
      case rel => exact ⟨k + 1, by go_num, by rw [Hs.out]; go_num, by omega, by trivial⟩
      case measure => simp [intOf]; omega
    case neg =>
      have hkk : k = ls.length := by omega
      have htl : lenS (ls.take k) = lenS ls := by rw [hkk, List.take_of_length_le (Nat.le_refl _)]
      rw [htl]
      have CG := Lib.hid (sl_grow (lenS ls) hlen w)
      clear htl
      go_wp2_with fail
      (with_reducible refine CG.out.mono ?_)
      rintro e w2 ⟨A2, c2, rfl, ho2, hb2⟩
      have Ho2 := Lib.hid ho2
      have Hb2 := Lib.hid hb2
      clear ho2 hb2
      go_wp2_with fail
      go_loopw [6, 27] (fun s i wq => ∃ (j m : Nat) (A3 : Option Addr) (c3 : Nat), i = .int .i64 (j : Int) ∧ s = .slice A3 m c3 ∧ j ≤ ls.length ∧ Hid (m = lenS (ls.take j)) ∧ Hid (wq.ownsRow w.heap.size 3 1 (.slice A3 m c3) m (ints .i64 (ls.take j).flatten)) ∧ Hid (Below w.heap.size w wq)) (fun _ i _ => ls.length - (intOf i).toNat)
      case atStart => exact ⟨0, 0, A2, c2, rfl, rfl, Nat.zero_le _, Lib.hid rfl, Ho2, Hb2⟩
      case round =>
        obtain ⟨j, m, A3, c3, rfl, rfl, hj, Hm, Ho, HB⟩ := hrel
        have hbase : w.heap.size ≤ wr.heap.size := HB.out.size
        by_cases hjl : j < ls.length
        case pos =>
          obtain ⟨b, off, l, Al, cl, rfl, hb, Hl, q0, hli⟩ := (H.out.below HB.out).get hjl
          have hle := lenS_part ls (j + 1)
          have hle2 := lenS_step Hl.out
          rw [hle2, ← Hm.out] at hle
          have Hs := Lib.hid hle2
          have Hli := Lib.hid hli
          have Hfl := Lib.hid (lenS_take Hl.out)
          have hz := Tryz.infoI64
          have Hz := Lib.hid hz
          clear hle2 hli hz
          go_wp2_with (first
            | (at_builtin; refine wpl_append rfl _ _ 32 rfl w.heap.size 3 (.int .i64 0) 8 Tryz.underlying32 Hz.out rfl A3 m c3 (ints .i64 (ls.take j).flatten) rfl Ho.out Al l.length cl (ints .i64 l) rfl Hli.out (ints_one _ _) (by omega) (by omega) hbase ?_; intro A4 c4 w4 ho hgr
               have Ho4 := Lib.hid ho
               have HB4 := Lib.hid (below_append HB.out hgr Ho.out hbase)
               clear ho hgr))
          go_roundw
          case rel => exact ⟨j + 1, m + l.length, A4, c4, by go_num, rfl, by omega, Lib.hid (by rw [Hs.out, Hm.out]), Lib.hid (by rw [Hfl.out, ints_append]; exact Ho4.out), HB4⟩
          case measure => simp [intOf]; omega
        case neg =>
          have hjj : j = ls.length := by omega
          have hml : m = lenS ls := by rw [Hm.out, hjj, List.take_of_length_le (Nat.le_refl _)]
          have hfl : (ls.take j).flatten = ls.flatten := by rw [hjj, List.take_of_length_le (Nat.le_refl _)]
          have Hml := Lib.hid hml
          have Hfl := Lib.hid hfl
          clear hml hfl
          go_wp2_with fail
          go_ret
          refine ⟨A3, c3, by rw [← Hml.out]; rfl, ?_, HB.out⟩
          rw [← Hml.out, ← Hfl.out]
          exact Ho.out
end Go.Proofs.YtfdbpafenhdkbaaGreat

namespace Go.Proofs.YtfdbpafenhdkbaaGreat
open Go.RowKit
set_option linter.unusedVariables false
set_option linter.unusedSimpArgs false

/-- how many nonterminals a right side has -/
def negs (ss : List Int) : Nat := (ss.filter fun s => decide (s < 0)).length
theorem negs_take {ss : List Int} {k : Nat} {s : Int} (h : ss[k]? = some s) : negs (ss.take (k + 1)) = negs (ss.take k) + (if s < 0 then 1 else 0) := by
  unfold negs
  rw [List.take_add_one, h]
  simp only [Option.toList_some, List.filter_append, List.length_append]
  by_cases h0 : s < 0
  · simp [h0]
  · simp [h0]
theorem negs_le (ss : List Int) : negs ss ≤ ss.length := List.length_filter_le _ _
set_option maxHeartbeats 1000000 in
theorem tr_nons (left prec : Int) (Ar : Option Addr) (n cr : Nat) (ss : List Int) (w : World) (h : Ints .i64 w Ar n cr ss) (hn : n ≤ 1000) :
    Calls Tryz.prog 55 #[.agg #[.int .i64 left, .slice Ar n cr, .int .i64 prec]] w fun e w' => e = .returned (.int .i64 ((negs ss : Nat) : Int)) ∧ Below w.heap.size w w' := by
  obtain rfl := h.len
  have hcap := h.cap
  have hB := alloc_below w (.cells #[.int .i64 left, .slice Ar ss.length cr, .int .i64 prec] 41)
  have H := Lib.hid (h.below hB)
  have HB := Lib.hid hB
  clear h hB
  go_enter Tryz.func55, Tryz.ntmps55
  go_wp2_with fail
  generalize w.alloc (.cells #[.int .i64 left, .slice Ar ss.length cr, .int .i64 prec] 41) = W1 at *
  go_loopw [2, 8] (fun v i wr => ∃ k m : Nat, i = .int .i64 (k : Int) ∧ v = .int .i64 (m : Int) ∧ k ≤ ss.length ∧ m ≤ k ∧ Hid (m = negs (ss.take k)) ∧ W1 = wr) (fun _ i _ => ss.length - (intOf i).toNat)
  case atStart => exact ⟨0, 0, rfl, rfl, Nat.zero_le _, Nat.le_refl _, Lib.hid rfl, rfl⟩
  case round =>
    obtain ⟨k, m, rfl, rfl, hk, hm, Hm, rfl⟩ := hrel
    by_cases hkl : k < ss.length
    case pos =>
      obtain ⟨b, off, s, rfl, hb, Hs, q0⟩ := H.out.get hkl
      have Hst := Lib.hid (negs_take Hs.out)
      by_cases h0 : s < 0
      · have Hn : Hid (m + 1 = negs (ss.take (k + 1))) := Lib.hid (by rw [Hst.out, if_pos h0, Hm.out])
        go_wp2_with fail
        go_roundw
        case rel => exact ⟨k + 1, m + 1, by go_num, by go_num, by omega, by omega, Hn, by trivial⟩
        case measure => simp [intOf]; omega
      · have Hn : Hid (m = negs (ss.take (k + 1))) := Lib.hid (by rw [Hst.out, if_neg h0, Hm.out]; rfl)
        go_wp2_with fail
        go_roundw
        case rel => exact ⟨k + 1, m, by go_num, by trivial, by omega, by omega, Hn, by trivial⟩
        case measure => simp [intOf]; omega
    case neg =>
      have hn2 : m = negs ss := by rw [Hm.out, List.take_of_length_le (by omega)]
      have Hn := Lib.hid hn2
      clear hn2
      go_wp2_with fail
      go_ret
      exact ⟨by rw [← Hn.out]; rfl, HB.out⟩

/-! ### Of, plainly -/
def ofStep (G : Gr) (th : List (List Int)) (i : Int) : Option (List (List Int)) :=
  match ruleAt G i with
  | none => none
  | some r => if negs r.right ≤ th.length then some (th.take (th.length - negs r.right) ++ [i :: (th.drop (th.length - negs r.right)).flatten]) else none
def ofGo (G : Gr) : List Int → List (List Int) → Option (List (List Int))
  | [], th => some th
  | i :: l, th => match ofStep G th i with
    | none => none
    | some th' => ofGo G l th'
/-- the tree of reductions, where they have one -/
def ofT (G : Gr) (l : List Int) : Option (List Int) :=
  if G.right && decide (l.length ≤ 300) then
    match ofGo G l [] with
    | some [t] => if (readT G t).isSome then some t else none
    | _ => none
  else none
theorem ofGo_none {G : Gr} {l : List Int} {k : Nat} {i : Int} {th : List (List Int)} (hi : l[k]? = some i) (h : ofStep G th i = none) : ofGo G (l.drop k) th = none := by
  rw [drop_get hi, ofGo, h]
theorem ofGo_some {G : Gr} {l : List Int} {k : Nat} {i : Int} {th th' : List (List Int)} (hi : l[k]? = some i) (h : ofStep G th i = some th') : ofGo G (l.drop k) th = ofGo G (l.drop (k + 1)) th' := by
  rw [drop_get hi, ofGo, h]
theorem flatten_split (th : List (List Int)) (m : Nat) : lenS th = lenS (th.take m) + lenS (th.drop m) := by
  unfold lenS
  rw [← List.length_append, ← List.flatten_append, List.take_append_drop]
theorem ofStep_len {G : Gr} {th th' : List (List Int)} {i : Int} (h : ofStep G th i = some th') : lenS th' = lenS th + 1 ∧ th'.length ≤ th.length + 1 := by
  unfold ofStep at h
  split at h
  · cases h
  · rename_i r _
    split at h
    · injection h with h
      subst h
      have := flatten_split th (th.length - negs r.right)
      constructor
      · rw [this]
        unfold lenS
        simp <;> omega
      · simp <;> omega
    · cases h
/-- a row of one's own, cut short -/
theorem own_cut {w : World} {base e n c m : Nat} {A : Option Addr} {xs : List Value} (h : w.ownsRow base e 1 (.slice A n c) n xs) (hm : m ≤ n) : w.ownsRow base e 1 (.slice A m c) m (xs.take m) := by
  have hl := h.1
  refine ⟨by rw [List.length_take]; omega, ?_⟩
  rcases h.2 with ⟨hv, rfl⟩ | ⟨g, cap, cur, hv, hb, hg, hnc, hcm, hcs, ht⟩
  · injection hv with h1 h2 h3
    obtain rfl : m = 0 := by omega
    exact .inl ⟨by rw [h1, h3], rfl⟩
  · injection hv with h1 h2 h3
    refine .inr ⟨g, cap, cur, by rw [h1, h3], hb, hg, by omega, hcm, hcs, ?_⟩
    rw [← ht, List.take_take]
    congr 1
    omega
/-- lists in a row of one's own, from one on -/
theorem own_lss {w : World} {base e n c : Nat} {A : Option Addr} {av : Nat → Prop} {cs : List Value} {ls : List (List Int)} (h : w.ownsRow base e 1 (.slice A n c) n cs) (hc : LsCs w av cs ls) : Lss w A n c ls := by
  have hs := own_sl h
  have hl : ls.length = n := by have := h.1; have := hc.1; omega
  refine ⟨hl, hs.2.1, hs.2.2.1, fun hn => ?_⟩
  obtain ⟨b, off, e, hb, hcell⟩ := hs.2.2.2 (by rw [hc.1]; omega)
  refine ⟨b, off, e, hb, fun j l hj => ?_⟩
  obtain ⟨Al, cl, h1, h2, _⟩ := hc.2 j l hj
  have hlt : j < cs.length := (List.getElem?_eq_some_iff.1 h1).1
  exact ⟨Al, cl, by rw [hcell j hlt]; exact h1, h2⟩
theorem Lss.tail {w : World} {b off n c : Nat} {ls : List (List Int)} (h : Lss w (some ⟨b, off, none⟩) n c ls) (i : Nat) (hi : i ≤ n) :
    Lss w (if c = i then some ⟨b, off, none⟩ else some ⟨b, off + i, none⟩) (n - i) (c - i) (ls.drop i) := by
  have h1 := h.1
  have h2 := h.2.1
  have h3 := h.2.2.1
  refine ⟨by rw [List.length_drop]; omega, by omega, by omega, fun hn => ?_⟩
  obtain ⟨b', off', e, hlt, hc⟩ := h.2.2.2 (by omega)
  injection e with e
  injection e with e1 e2
  subst e1; subst e2
  refine ⟨b, off + i, by rw [if_neg (by omega)], hlt, fun j l hj => ?_⟩
  rw [Nat.add_assoc]
  exact hc (i + j) l (by rw [List.getElem?_drop] at hj; exact hj)
theorem LsCs.nil (w : World) (av : Nat → Prop) : LsCs w av [] [] := ⟨rfl, fun j l h => by simp at h⟩
theorem LsCs.cut {w : World} {av : Nat → Prop} {cs : List Value} {ls : List (List Int)} (h : LsCs w av cs ls) (m : Nat) : LsCs w av (cs.take m) (ls.take m) := by
  refine ⟨by rw [List.length_take, List.length_take, h.1], fun j l hj => ?_⟩
  rw [List.getElem?_take] at hj
  split at hj
  · rename_i hjm
    obtain ⟨Al, cl, h1, h2⟩ := h.2 j l hj
    exact ⟨Al, cl, by rw [List.getElem?_take, if_pos hjm]; exact h1, h2⟩
  · cases hj
theorem LsCs.keep {w w' : World} {av av' : Nat → Prop} {cs : List Value} {ls : List (List Int)} (h : LsCs w av cs ls) (hs : w.heap.size ≤ w'.heap.size) (hk : ∀ k, k < w.heap.size → av k → w'.heap[k]? = w.heap[k]? ∧ av' k) : LsCs w' av' cs ls := by
  refine ⟨h.1, fun j l hl => ?_⟩
  obtain ⟨Al, cl, h1, h2, h3⟩ := h.2 j l hl
  exact ⟨Al, cl, h1, ints_keep h2 hs fun b off e hb => (hk b hb (h3 b off e).2).1, fun b off e => ⟨Nat.lt_of_lt_of_le (h3 b off e).1 hs, (hk b (h3 b off e).1 (h3 b off e).2).2⟩⟩
theorem LsCs.snoc {w : World} {av : Nat → Prop} {cs : List Value} {ls : List (List Int)} (h : LsCs w av cs ls) {l : List Int} {Al : Option Addr} {cl : Nat} (hl : Ints .i64 w Al l.length cl l) (ha : ∀ b off, Al = some ⟨b, off, none⟩ → b < w.heap.size ∧ av b) : LsCs w av (cs ++ [.slice Al l.length cl]) (ls ++ [l]) := by
  refine ⟨by simp [h.1], fun j u hu => ?_⟩
  rcases snoc_cases hu with ⟨hj, hu⟩ | ⟨rfl, rfl⟩
  · obtain ⟨Al', cl', h1, h2⟩ := h.2 j u hu
    exact ⟨Al', cl', by rw [List.getElem?_append_left (by rw [h.1]; exact hj)]; exact h1, h2⟩
  · exact ⟨Al, cl, by rw [← h.1]; simp, hl, ha⟩
end Go.Proofs.YtfdbpafenhdkbaaGreat

namespace Go.Proofs.YtfdbpafenhdkbaaGreat
open Go.RowKit
set_option linter.unusedVariables false
set_option linter.unusedSimpArgs false

theorem Tryz.infoRow : (Tryz.prog.info? 32).map (fun i => (i.zero, i.size, i.bytes)) = some (some (.slice none 0 0), 1, 24) := by kernel_rfl

theorem lss_two {w : World} {A B : Option Addr} {c d : Nat} {xs ys : List Int} (h1 : Ints .i64 w A xs.length d xs) (h2 : Ints .i64 w B ys.length c ys) :
    Lss (w.alloc (.cells #[.slice A xs.length d, .slice B ys.length c] 32)) (some ⟨w.heap.size, 0, none⟩) 2 2 [xs, ys] := by
  have hb := alloc_below w (.cells #[.slice A xs.length d, .slice B ys.length c] 32)
  refine ⟨rfl, Nat.le_refl _, by decide, fun _ => ⟨w.heap.size, 0, rfl, (Blk.new w _ _).lt, fun j l hj => ?_⟩⟩
  rw [Nat.zero_add, alloc_cell]
  match j, hj with
  | 0, hj =>
    simp at hj
    subst hj
    exact ⟨A, d, rfl, h1.below hb⟩
  | 1, hj =>
    simp at hj
    subst hj
    exact ⟨B, c, rfl, h2.below hb⟩
  | j + 2, hj => simp at hj
/-- a stack of trees, some of them made one -/
theorem stack_more {W1 wr w4 w5 : World} {d lf cT c4 c5 : Nat} {A A4 A5 : Option Addr} {e : TypeId} {cs : List Value} {th : List (List Int)} {one : List Int}
    (hsz : W1.heap.size ≤ wr.heap.size) (Ho : wr.ownsRow W1.heap.size e 1 (.slice A d cT) d cs) (Hc : LsCs wr (fun b => W1.heap.size ≤ b ∧ (Value.slice A d cT).ownBlock ≠ some b) cs th)
    (hb4 : Below wr.heap.size wr w4) (h4 : Ints .i64 w4 A4 one.length c4 one) (hf4 : ∀ b off, A4 = some ⟨b, off, none⟩ → wr.heap.size ≤ b ∧ b < w4.heap.size)
    (hg5 : w4.grownBy w5 (Value.slice A lf cT).ownBlock) (hlf : (Value.slice A lf cT).ownBlock = (Value.slice A d cT).ownBlock) (ha5 : ∀ b, (Value.slice A5 (lf + 1) c5).ownBlock = some b → b < w4.heap.size → (Value.slice A lf cT).ownBlock = some b) :
    LsCs w5 (fun b => W1.heap.size ≤ b ∧ (Value.slice A5 (lf + 1) c5).ownBlock ≠ some b) (cs.take lf ++ [.slice A4 one.length c4]) (th.take lf ++ [one]) := by
  have s4 := hb4.size
  have s5 := hg5.size
  have hown : ∀ b, (Value.slice A d cT).ownBlock = some b → b < wr.heap.size := fun b hb => (Ho.lt b hb).2
  have g1 : LsCs w5 (fun b => W1.heap.size ≤ b ∧ (Value.slice A5 (lf + 1) c5).ownBlock ≠ some b) (cs.take lf) (th.take lf) := (Hc.cut lf).keep (by omega) fun k hk hav => by
    refine ⟨?_, hav.1, fun h3 => ?_⟩
    · rw [hg5.block k (by omega) (fun e => hav.2 (by rw [← hlf]; exact e.symm)), hb4.block k hk]
    · exact hav.2 (by rw [← hlf]; exact ha5 k h3 (by omega))
  have g2 : Ints .i64 w5 A4 one.length c4 one := ints_keep h4 s5 fun b off hb hlt => hg5.block b hlt fun e => by
    have h1 := (hf4 b off hb).1
    have h2 := hown b (by rw [← hlf]; exact e.symm)
    omega
  refine g1.snoc g2 fun b off hb => ?_
  have h1 := hf4 b off hb
  refine ⟨by omega, by omega, fun h3 => ?_⟩
  have h2 := hown b (by rw [← hlf]; exact ha5 b h3 h1.2)
  omega
/-- why reductions are refused -/
def ofE (G : Gr) : Int := if G.right then 3 else 1
set_option maxRecDepth 20000 in
set_option maxHeartbeats 2000000 in
theorem tr_Of (h : GH) (G : Gr) (At : Option Addr) (n c : Nat) (l : List Int) (w : World) (hg : GrAt w h G) (hs : ∀ t ∈ G.terms, t.name.size ≤ maxLen) (ht : Ints .i64 w At n c l) (hn2 : n ≤ 400) (h1 : h.n1 ≤ 100) (h2 : h.n2 ≤ 100) (h3 : h.n3 ≤ 100) :
    Calls Tryz.prog 34 #[GV h G.start, .slice At n c] w fun e w' => Below w.heap.size w w' ∧
      ((ofT G l = none ∧ e = .returned (.tuple #[.slice none 0 0, .int .i64 (ofE G)])) ∨ (∃ t A c', ofT G l = some t ∧ e = .returned (.tuple #[.slice A t.length c', .int .i64 0]) ∧ Ints .i64 w' A t.length c' t)) := by
  obtain rfl := ht.len
  have hcap := ht.cap
  obtain ⟨a1, n1, c1, a2, n2, c2, a3, n3, c3⟩ := h
  simp only [] at h1 h2 h3
  have hB0 := alloc_below w (.cells #[.slice a1 n1 c1, .slice a2 n2 c2, .slice a3 n3 c3, .int .i64 G.start] 26)
  have hbox := GBox.new w 26 ⟨a1, n1, c1, a2, n2, c2, a3, n3, c3⟩ G.start
  have e3 : G.rules.length = n3 := hg.rules.len
  have k3 := hg.rules.cap
  simp only [] at k3
  have Hg := Lib.hid hg
  have Ht := Lib.hid ht
  have Hs := Lib.hid hs
  have CR := Lib.hid (cf_Right ⟨a1, n1, c1, a2, n2, c2, a3, n3, c3⟩ G _ (hg.below hB0) hs (by simp only []; omega) (by simp only []; omega))
  clear hg ht hs
  go_enter Tryz.func34, Tryz.ntmps34
  go_wp2_with fail
  generalize w.alloc (.cells #[.slice a1 n1 c1, .slice a2 n2 c2, .slice a3 n3 c3, .int .i64 G.start] 26) = W0 at *
  (with_reducible refine CR.out.mono ?_)
  rintro e W1 ⟨rfl, hb1⟩
  have hB1 := below_tail hB0 hb1
  have hbx1 := hbox.below hb1
  rcases hrt : G.right with _ | _
  · have Hn : Hid (ofT G l = none) := Lib.hid (by unfold ofT; rw [hrt]; rfl)
    have HE : Hid (ofE G = 1) := Lib.hid (by unfold ofE; rw [hrt]; rfl)
    clear hrt
    go_wp2_with fail
    refine bodyPost_ret (results_tmp2 rfl _ _ _) rfl ?_
    exact ⟨hB1, .inl ⟨Hn.out, by rw [HE.out]; rfl⟩⟩
  have HE : Hid (ofE G = 3) := Lib.hid (by unfold ofE; rw [hrt]; rfl)
  by_cases h300 : (300 : Int) < (l.length : Int)
  · have Hn : Hid (ofT G l = none) := Lib.hid (by unfold ofT; rw [hrt, show decide (l.length ≤ 300) = false by rw [decide_eq_false_iff_not]; omega]; rfl)
    clear hrt
    go_wp2_with fail
    refine bodyPost_ret (results_tmp2 rfl _ _ _) rfl ?_
    exact ⟨hB1, .inl ⟨Hn.out, by rw [HE.out]; rfl⟩⟩
  have Hd : Hid (ofT G l = match ofGo G l [] with | some [t] => if (readT G t).isSome then some t else none | _ => none) := Lib.hid (by
    unfold ofT
    rw [hrt, show decide (l.length ≤ 300) = true by rw [decide_eq_true_iff]; omega]
    rfl)
  have hfit := Gr.fits hrt
  have Hfit := Lib.hid hfit
  have HB1 := Lib.hid hB1
  have Hbx1 := Lib.hid hbx1
  clear hrt hfit hB1 hbx1 hbox hB0 hb1
  go_wp2_with fail
  go_loopw [6, 21] (fun v i wr => ∃ (k d cT : Nat) (A : Option Addr) (th : List (List Int)) (cs : List Value), v = .slice A d cT ∧ i = .int .i64 (k : Int) ∧ k ≤ l.length ∧ d ≤ k ∧ (d = 0 → A = none ∧ cT = 0) ∧ Hid (th.length = d) ∧ Hid (lenS th = k) ∧
      Hid (wr.ownsRow W1.heap.size 32 1 (.slice A d cT) d cs) ∧ Hid (LsCs wr (fun b => W1.heap.size ≤ b ∧ (Value.slice A d cT).ownBlock ≠ some b) cs th) ∧ Hid (ofGo G l [] = ofGo G (l.drop k) th) ∧ Hid (Below W1.heap.size W1 wr)) (fun _ i _ => l.length - (intOf i).toNat)
  case atStart => exact ⟨0, 0, 0, none, [], [], rfl, rfl, Nat.zero_le _, Nat.zero_le _, fun _ => ⟨rfl, rfl⟩, Lib.hid rfl, Lib.hid rfl, Lib.hid (World.ownsRow_nil _ _ _ _), Lib.hid (LsCs.nil _ _), Lib.hid rfl, Lib.hid (Below.refl _ _)⟩
  case round =>
    obtain ⟨k, d, cT, A, th, cs, rfl, rfl, hk, hdk, hd0, Hth, Hlen, Ho, Hc, Hgo, HB⟩ := hrel
    have HBw := Lib.hid (below_tail HB1.out HB.out)
    have ⟨z5, z0, z1, z2, z3⟩ := Hbx1.out.below HB.out
    simp only [] at z0 z1 z2 z3
    have hsz : W1.heap.size ≤ wr.heap.size := HB.out.size
    by_cases hkl : k < l.length
    case neg =>
      have hkk : k = l.length := by omega
      have hgo : ofGo G l [] = some th := by
        rw [Hgo.out, List.drop_eq_nil_of_le (by omega)]
        rfl
      have hthl := Hth.out
      by_cases hd1 : d = 1
      case neg =>
        have Hn : Hid (ofT G l = none) := Lib.hid (by
          rw [Hd.out, hgo]
          match th, hthl with
          | [], _ => rfl
          | [t], hthl => exact absurd hthl.symm hd1
          | t :: u :: v, _ => rfl)
        have hne : ((d : Int) != 1) = true := by rw [bne_iff_ne]; omega
        clear hgo hthl
        go_wp2_with fail
        refine wp_region_below (by kernel_rfl) (by kernel_rfl) ?_
        repeat (go_big_quiet_step (fail))
        refine wpQuiet_nil ?_
        rintro _ ⟨x, rfl⟩
        have HBx := Lib.hid (below_tail HBw.out (bl_below wr x))
        go_wp2_with fail
        refine bodyPost_ret (results_tmp2 rfl _ _ _) rfl ?_
        exact ⟨HBx.out, .inl ⟨Hn.out, by rw [HE.out]; rfl⟩⟩
      case pos =>
        subst hd1
        obtain ⟨t, rfl⟩ : ∃ t, th = [t] := by
          match th, hthl with
          | [t], _ => exact ⟨t, rfl⟩
        obtain ⟨gT, gOff, t', At', ct, hA, hgT, Ht', qT, hti⟩ := (own_lss Ho.out Hc.out).get (j := 0) (by omega)
        obtain rfl : t = t' := by have := Ht'.out; simpa using this
        subst hA
        rw [Nat.add_zero] at qT
        have htl : t.length ≤ 300 := by
          have h1 := Hlen.out
          have h2 : lenS [t] = t.length := by unfold lenS; simp
          omega
        have cT' := fun x : Ext wr => (tr_Right ⟨a1, n1, c1, a2, n2, c2, a3, n3, c3⟩ G At' t.length ct t (bl wr x) ((Hg.out.below HBw.out).below (bl_below wr x)) Hs.out (hti.below (bl_below wr x)) (by omega) (by simp only []; omega) (by simp only []; omega) (by simp only []; omega)).mono fun e w' hh => And.intro hh.2 hh.1
        have Hti := Lib.hid hti
        have hcc : 1 ≤ cT := (own_sl Ho.out).2.1
        have bc := bl_cell wr
        clear hgo hthl hti Ht'
        rcases hrd : (readT G t).isSome with _ | _
        · rw [hrd] at cT'
          have CT := Lib.hid cT'
          have Hn : Hid (ofT G l = none) := Lib.hid (by
            rw [Hd.out, Hgo.out, List.drop_eq_nil_of_le (by omega)]
            show (if (readT G t).isSome then some t else none) = none
            rw [hrd]
            rfl)
          clear hrd cT'
          go_wp2_with fail
          refine wp_region_below (by kernel_rfl) (by kernel_rfl) ?_
          repeat (go_big_quiet_step ((go_at_call 30; with_reducible exact bl_of (CT.out _))))
          refine wpQuiet_nil ?_
          rintro _ ⟨x, rfl⟩
          have HBx := Lib.hid (below_tail HBw.out (bl_below wr x))
          go_wp2_with fail
          refine bodyPost_ret (results_tmp2 rfl _ _ _) rfl ?_
          exact ⟨HBx.out, .inl ⟨Hn.out, by rw [HE.out]; rfl⟩⟩
        · rw [hrd] at cT'
          have CT := Lib.hid cT'
          have Hn : Hid (ofT G l = some t) := Lib.hid (by
            rw [Hd.out, Hgo.out, List.drop_eq_nil_of_le (by omega)]
            show (if (readT G t).isSome then some t else none) = some t
            rw [hrd]
            rfl)
          clear hrd cT'
          go_wp2_with fail
          refine wp_region_below (by kernel_rfl) (by kernel_rfl) ?_
          repeat (go_big_quiet_step ((go_at_call 30; with_reducible exact bl_of (CT.out _))))
          refine wpQuiet_nil ?_
          rintro _ ⟨x, rfl⟩
          have HBx := Lib.hid (below_tail HBw.out (bl_below wr x))
          have hqx := bc x gT gOff hgT
          rw [qT] at hqx
          go_wp2_with fail
          refine bodyPost_ret (results_tmp2 rfl _ _ _) rfl ?_
          exact ⟨HBx.out, .inr ⟨t, At', ct, Hn.out, rfl, Hti.out.below (bl_below wr x)⟩⟩
    case pos =>
      obtain ⟨bi, offi, i, rfl, hbi, Hi, q0⟩ := (Ht.out.below HBw.out).get hkl
      by_cases hi0 : i < 0
      · have Hn : Hid (ofT G l = none) := Lib.hid (by
          rw [Hd.out, Hgo.out, ofGo_none Hi.out (by
            unfold ofStep
            rw [show ruleAt G i = none by unfold ruleAt; rw [if_neg (by omega)]])])
        go_wp2_with fail
        refine bodyPost_ret (results_tmp2 rfl _ _ _) rfl ?_
        exact ⟨HBw.out, .inl ⟨Hn.out, by rw [HE.out]; rfl⟩⟩
      by_cases hi3 : (n3 : Int) ≤ i
      · have Hn : Hid (ofT G l = none) := Lib.hid (by
          rw [Hd.out, Hgo.out, ofGo_none Hi.out (by
            unfold ofStep
            rw [show ruleAt G i = none by unfold ruleAt; rw [if_pos (by omega)]; exact List.getElem?_eq_none (by omega)])])
        go_wp2_with fail
        refine bodyPost_ret (results_tmp2 rfl _ _ _) rfl ?_
        exact ⟨HBw.out, .inl ⟨Hn.out, by rw [HE.out]; rfl⟩⟩
      obtain ⟨ir, rfl⟩ : ∃ ir : Nat, i = (ir : Int) := ⟨i.toNat, by omega⟩
      have hir : ir < n3 := by omega
      obtain ⟨rb, roff, r, Arr, crr, rfl, hrb, Hr0, w0c, w1c, w2c, hri⟩ := (Hg.out.below HBw.out).rules.get hir
      have hrat : ruleAt G (ir : Int) = some r := by
        unfold ruleAt
        rw [if_pos (by omega), Int.toNat_natCast]
        exact Hr0.out
      have hrl := Hfit.out.len r (List.mem_of_getElem? Hr0.out)
      have hng := negs_le r.right
      have CN := Lib.hid (tr_nons r.left r.prec Arr r.right.length crr r.right wr hri (by omega))
      have hst : ofStep G th (ir : Int) = if negs r.right ≤ d then some (th.take (d - negs r.right) ++ [(ir : Int) :: (th.drop (d - negs r.right)).flatten]) else none := by
        unfold ofStep
        rw [hrat]
        simp only [Hth.out]
      have Hst := Lib.hid hst
      clear hri hrat hst
      generalize negs r.right = ng at *
      by_cases hdn : ng ≤ d
      case neg =>
        have hwd : IntKind.i64.wrap ((d : Int) - (ng : Int)) = (d : Int) - (ng : Int) := IntWalk.i64_in _ (by omega)
        have Hn : Hid (ofT G l = none) := Lib.hid (by rw [Hd.out, Hgo.out, ofGo_none Hi.out (by rw [Hst.out, if_neg hdn])])
        go_wp2_with fail
        (with_reducible refine CN.out.mono ?_)
        rintro e w2 ⟨rfl, hb2⟩
        have HBw2 := Lib.hid (below_tail HBw.out hb2)
        clear hb2
        go_wp2_with fail
        refine bodyPost_ret (results_tmp2 rfl _ _ _) rfl ?_
        exact ⟨HBw2.out, .inl ⟨Hn.out, by rw [HE.out]; rfl⟩⟩
      case pos =>
        obtain ⟨lf, hlf⟩ : ∃ lf, lf = d - ng := ⟨_, rfl⟩
        have hwd : IntKind.i64.wrap ((d : Int) - (ng : Int)) = (lf : Int) := by rw [IntWalk.i64_in _ (by omega)]; omega
        have hstep : Hid (ofStep G th (ir : Int) = some (th.take lf ++ [(ir : Int) :: (th.drop lf).flatten])) := Lib.hid (by rw [Hst.out, if_pos hdn, hlf])
        have hdcap : d ≤ cT ∧ cT ≤ 9223372036854775807 := ⟨(own_sl Ho.out).2.1, (own_sl Ho.out).2.2.1⟩
        have hlen1 := flatten_split th lf
        rw [Hlen.out] at hlen1
        have Hlen1 := Lib.hid hlen1
        have hld : lf ≤ d := by omega
        have Hnd : Hid (ng = d - lf) := Lib.hid (by omega)
        have hndl : (th.drop lf).length = d - lf := by rw [List.length_drop, Hth.out]
        have Hndl := Lib.hid hndl
        clear hlf hlen1 hndl
        go_wp2_with fail
        (with_reducible refine CN.out.mono ?_)
        rintro e w2 ⟨rfl, hb2⟩
        have HB2 := Lib.hid (HB.out.trans (hb2.mono hsz))
        have hl0 : (lf : Int) ≤ (d : Int) := by omega
        have Hb2 := Lib.hid hb2
        clear hb2 z0 z1 z2 z3 w0c w1c w2c q0
        have hBa := alloc_below w2 (.cells #[.int .i64 (ir : Int)] 3)
        have hone : Ints .i64 (w2.alloc (.cells #[.int .i64 (ir : Int)] 3)) (some ⟨w2.heap.size, 0, none⟩) 1 1 [(ir : Int)] := lit_sl w2 3 (ints .i64 [(ir : Int)]) 1 _ rfl rfl (by decide)
        have hoA := own_keepB (own_keepB Ho.out Hb2.out) hBa
        have hcA : LsCs (w2.alloc (.cells #[.int .i64 (ir : Int)] 3)) (fun b => W1.heap.size ≤ b ∧ (Value.slice A d cT).ownBlock ≠ some b) cs th := Hc.out.keep (Nat.le_trans Hb2.out.size hBa.size) fun k hk hav => ⟨(hBa.block k (Nat.lt_of_lt_of_le hk Hb2.out.size)).trans (Hb2.out.block k hk), hav⟩
        have hls := own_lss hoA hcA
        have hbm : lenS (th.drop lf) ≤ 100000 := by have := Hlen1.out; omega
        have Hone := Lib.hid hone
        have HBa := Lib.hid (below_tail Hb2.out hBa)
        have HBa2 := Lib.hid (HB2.out.trans (hBa.mono HB2.out.size))
        clear hBa hone hoA hcA
        rcases Nat.eq_zero_or_pos d with hdz | hdp
        case inl =>
          obtain ⟨rfl, rfl⟩ := hd0 hdz
          subst hdz
          obtain rfl : lf = 0 := by omega
          have CC := Lib.hid (sl_concat none 0 0 th _ hls (by have := Hlen.out; omega) (by omega))
          go_wp2_with fail
          (with_reducible refine CC.out.mono ?_)
          rintro e w3 ⟨A3, c3', rfl, ho3, hb3⟩
          have hi3' : Ints .i64 w3 A3 th.flatten.length c3' th.flatten := own_sl ho3
          have HB3 := Lib.hid (HBa.out.trans (hb3.mono HBa.out.size))
          have hl2 : Lss (w3.alloc (.cells #[.slice (some ⟨w2.heap.size, 0, none⟩) 1 1, .slice A3 (lenS th) c3'] 32)) (some ⟨w3.heap.size, 0, none⟩) 2 2 [[(ir : Int)], th.flatten] := lss_two (xs := [(ir : Int)]) (ys := th.flatten) (Hone.out.below hb3) hi3'
          have hm1 : lenS [[(ir : Int)], th.flatten] = lenS th + 1 := by unfold lenS; simp <;> omega
          have hfl1 : ([[(ir : Int)], th.flatten] : List (List Int)).flatten = (ir : Int) :: th.flatten := by simp
          have cC2 := sl_concat _ 2 2 [[(ir : Int)], th.flatten] _ hl2 (by rw [hm1]; have := Hlen1.out; have := Hlen.out; omega) (by decide)
          rw [hm1, hfl1] at cC2
          have CC2 := Lib.hid cC2
          have hbA := alloc_below w3 (.cells #[.slice (some ⟨w2.heap.size, 0, none⟩) 1 1, .slice A3 (lenS th) c3'] 32)
          have HbA := Lib.hid hbA
          have hml : ((ir : Int) :: th.flatten).length = lenS th + 1 := rfl
          have Hml := Lib.hid hml
          have hmb : lenS th ≤ 400 := by have := Hlen1.out; have := Hlen.out; omega
          clear hi3' hl2 hm1 hfl1 cC2 ho3 hb3 hbA hml CC
          go_wp2_with fail
          (with_reducible refine CC2.out.mono ?_)
          rintro e w4 ⟨A4, c4', rfl, ho4, hb4⟩
          have HB4 := Lib.hid (HB3.out.trans ((below_tail HbA.out hb4).mono HB3.out.size))
          have hf4 : ∀ b off, A4 = some ⟨b, off, none⟩ → wr.heap.size ≤ b ∧ b < w4.heap.size := fun b off hb => by
            have h1 := ho4.lt b (by rw [hb]; rfl)
            have h2 := HbA.out.size
            have h3 := HB3.out.size
            exact ⟨by omega, h1.2⟩
          have hi4 : Ints .i64 w4 A4 ((ir : Int) :: th.flatten).length c4' ((ir : Int) :: th.flatten) := own_sl ho4
          have Ho4 := Lib.hid (own_cut (own_keepB Ho.out HB4.out) hld)
          have HRow := Lib.hid Tryz.infoRow
          have hbs4 : W1.heap.size ≤ w4.heap.size := Nat.le_trans hsz HB4.out.size
          have Hf4 := Lib.hid hf4
          have Hi4 := Lib.hid hi4
          clear ho4 hb4 hf4 hi4 CC2
          have Hln := Lib.hid ((ofStep_len hstep.out).1.trans (by rw [Hlen.out]))
          generalize lenS th = m3 at *
          go_wp2_with (first
            | (at_builtin; refine wpl_appendT rfl _ _ 75 rfl W1.heap.size 32 _ 1 24 Tryz.underlying75 HRow.out (by decide) (by decide) none 0 0 (cs.take 0) rfl Ho4.out [.slice A4 (m3 + 1) c4'] rfl rfl (by simp [Value.oneCell']) (by omega) (by omega) hbs4 ?_; intro A5 c5 w5 ho5 hg5 ha5
               have Ho5 := Lib.hid ho5
               have HB5 := Lib.hid (below_appendG (HB.out.trans (HB4.out.mono hsz)) hg5 Ho4.out hbs4)
               have hsm := stack_more (c5 := c5) (A5 := A5) hsz Ho.out Hc.out HB4.out Hi4.out Hf4.out hg5 rfl ha5
               rw [Hml.out] at hsm
               have Hsm := Lib.hid hsm
               clear ho5 hg5 ha5 hsm))
          have Hgn := Lib.hid (Hgo.out.trans (ofGo_some Hi.out hstep.out))
          go_roundw
          case rel => exact ⟨k + 1, 0 + 1, c5, A5, _, _, rfl, by go_num, by omega, by omega, fun h => by omega, Lib.hid (by have := Hth.out; simp <;> omega), Hln, Ho5, Hsm, Hgn, HB5⟩
          case measure => simp [intOf]; omega
        obtain ⟨gT, rfl, hgT1, hgT2, _⟩ := own_cells Ho.out hdp
        have hlt := hls.tail lf hld
        have hci : lf = cT ∨ ¬ cT = lf := by
          by_cases hc : cT = lf
          · exact .inl hc.symm
          · exact .inr hc
        rcases hci with hc1 | hc1
        case inl =>
          rw [if_pos hc1.symm] at hlt
          subst hc1
          obtain rfl : lf = d := by omega
          rw [Nat.sub_self] at hlt
          have CC := Lib.hid (sl_concat _ _ _ (th.drop lf) _ hlt hbm (by omega))
          go_wp2_with fail
          (with_reducible refine CC.out.mono ?_)
          rintro e w3 ⟨A3, c3', rfl, ho3, hb3⟩
          have hi3' : Ints .i64 w3 A3 (th.drop lf).flatten.length c3' (th.drop lf).flatten := own_sl ho3
          have HB3 := Lib.hid (HBa.out.trans (hb3.mono HBa.out.size))
          have hl2 : Lss (w3.alloc (.cells #[.slice (some ⟨w2.heap.size, 0, none⟩) 1 1, .slice A3 (lenS (th.drop lf)) c3'] 32)) (some ⟨w3.heap.size, 0, none⟩) 2 2 [[(ir : Int)], (th.drop lf).flatten] := lss_two (xs := [(ir : Int)]) (ys := (th.drop lf).flatten) (Hone.out.below hb3) hi3'
          have hm1 : lenS [[(ir : Int)], (th.drop lf).flatten] = lenS (th.drop lf) + 1 := by unfold lenS; simp <;> omega
          have hfl1 : ([[(ir : Int)], (th.drop lf).flatten] : List (List Int)).flatten = (ir : Int) :: (th.drop lf).flatten := by simp
          have cC2 := sl_concat _ 2 2 [[(ir : Int)], (th.drop lf).flatten] _ hl2 (by rw [hm1]; have := Hlen1.out; have := Hlen.out; omega) (by decide)
          rw [hm1, hfl1] at cC2
          have CC2 := Lib.hid cC2
          have hbA := alloc_below w3 (.cells #[.slice (some ⟨w2.heap.size, 0, none⟩) 1 1, .slice A3 (lenS (th.drop lf)) c3'] 32)
          have HbA := Lib.hid hbA
          have hml : ((ir : Int) :: (th.drop lf).flatten).length = lenS (th.drop lf) + 1 := rfl
          have Hml := Lib.hid hml
          have hmb : lenS (th.drop lf) ≤ 400 := by have := Hlen1.out; have := Hlen.out; omega
          clear hi3' hl2 hm1 hfl1 cC2 ho3 hb3 hbA hml CC
          go_wp2_with fail
          (with_reducible refine CC2.out.mono ?_)
          rintro e w4 ⟨A4, c4', rfl, ho4, hb4⟩
          have HB4 := Lib.hid (HB3.out.trans ((below_tail HbA.out hb4).mono HB3.out.size))
          have hf4 : ∀ b off, A4 = some ⟨b, off, none⟩ → wr.heap.size ≤ b ∧ b < w4.heap.size := fun b off hb => by
            have h1 := ho4.lt b (by rw [hb]; rfl)
            have h2 := HbA.out.size
            have h3 := HB3.out.size
            exact ⟨by omega, h1.2⟩
          have hi4 : Ints .i64 w4 A4 ((ir : Int) :: (th.drop lf).flatten).length c4' ((ir : Int) :: (th.drop lf).flatten) := own_sl ho4
          have Ho4 := Lib.hid (own_cut (own_keepB Ho.out HB4.out) hld)
          have HRow := Lib.hid Tryz.infoRow
          have hbs4 : W1.heap.size ≤ w4.heap.size := Nat.le_trans hsz HB4.out.size
          have Hf4 := Lib.hid hf4
          have Hi4 := Lib.hid hi4
          clear ho4 hb4 hf4 hi4 CC2
          have Hln := Lib.hid ((ofStep_len hstep.out).1.trans (by rw [Hlen.out]))
          generalize lenS (th.drop lf) = m3 at *
          go_wp2_with (first
            | (at_builtin; refine wpl_appendT rfl _ _ 75 rfl W1.heap.size 32 _ 1 24 Tryz.underlying75 HRow.out (by decide) (by decide) (some ⟨gT, 0, none⟩) lf lf (cs.take lf) rfl Ho4.out [.slice A4 (m3 + 1) c4'] rfl rfl (by simp [Value.oneCell']) (by omega) (by omega) hbs4 ?_; intro A5 c5 w5 ho5 hg5 ha5
               have Ho5 := Lib.hid ho5
               have HB5 := Lib.hid (below_appendG (HB.out.trans (HB4.out.mono hsz)) hg5 Ho4.out hbs4)
               have hsm := stack_more (c5 := c5) (A5 := A5) hsz Ho.out Hc.out HB4.out Hi4.out Hf4.out hg5 rfl ha5
               rw [Hml.out] at hsm
               have Hsm := Lib.hid hsm
               clear ho5 hg5 ha5 hsm))
          have Hgn := Lib.hid (Hgo.out.trans (ofGo_some Hi.out hstep.out))
          go_roundw
          case rel => exact ⟨k + 1, lf + 1, c5, A5, _, _, rfl, by go_num, by omega, by omega, fun h => by omega, Lib.hid (by have := Hth.out; simp <;> omega), Hln, Ho5, Hsm, Hgn, HB5⟩
          case measure => simp [intOf]; omega
        case inr =>
          rw [if_neg hc1, Nat.zero_add] at hlt
          have CC := Lib.hid (sl_concat _ _ _ (th.drop lf) _ hlt hbm (by omega))
          go_wp2_with fail
          (with_reducible refine CC.out.mono ?_)
          rintro e w3 ⟨A3, c3', rfl, ho3, hb3⟩
          have hi3' : Ints .i64 w3 A3 (th.drop lf).flatten.length c3' (th.drop lf).flatten := own_sl ho3
          have HB3 := Lib.hid (HBa.out.trans (hb3.mono HBa.out.size))
          have hl2 : Lss (w3.alloc (.cells #[.slice (some ⟨w2.heap.size, 0, none⟩) 1 1, .slice A3 (lenS (th.drop lf)) c3'] 32)) (some ⟨w3.heap.size, 0, none⟩) 2 2 [[(ir : Int)], (th.drop lf).flatten] := lss_two (xs := [(ir : Int)]) (ys := (th.drop lf).flatten) (Hone.out.below hb3) hi3'
          have hm1 : lenS [[(ir : Int)], (th.drop lf).flatten] = lenS (th.drop lf) + 1 := by unfold lenS; simp <;> omega
          have hfl1 : ([[(ir : Int)], (th.drop lf).flatten] : List (List Int)).flatten = (ir : Int) :: (th.drop lf).flatten := by simp
          have cC2 := sl_concat _ 2 2 [[(ir : Int)], (th.drop lf).flatten] _ hl2 (by rw [hm1]; have := Hlen1.out; have := Hlen.out; omega) (by decide)
          rw [hm1, hfl1] at cC2
          have CC2 := Lib.hid cC2
          have hbA := alloc_below w3 (.cells #[.slice (some ⟨w2.heap.size, 0, none⟩) 1 1, .slice A3 (lenS (th.drop lf)) c3'] 32)
          have HbA := Lib.hid hbA
          have hml : ((ir : Int) :: (th.drop lf).flatten).length = lenS (th.drop lf) + 1 := rfl
          have Hml := Lib.hid hml
          have hmb : lenS (th.drop lf) ≤ 400 := by have := Hlen1.out; have := Hlen.out; omega
          clear hi3' hl2 hm1 hfl1 cC2 ho3 hb3 hbA hml CC
          go_wp2_with fail
          (with_reducible refine CC2.out.mono ?_)
          rintro e w4 ⟨A4, c4', rfl, ho4, hb4⟩
          have HB4 := Lib.hid (HB3.out.trans ((below_tail HbA.out hb4).mono HB3.out.size))
          have hf4 : ∀ b off, A4 = some ⟨b, off, none⟩ → wr.heap.size ≤ b ∧ b < w4.heap.size := fun b off hb => by
            have h1 := ho4.lt b (by rw [hb]; rfl)
            have h2 := HbA.out.size
            have h3 := HB3.out.size
            exact ⟨by omega, h1.2⟩
          have hi4 : Ints .i64 w4 A4 ((ir : Int) :: (th.drop lf).flatten).length c4' ((ir : Int) :: (th.drop lf).flatten) := own_sl ho4
          have Ho4 := Lib.hid (own_cut (own_keepB Ho.out HB4.out) hld)
          have HRow := Lib.hid Tryz.infoRow
          have hbs4 : W1.heap.size ≤ w4.heap.size := Nat.le_trans hsz HB4.out.size
          have Hf4 := Lib.hid hf4
          have Hi4 := Lib.hid hi4
          clear ho4 hb4 hf4 hi4 CC2
          have Hln := Lib.hid ((ofStep_len hstep.out).1.trans (by rw [Hlen.out]))
          generalize lenS (th.drop lf) = m3 at *
          go_wp2_with (first
            | (at_builtin; refine wpl_appendT rfl _ _ 75 rfl W1.heap.size 32 _ 1 24 Tryz.underlying75 HRow.out (by decide) (by decide) (some ⟨gT, 0, none⟩) lf cT (cs.take lf) rfl Ho4.out [.slice A4 (m3 + 1) c4'] rfl rfl (by simp [Value.oneCell']) (by omega) (by omega) hbs4 ?_; intro A5 c5 w5 ho5 hg5 ha5
               have Ho5 := Lib.hid ho5
               have HB5 := Lib.hid (below_appendG (HB.out.trans (HB4.out.mono hsz)) hg5 Ho4.out hbs4)
               have hsm := stack_more (c5 := c5) (A5 := A5) hsz Ho.out Hc.out HB4.out Hi4.out Hf4.out hg5 rfl ha5
               rw [Hml.out] at hsm
               have Hsm := Lib.hid hsm
               clear ho5 hg5 ha5 hsm))
          have Hgn := Lib.hid (Hgo.out.trans (ofGo_some Hi.out hstep.out))
          go_roundw
          case rel => exact ⟨k + 1, lf + 1, c5, A5, _, _, rfl, by go_num, by omega, by omega, fun h => by omega, Lib.hid (by have := Hth.out; simp <;> omega), Hln, Ho5, Hsm, Hgn, HB5⟩
          case measure => simp [intOf]; omega
end Go.Proofs.YtfdbpafenhdkbaaGreat
