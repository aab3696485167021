/- slices.Values over strings, slices.AppendSeq, slices.Collect, slices.Sorted. -/
import Derived.Test.YtfdbpafenhdkbaaGreatDoorQLxP
import Derived.Test.YtfdbpafenhdkbaaGreatDoorQGrShelf
import Derived.RangeFuncNested
import Derived.RangeFuncBound
import Derived.RangeFuncCalls
import Derived.RangeFuncLeaves
import Derived.RangeFuncBox
import Derived.Shelf.Abstract
import Derived.Shelf.RegionOpen
import Derived.OwnWalkIn
import Derived.TacticsInMore
import Derived.LoopNIn
import Derived.LoopIn
import Derived.Sort.QuietIn
import Derived.Sort.OwnSorted
import Derived.Test.YtfdbpafenhdkbaaGreatDoorQGrC1
import Derived.Maps.OwnOps
import Derived.Maps.OwnSet
namespace Go.Proofs.YtfdbpafenhdkbaaGreatDoor
open Go.RowKit Go.Shelf
set_option linter.unusedVariables false
set_option linter.unusedSimpArgs false
attribute [local go_sem] Oper.semAt_some

theorem take_snocB (zs : List ByteArray) (k : Nat) (s : ByteArray) (h : zs[k]? = some s) : zs.take (k + 1) = zs.take k ++ [s] := by
  rw [List.take_add_one, h]; rfl

set_option maxRecDepth 100000 in
set_option maxHeartbeats 2000000 in
theorem values1_in (n : Nat) (hn : 1 ≤ n) (l Bs n₀ b off cap : Nat) (zs : List ByteArray) (hreach : zs.length ≤ 1000) (hb : b < n₀) (J Jx : List ByteArray → World → Prop)
    (hY : ∀ pre x W, J pre W → pre.length < zs.length → YieldAt Fence.wide (n - 1) Tryz.prog l #[.string x] W fun e W' =>
      (e = .returned (.bool true) ∧ J (pre ++ [x]) W' ∧ Below n₀ W W') ∨ (e = .returned (.bool false) ∧ Jx (pre ++ [x]) W'))
    (W : World) (hBs : W.cell? ⟨Bs, 0, none⟩ = some (.slice (some ⟨b, off, none⟩) zs.length cap)) (hcap : zs.length ≤ cap ∧ cap ≤ 9223372036854775807) (hc : ∀ j s, zs[j]? = some s → W.cell? ⟨b, off + j, none⟩ = some (.string s)) (h0 : J [] W) :
    CallsIn Fence.wide n Tryz.prog 108 #[.func (.yield l) #[] #[], .pointer (some ⟨Bs, 0, none⟩)] W fun e W' => (∃ v, e = .returned v) ∧
      ((∃ ys, ys = zs ∧ J ys W') ∨ (∃ pre, pre <+: zs ∧ Jx pre W')) := by
  refine callsIn_of_wp Tryz.func108 rfl trivial ?_ rfl
  simp only [Tryz.ntmps108, List.size_toArray, List.length_cons, List.length_nil, Nat.reduceAdd, Nat.reduceSub, Array.replicate_succ, Array.replicate_zero, List.push_toArray, List.append_toArray, List.nil_append, List.cons_append]
  gi_wp2
  gi_loopw [4, 7] (fun _ i wr => ∃ k : Nat, k ≤ zs.length ∧ i = .int .i64 k ∧ J (zs.take k) wr ∧ Below n₀ W wr)
    (fun _ i _ => zs.length - (intOf i).toNat)
  case atStart => exact ⟨0, Nat.zero_le _, rfl, by simpa using h0, Below.refl _ _⟩
  case round =>
    obtain ⟨k, hk, rfl, hJs, hnx⟩ := hrel
    by_cases hlt : k < zs.length
    · obtain ⟨s, hs⟩ : ∃ s, zs[k]? = some s := ⟨_, List.getElem?_eq_getElem hlt⟩
      have hcx : wr.cell? ⟨b, off + k, none⟩ = some (.string s) := (hnx.cell (p := ⟨b, off + k, none⟩) hb).trans (hc k s hs)
      have hl : (zs.take k).length = k := by rw [List.length_take]; omega
      obtain ⟨fn, tmps, assign, body, hy, hR⟩ := hY _ s wr hJs (by omega)
      have Hs := Lib.hid (take_snocB zs k s hs)
      clear hc hs hl
      gi_wp2
      refine hR.mono ?_
      rintro e W3 (⟨rfl, hJ3, hk3⟩ | ⟨rfl, hJx3⟩)
      · gi_wp2
        go_roundw
        case rel => exact ⟨k + 1, by omega, by simp, by rw [Hs.out]; exact hJ3, hnx.trans hk3⟩
        case measure => simp [intOf]; omega
      · gi_wp2
        refine bodyPost_ret (results_none rfl _ _ _) rfl ?_
        exact ⟨⟨_, rfl⟩, .inr ⟨_, by rw [← Hs.out]; exact List.take_prefix _ _, hJx3⟩⟩
    · obtain rfl : k = zs.length := by omega
      gi_wp2
      go_end0
      exact ⟨⟨_, rfl⟩, .inl ⟨_, rfl, by rw [List.take_of_length_le (Nat.le_refl _)] at hJs; exact hJs⟩⟩

set_option maxRecDepth 100000 in
set_option maxHeartbeats 1000000 in
theorem values1_none (n : Nat) (l Bs cap : Nat) (A : Option Addr) (J : List ByteArray → World → Prop) (W : World) (hBs : W.cell? ⟨Bs, 0, none⟩ = some (.slice A 0 cap)) (h0 : J [] W) :
    CallsIn Fence.wide n Tryz.prog 108 #[.func (.yield l) #[] #[], .pointer (some ⟨Bs, 0, none⟩)] W fun e W' => (∃ v, e = .returned v) ∧ J [] W' := by
  refine callsIn_of_wp Tryz.func108 rfl trivial ?_ rfl
  simp only [Tryz.ntmps108, List.size_toArray, List.length_cons, List.length_nil, Nat.reduceAdd, Nat.reduceSub, Array.replicate_succ, Array.replicate_zero, List.push_toArray, List.append_toArray, List.nil_append, List.cons_append]
  gi_wp2
  gi_loopw [7] (fun i wr => i = .int .i64 0 ∧ J [] wr) (fun _ _ => 0)
  case atStart => exact ⟨rfl, h0⟩
  case round =>
    obtain ⟨rfl, hJs⟩ := hrel
    gi_wp2
    go_end0
    exact ⟨⟨_, rfl⟩, hJs⟩

/-- slices.Values(s): the slice is boxed -/
theorem values_in (A : Option Addr) (L cap : Nat) (w : World) :
    Calls Tryz.prog 80 #[.slice A L cap] w fun e w' =>
      e = .returned (.func (.func 108) #[] #[.pointer (some ⟨w.heap.size, 0, none⟩)]) ∧
      w' = w.alloc (.cells #[.slice A L cap] 23) := by
  go_enter Tryz.func80, Tryz.ntmps80
  go_wp2
  go_ret
  exact ⟨rfl, rfl⟩

theorem values_stops (n : Nat) (hn : 1 ≤ n) (Bs n₀ L cap : Nat) (A : Option Addr) (zs : List ByteArray) (hreach : zs.length ≤ 1000) (w : World) (hBs : Bs < w.heap.size) (hn₀ : n₀ ≤ w.heap.size)
    (hc : w.cell? ⟨Bs, 0, none⟩ = some (.slice A L cap)) (hI : Strs w A L cap zs) (hA : 0 < L → ∀ a, A = some a → a.block < n₀) :
    SeqStopsK Fence.wide n Tryz.prog 108 #[.pointer (some ⟨Bs, 0, none⟩)] (fun x : ByteArray => #[Value.string x]) (Below n₀) (fun ys => ys = zs) (fun pre => pre <+: zs) zs.length w := fun l J Jx W hW _ _ hY h0 => by
  have hc' := (hW.cell (p := ⟨Bs, 0, none⟩) hBs).trans hc
  obtain rfl := hI.len
  rcases Nat.eq_zero_or_pos zs.length with h | h
  · have hz := List.eq_nil_of_length_eq_zero h
    subst hz
    exact (values1_none n l Bs cap A J W hc' h0).mono fun e W' ⟨he, hj⟩ => ⟨he, .inl ⟨_, rfl, hj⟩⟩
  · obtain ⟨b, off, s, rfl, hb, _, _⟩ := hI.get h
    have hI' := hI.below hW
    have hcs : ∀ j s, zs[j]? = some s → W.cell? ⟨b, off + j, none⟩ = some (.string s) := fun j s hs => by
      obtain ⟨b', off', s', e, _, Hs, hcell⟩ := hI'.get (List.getElem?_eq_some_iff.1 hs).1
      injection e with e
      injection e with e1 e2
      subst e1; subst e2
      rw [Hs.out] at hs
      injection hs with hs
      rw [hcell, hs]
    exact values1_in n hn l Bs n₀ b off cap zs hreach (hA h _ rfl) J Jx hY W hc' hI.cap hcs h0

set_option maxRecDepth 100000 in
set_option maxHeartbeats 4000000 in
/-- slices.AppendSeq(nil, slices.Values(s)) -/
theorem appendSeq_in (n : Nat) (hn : 3 ≤ n) (Bs L cap : Nat) (A : Option Addr) (zs : List ByteArray) (hreach : zs.length ≤ 1000) (w : World) (hBs : Bs < w.heap.size) (hc : w.cell? ⟨Bs, 0, none⟩ = some (.slice A L cap)) (hI : Strs w A L cap zs) :
    CallsIn Fence.wide n Tryz.prog 123 #[.slice none 0 0, .func (.func 108) #[] #[.pointer (some ⟨Bs, 0, none⟩)]] w fun e w' =>
      ∃ v, e = .returned v ∧ w'.ownsRow w.heap.size 9 1 v zs.length (zs.map Value.string) ∧ Below w.heap.size w w' := by
  have h1 : 1 ≤ n := by omega
  have hi9 : (Tryz.prog.info? 9).map (fun i => (i.zero, i.size, i.bytes)) = some (some (.string ⟨#[]⟩), 1, 16) := by kernel_rfl
  obtain ⟨i0, hi, hz0, hz1, hz2⟩ := info_parts hi9
  refine callsIn_of_wp_marks Tryz.func123 rfl trivial ?_ rfl
  simp only [Tryz.ntmps123, List.size_toArray, List.length_cons, List.length_nil, Nat.reduceAdd, Nat.reduceSub, Array.replicate_succ, Array.replicate_zero, List.push_toArray, List.append_toArray, List.nil_append, List.cons_append]
  gi_wp2
  have bS := Boxed.new w 23 (.slice none 0 0)
  have hB0 : Below w.heap.size w (w.alloc (.cells #[.slice none 0 0] 23)) := (Below.refl _ w).alloc (Nat.le_refl _) _
  have hA : 0 < L → ∀ a, A = some a → a.block < w.heap.size := fun h a ha => by
    obtain ⟨b, off, s, e, hb, _⟩ := hI.get h
    rw [ha] at e
    injection e with e
    rw [e]; exact hb
  have hst := values_stops (n - 1) (by omega) Bs w.heap.size L cap A zs hreach w hBs (Nat.le_refl _) hc hI hA
  refine wpIn_rangeFunc_ownG (F := Fence.wide) (n := n) rfl h1 (gf := 108) (lb := #[.pointer (some ⟨Bs, 0, none⟩)]) rfl trivial (enters_of Tryz.func108 (by kernel_rfl) rfl)
    hst belowK_t (belowK_b (by simp)) hB0 (fun _ => rfl)
    (fun pre W => (∃ v, Boxed W w.heap.size 23 v ∧ W.ownsRow w.heap.size 9 1 v pre.length (pre.map Value.string) ∧ True) ∧ Below w.heap.size w W)
    (fun _ _ _ => False)
    (OwnFrom.and (Own.from (holdsRow_own w.heap.size w.heap.size 23 9 1 (fun pre : List ByteArray => pre.length) (fun pre => pre.map Value.string) (fun _ _ => True)) _) (ownFrom_below (Nat.le_refl _) (by simp)))
    (fun _ _ _ _ _ hs _ _ => hs)
    ⟨⟨_, bS, ⟨rfl, .inl ⟨rfl, rfl⟩⟩, trivial⟩, hB0⟩
    (fun x => { tmps := #[.slice none 0 0, .func (.func 108) #[] #[.pointer (some ⟨Bs, 0, none⟩)], .pointer (some ⟨w.heap.size, 0, none⟩), undef, .slice none 0 0, .string x, .func (.func 108) #[] #[.pointer (some ⟨Bs, 0, none⟩)], .string x, undef, undef, undef, undef, undef], defers := [] }) ?assign ?body ?done ?stop
  case assign =>
    intro l x W K hK
    gi_wp2
    exact hK
  case body =>
    rintro l pre x W ⟨⟨v, hv, hrow, _⟩, hB⟩ hlen
    have hc1 := hv.cell
    have hf1 := hv.frozen
    have hB' := hB.size
    have hvlt := hv.lt
    gi_wp2_with (gi_at_builtin; refine wpListIn_append_own _ rfl _ _ 23 rfl w.heap.size 9 i0 (.string ⟨#[]⟩) 1 16 Tryz.underlying23 hi hz0 hz1 hz2 rfl (by decide) _ _ _ rfl (hrow.alloc _) ⟨W.heap.size, 0, none⟩ 1 1 [.string x] rfl rfl (cell_one_new _ _ _) (by simp [Value.oneCell']) (by simp [maxLen]; omega) (by omega) (by simp; omega) ?_; intro v' w3 hown' hg3 hnil3; have hg3' : (W.alloc (.cells #[.string x] 9)).grownBy w3 v.ownBlock := hg3; obtain ⟨g', cap', rfl⟩ := ownsRow_succ hown'; have hap := hv.appended (by decide) hrow hB' (Nat.le_refl _) hown' hg3'; have hc3 := hap.1.cell; have hf3 := hap.1.frozen; have Hap := Lib.hid hap; clear hap hg3 hg3' hown' hnil3 hrow hc1 hf1; go_frame)
    obtain ⟨_, e2, e3, e4, e5⟩ := Hap.out
    exact ⟨e4.from _, e5, ⟨_, e2, by simpa using e3, trivial⟩, hB.trans e5⟩
  case done =>
    rintro D ys W hD rfl ⟨⟨v, hv, hrow, _⟩, hB⟩ hK
    have hc1 := hv.cell
    gi_wp2
    refine ⟨by simp, .inl ⟨_, _, rfl, run_takeDeferred hK, ?_⟩⟩
    exact ⟨_, results_tmp rfl _ _ _, v, rfl, ownsRow_putObj hrow _ hK rfl, hB.trans (belowK_b (w := w) (Nat.le_refl _) W D _ _ (by simp at hD; omega) hK rfl rfl)⟩
  case stop =>
    rintro D c pre W _ _ h _
    exact h.elim
end Go.Proofs.YtfdbpafenhdkbaaGreatDoor

namespace Go.Proofs.YtfdbpafenhdkbaaGreatDoor
open Go.RowKit Go.Shelf Go.Sort
set_option linter.unusedVariables false
set_option linter.unusedSimpArgs false

/-! ### plain -/
theorem compact_len (l : List (List UInt8)) (hs : l.Pairwise (fun x y => x ≤ y)) : (Lib.compact l).length = l.length ↔ l.Nodup := by
  unfold Lib.compact Lib.compactUpTo
  rw [List.length_map]
  have h1 : (List.filter (Lib.keeps l.toArray) (List.range l.length)).length = l.length ↔ ∀ j ∈ List.range l.length, Lib.keeps l.toArray j = true := by
    have := List.length_filter_eq_length_iff (p := Lib.keeps l.toArray) (l := List.range l.length)
    rwa [List.length_range] at this
  rw [h1]
  have hk : ∀ j, 0 < j → j < l.length → (Lib.keeps l.toArray j = true ↔ l[j]? ≠ l[j - 1]?) := by
    intro j h0 hj
    have e1 : l.toArray[j]! = l[j]'hj := by simp [hj]
    have e2 : l.toArray[j - 1]! = l[j - 1]'(by omega) := by simp [show j - 1 < l.length by omega]
    rw [List.getElem?_eq_getElem hj, List.getElem?_eq_getElem (show j - 1 < l.length by omega)]
    constructor
    · intro h he
      injection he with he
      rw [Lib.keeps_neg h0 (by rw [e1, e2]; exact he)] at h
      cases h
    · intro h
      exact Lib.keeps_pos (by rw [e1, e2]; intro he; exact h (by rw [he]))
  constructor
  · intro h
    rw [List.nodup_iff_pairwise_ne, List.pairwise_iff_getElem]
    intro i j hi hj hij he
    have hle : ∀ a b (ha : a < l.length) (hb : b < l.length), a ≤ b → l[a] ≤ l[b] := by
      intro a b ha hb hab
      rcases Nat.lt_or_ge a b with h | h
      · exact List.pairwise_iff_getElem.1 hs a b ha hb h
      · obtain rfl : a = b := by omega
        exact List.le_refl _
    have h2 := hle i (j - 1) hi (by omega) (by omega)
    have h3 := hle (j - 1) j (by omega) hj (by omega)
    rw [he] at h2
    have := List.le_antisymm h3 h2
    have hkj := (hk j (by omega) hj).1 (h j (by rw [List.mem_range]; exact hj))
    apply hkj
    rw [List.getElem?_eq_getElem hj, List.getElem?_eq_getElem (show j - 1 < l.length by omega), this]
  · intro h j hj
    rw [List.mem_range] at hj
    rcases Nat.eq_zero_or_pos j with h0 | h0
    · subst h0; simp [Lib.keeps]
    · rw [hk j h0 hj, List.getElem?_eq_getElem hj, List.getElem?_eq_getElem (show j - 1 < l.length by omega)]
      intro he
      injection he with he
      rw [List.nodup_iff_pairwise_ne, List.pairwise_iff_getElem] at h
      exact h (j - 1) j (by omega) hj (by omega) he.symm
theorem sorted_len (ss : List (List UInt8)) : (Lib.compact (ss.mergeSort fun x y => decide (x ≤ y))).length = ss.length ↔ ss.Nodup := by
  have hp := List.mergeSort_perm ss (fun x y => decide (x ≤ y))
  have hs : (ss.mergeSort fun x y => decide (x ≤ y)).Pairwise (fun x y => x ≤ y) := by
    have := List.pairwise_mergeSort (le := fun x y : List UInt8 => decide (x ≤ y)) (fun a b c h1 h2 => by
      simp only [decide_eq_true_eq] at *; exact List.le_trans h1 h2) (fun a b => by
      simp only [Bool.or_eq_true, decide_eq_true_eq]; exact List.le_total _ _) ss
    exact this.imp fun h => by simpa using h
  rw [← hp.nodup_iff, ← hp.length_eq]
  exact compact_len _ hs
def byL (zs : List ByteArray) : List (List UInt8) := zs.map fun z => z.data.toList
theorem byL_nodup (zs : List ByteArray) : (byL zs).Nodup ↔ zs.Nodup := by
  unfold byL
  rw [List.nodup_iff_pairwise_ne, List.nodup_iff_pairwise_ne, List.pairwise_map]
  constructor
  · intro h
    exact h.imp fun hne he => hne (by rw [he])
  · intro h
    refine h.imp fun {a b} hne he => hne ?_
    cases a; cases b
    simp only [ByteArray.mk.injEq]
    exact Array.toList_inj.1 he
theorem encStr_byL (zs : List ByteArray) : (byL zs).map encStr = zs.map Value.string := by
  unfold byL
  rw [List.map_map]
  refine List.map_congr_left fun z _ => ?_
  cases z
  simp [encStr]

/-! ### walks -/
theorem collect_s (Bs L cap : Nat) (A : Option Addr) (zs : List ByteArray) (hreach : zs.length ≤ 1000) (w : World) (hBs : Bs < w.heap.size) (hc : w.cell? ⟨Bs, 0, none⟩ = some (.slice A L cap)) (hI : Strs w A L cap zs) :
    Calls Tryz.prog 106 #[.func (.func 108) #[] #[.pointer (some ⟨Bs, 0, none⟩)]] w fun e w' =>
      ∃ v, e = .returned v ∧ w'.ownsRow w.heap.size 9 1 v zs.length (zs.map Value.string) ∧ Below w.heap.size w w' := by
  have hc1 := (callsIn_wide (n := 3)).1 (appendSeq_in 3 (by decide) Bs L cap A zs hreach w hBs hc hI)
  have H := Lib.hid hc1
  clear hc1 hc hI
  go_enter Tryz.func106, Tryz.ntmps106
  go_wp2_with (go_at_call 123; (with_reducible refine H.out.mono ?_); rintro e w2 ⟨v, rfl, ho, hb⟩)
  go_ret
  exact ⟨v, rfl, ho, hb⟩

/-- sorted strings come back -/
def RetSorted (w : World) (zs : List ByteArray) (e : Ending) (w' : World) : Prop :=
  Below w.heap.size w w' ∧ ((zs = [] ∧ e = .returned (.slice none 0 0)) ∨
    ∃ g cap, e = .returned (.slice (some ⟨g, 0, none⟩) zs.length cap) ∧ w.heap.size ≤ g ∧ g < w'.heap.size ∧ zs.length ≤ cap ∧ Holds encStr w' g 0 ((byL zs).mergeSort fun x y => decide (x ≤ y)).toArray)

set_option maxHeartbeats 400000 in
theorem sorted_s (Bs L cap : Nat) (A : Option Addr) (zs : List ByteArray) (hreach : zs.length ≤ 1000) (w : World) (hBs : Bs < w.heap.size) (hc : w.cell? ⟨Bs, 0, none⟩ = some (.slice A L cap)) (hI : Strs w A L cap zs) :
    Calls Tryz.prog 79 #[.func (.func 108) #[] #[.pointer (some ⟨Bs, 0, none⟩)]] w (RetSorted w zs) := by
  have H := Lib.hid (collect_s Bs L cap A zs hreach w hBs hc hI)
  clear hc hI
  go_enter Tryz.func79, Tryz.ntmps79
  go_wp2_with (go_at_call 106; (with_reducible refine H.out.mono ?_); rintro e W ⟨v, rfl, hrow, hb⟩)
  have hlen : (byL zs).length = zs.length := by simp [byL]
  rcases hrow.2 with ⟨rfl, hz⟩ | ⟨gb, cap', cur, rfl, hbase, hgb, r1, r2, r3, r4⟩
  · have hz' := List.eq_nil_of_length_eq_zero hz
    subst hz'
    have Hs := Lib.hid (Tryz.slices_Sort_string_none none 0 W)
    go_wp2_with (go_at_call 107; (with_reducible refine Hs.out.mono ?_); rintro e w' ⟨rfl, rfl⟩)
    go_ret
    exact ⟨hb, .inl ⟨rfl, rfl⟩⟩
  · have hgl : gb < W.heap.size := (Array.getElem?_eq_some_iff.1 hgb).1
    have hH : Holds encStr W gb 0 (byL zs).toArray := holds_of_block hgb (by rw [hlen, encStr_byL]; simpa using r4)
    have cS := Tryz.slices_Sort_string gb 0 cap' (byL zs) W hH hgl (by omega)
    rw [hlen] at cS
    have CS := Lib.hid cS
    clear cS hH
    go_wp2_with (go_at_call 107; (with_reducible refine CS.out.mono ?_); rintro e w' ⟨rfl, nn, os, rfl⟩)
    go_ret
    have hsl : ((byL zs).mergeSort fun x y => decide (x ≤ y)).length = (byL zs).length := by simp
    have ho := ownsRow_sorted (n := nn) (os := os) hsl hbase hgb (by omega) r2 r3
    have hbel := hb.grown (grownBy_sorted (n := nn) (os := os) ((byL zs).mergeSort fun x y => decide (x ≤ y)).toArray) hb.size (fun j hj => by cases hj; exact hbase)
    refine ⟨hbel, .inr ⟨gb, cap', rfl, hbase, ?_, r1, ?_⟩⟩
    · exact Nat.lt_of_lt_of_le hgl (grownBy_sorted (n := nn) (os := os) _).size
    · rcases ho.2 with ⟨h0, _⟩ | ⟨g2, cap2, cur2, h0, _, hg2, _, _, _, q4⟩
      · cases h0
      · injection h0 with e1 _ _
        injection e1 with e1
        injection e1 with e1
        subst e1
        exact holds_of_block hg2 (by rw [hsl]; simpa using q4)
end Go.Proofs.YtfdbpafenhdkbaaGreatDoor

namespace Go.Proofs.YtfdbpafenhdkbaaGreatDoor
open Go.RowKit Go.Shelf Go.Sort
set_option linter.unusedVariables false
set_option linter.unusedSimpArgs false

theorem grow_none (w : World) : grow w #[] = w := by unfold grow; simp

set_option maxHeartbeats 400000 in
theorem cf_alone (A : Option Addr) (n c : Nat) (zs : List ByteArray) (w : World) (h : Strs w A n c zs) (hn : n ≤ 1000) :
    Calls Tryz.prog 50 #[.slice A n c] w fun e w' => e = .returned (.bool (decide zs.Nodup)) ∧ Below w.heap.size w w' := by
  obtain rfl := h.len
  have hcap := h.cap
  have cV := values_in A zs.length c w
  have hB0 := alloc_below w (.cells #[.slice A zs.length c] 23)
  have hbx := alloc_cell w 23 #[.slice A zs.length c] 0
  simp only [List.getElem?_toArray, List.getElem?_cons_zero] at hbx
  have cS := sorted_s w.heap.size zs.length c A zs hn (w.alloc (.cells #[.slice A zs.length c] 23)) (by simp) hbx (h.below hB0)
  have hsz := alloc_size w (.cells #[.slice A zs.length c] 23)
  have CV := Lib.hid cV
  have CS := Lib.hid cS
  clear cV cS hbx
  go_enter Tryz.func50, Tryz.ntmps50
  go_wp2_with fail
  (with_reducible refine CV.out.mono ?_)
  rintro e w1 ⟨rfl, rfl⟩
  go_wp2_with fail
  (with_reducible refine CS.out.mono ?_)
  rintro e w2 ⟨hb2, hret⟩
  have hB2 := below_tail hB0 hb2
  rcases hret with ⟨rfl, rfl⟩ | ⟨g, cap, rfl, hbase, hgl, hcp, hH⟩
  · have Hc := Lib.hid (Tryz.slices_Compact_string_empty none 0 w2)
    go_wp2_with fail
    (with_reducible refine Hc.out.mono ?_)
    rintro e w3 ⟨rfl, rfl⟩
    go_wp2_with fail
    go_ret
    exact ⟨by simp, hB2⟩
  · have hlen : ((byL zs).mergeSort fun x y => decide (x ≤ y)).length = zs.length := by simp [byL]
    have cC := Tryz.slices_Compact_string g 0 cap ((byL zs).mergeSort fun x y => decide (x ≤ y)) w2 hH (by omega) (by omega)
    rw [hlen] at cC
    have hf : decide zs.Nodup = decide ((Lib.compact ((byL zs).mergeSort fun x y => decide (x ≤ y))).length = zs.length) := by
      have := sorted_len (byL zs)
      rw [byL_nodup, show (byL zs).length = zs.length by simp [byL]] at this
      rw [Bool.eq_iff_iff, decide_eq_true_iff, decide_eq_true_iff]
      exact this.symm
    have Hf := Lib.hid hf
    have HB : Hid (∀ q d, Below w.heap.size w (putRow encStr (Sort.ahead w2 q) g 0 d)) := Lib.hid fun q d => by
      have := hB2.grown (grownBy_sorted (n := q) (os := #[]) (g := g) d) hB2.size (fun j hj => by cases hj; omega)
      rwa [grow_none] at this
    generalize (Lib.compact ((byL zs).mergeSort fun x y => decide (x ≤ y))).length = m at *
    have CC := Lib.hid cC
    clear cC hH hf hlen
    go_wp2_with fail
    (with_reducible refine CC.out.mono ?_)
    rintro e w3 ⟨rfl, q, rfl⟩
    have Hq := Lib.hid (HB.out q (Lib.compact ((byL zs).mergeSort fun x y => decide (x ≤ y)) ++ List.replicate (zs.length - m) []).toArray)
    generalize putRow encStr (Sort.ahead w2 q) g 0 (Lib.compact ((byL zs).mergeSort fun x y => decide (x ≤ y)) ++ List.replicate (zs.length - m) []).toArray = w4 at *
    have Hm : Hid (((m : Int) == (zs.length : Int)) = decide (m = zs.length)) := Lib.hid (by rw [Bool.eq_iff_iff]; simp; omega)
    go_wp2_with fail
    go_ret
    exact ⟨by rw [Hf.out, ← Hm.out]; rfl, Hq.out⟩
end Go.Proofs.YtfdbpafenhdkbaaGreatDoor
