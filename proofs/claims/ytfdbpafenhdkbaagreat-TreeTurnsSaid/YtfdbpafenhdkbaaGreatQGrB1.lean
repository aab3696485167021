/- first: what symbols begin with, walked. -/
import Derived.Test.YtfdbpafenhdkbaaGreatQGrN3
import Derived.Test.YtfdbpafenhdkbaaGreatQGrK
import Derived.StillTail
namespace Go.Proofs.YtfdbpafenhdkbaaGreat
open Go.RowKit
set_option linter.unusedVariables false
set_option linter.unusedSimpArgs false

theorem drop_at {α : Type} {l : List α} {k : Nat} {x : α} (h : l[k]? = some x) : l.drop k = x :: l.drop (k + 1) := by
  obtain ⟨hk, he⟩ := List.getElem?_eq_some_iff.1 h
  rw [List.drop_eq_getElem_cons hk, he]
theorem begin_term {N : List Bool} {F : List Nat} {rest : Nat} {ss : List Int} {k : Nat} {s : Int} (acc : Nat) (hs : ss[k]? = some s) (h0 : 0 ≤ s) : beginGo N F rest (ss.drop k) acc = acc ||| bitN s := by
  rw [drop_at hs, beginGo, if_pos h0]
theorem begin_non {N : List Bool} {F : List Nat} {rest : Nat} {ss : List Int} {k : Nat} {s : Int} (acc : Nat) (hs : ss[k]? = some s) (h0 : ¬ 0 ≤ s) : beginGo N F rest (ss.drop k) acc = if N.getD (nonI s) false then beginGo N F rest (ss.drop (k + 1)) (acc ||| F.getD (nonI s) 0) else acc ||| F.getD (nonI s) 0 := by
  rw [drop_at hs, beginGo, if_neg h0]
theorem begin_end {N : List Bool} {F : List Nat} {rest : Nat} {ss : List Int} (acc : Nat) : beginGo N F rest (ss.drop ss.length) acc = acc ||| rest := by
  rw [List.drop_length, beginGo]

set_option maxHeartbeats 1000000 in
theorem rf_of (Ar : Option Addr) (nr cr g1 g2 n : Nat) (ss : List Int) (N : List Bool) (F : List Nat) (rest : Nat) (w : World) (hr : Ints .i64 w Ar nr cr ss) (hN : BoolT w g1 N) (hF : SetT w g2 F) (hn : N.length = n) (hf : F.length = n) (hn2 : n ≤ 1000) (hs : ∀ s ∈ ss, -(n : Int) ≤ s) (hsm : Small F) (hrest : rest < 4294967296) :
    Calls Tryz.prog 41 #[.slice Ar nr cr, .slice (some ⟨g1, 0, none⟩) n n, .slice (some ⟨g2, 0, none⟩) n n, .int .u32 (rest : Int)] w fun e w' => e = .returned (.int .u32 ((beginP N F ss rest : Nat) : Int)) ∧ w = w' := by
  obtain rfl := hr.len
  have hcap := hr.cap
  have Hs := Lib.hid hs
  have HN := Lib.hid hN
  have HF := Lib.hid hF
  have Hsm := Lib.hid hsm
  clear hs hN hF hsm
  go_enter Tryz.func41, Tryz.ntmps41
  go_wp2_with fail
  go_loop [9, 10] (fun v i => ∃ (k acc : Nat), k ≤ ss.length ∧ i = .int .i64 (k : Int) ∧ v = .int .u32 (acc : Int) ∧ acc < 4294967296 ∧ Hid (beginGo N F rest (ss.drop k) acc = beginP N F ss rest)) (fun _ i => ss.length - (intOf i).toNat)
  case atStart => exact ⟨0, 0, Nat.zero_le _, rfl, rfl, by decide, Lib.hid rfl⟩
  case round =>
    obtain ⟨k, acc, hk, rfl, rfl, hacc, Hk⟩ := hrel
    by_cases hkk : k < ss.length
    · obtain ⟨bb, off, s, rfl, hb, Hsv, q0⟩ := hr.get hkk
      have s1 := Hs.out s (List.mem_of_getElem? Hsv.out)
      by_cases h0 : 0 ≤ s
      · have Hfin := Lib.hid ((begin_term (rest := rest) (N := N) (F := F) acc Hsv.out h0).symm.trans Hk.out)
        have CB := Lib.hid (ref_bit s w)
        have hor := or32 acc (bitN s) hacc (bitN_lt s)
        generalize bitN s = bt at *
        go_wp2_with (go_at_call 45; (with_reducible refine CB.out.mono ?_); rintro e w3 ⟨rfl, rfl⟩)
        go_ret
        exact ⟨by rw [← Hfin.out]; rfl, rfl⟩
      · obtain ⟨j, hj, hnj, hw⟩ := non_place (s := s) (n := n) (by omega) s1 hn2
        have hst := begin_non (rest := rest) (N := N) (F := F) acc Hsv.out h0
        rw [hnj] at hst
        have c0 := HN.out.at (i := j) (by omega)
        have c1 := HF.out.at (i := j) (by omega)
        have hlt := Hsm.out.get j
        have hor := or32 acc (F.getD j 0) hacc hlt
        have hlt2 := or_lt32 hacc hlt
        generalize N.getD j false = x at *
        generalize F.getD j 0 = y at *
        have Hst := Lib.hid hst
        clear hst
        rcases (by cases x <;> simp : x = false ∨ x = true) with rfl | rfl
        · go_wp2_with fail
          go_ret
          exact ⟨by rw [← Hk.out, Hst.out]; rfl, rfl⟩
        · go_wp2_with fail
          go_roundw
          case rel => exact ⟨k + 1, acc ||| y, by omega, by go_num, rfl, hlt2, Lib.hid (by rw [← Hk.out, Hst.out]; rfl)⟩
          case measure => simp [intOf]; omega
    · obtain rfl : k = ss.length := by omega
      have Hfin := Lib.hid ((begin_end (rest := rest) (N := N) (F := F) (ss := ss) acc).symm.trans Hk.out)
      have hor := or32 acc rest hacc hrest
      go_wp2_with fail
      go_ret
      exact ⟨by rw [← Hfin.out]; rfl, rfl⟩
end Go.Proofs.YtfdbpafenhdkbaaGreat

namespace Go.Proofs.YtfdbpafenhdkbaaGreat
open Go.RowKit
set_option linter.unusedVariables false
set_option linter.unusedSimpArgs false

theorem ofN_one (s : Int) : ofN [s] = bitN s := by simp [ofN]

set_option maxHeartbeats 1000000 in
theorem pf_of (Ar : Option Addr) (nr cr g1 g2 n : Nat) (ss : List Int) (N : List Bool) (F : List Nat) (rest : Nat) (w : World) (hr : Ints .i64 w Ar nr cr ss) (hN : BoolT w g1 N) (hF : SetT w g2 F) (hn : N.length = n) (hf : F.length = n) (hn2 : n ≤ 1000) (hs : ∀ s ∈ ss, -(n : Int) ≤ s) (hsm : Small F) (hrest : rest < 4294967296) :
    Calls Tryz.prog 44 #[.agg #[.slice (some ⟨g1, 0, none⟩) n n, .slice (some ⟨g2, 0, none⟩) n n], .slice Ar nr cr, .int .u32 (rest : Int)] w fun e w' => e = .returned (.int .u32 ((beginP N F ss rest : Nat) : Int)) ∧ Below w.heap.size w w' := by
  obtain rfl := hr.len
  have hcap := hr.cap
  have Hs := Lib.hid hs
  have HN := Lib.hid hN
  have HF := Lib.hid hF
  have Hsm := Lib.hid hsm
  have hl1 := hN.lt
  have hl2 := hF.lt
  clear hs hN hF hsm
  have hB0 := alloc_below w (.cells #[.slice (some ⟨g1, 0, none⟩) n n, .slice (some ⟨g2, 0, none⟩) n n] 56)
  have hX0 := Blk.new w 56 #[.slice (some ⟨g1, 0, none⟩) n n, .slice (some ⟨g2, 0, none⟩) n n]
  go_enter Tryz.func44, Tryz.ntmps44
  go_wp2_with fail
  generalize w.alloc (.cells #[.slice (some ⟨g1, 0, none⟩) n n, .slice (some ⟨g2, 0, none⟩) n n] 56) = W0 at *
  go_loopw [6, 8, 11] (fun v _ i wr => ∃ (k acc : Nat), k ≤ ss.length ∧ i = .int .i64 (k : Int) ∧ v = .int .u32 (acc : Int) ∧ acc < 4294967296 ∧ Below w.heap.size w wr ∧ Blk wr w.heap.size 56 #[.slice (some ⟨g1, 0, none⟩) n n, .slice (some ⟨g2, 0, none⟩) n n] ∧ Hid (beginGo N F rest (ss.drop k) acc = beginP N F ss rest)) (fun _ _ i _ => ss.length - (intOf i).toNat)
  case atStart => exact ⟨0, 0, Nat.zero_le _, rfl, rfl, by decide, hB0, hX0, Lib.hid rfl⟩
  case round =>
    clear hB0 hX0
    obtain ⟨k, acc, hk, rfl, rfl, hacc, hB, hX, Hk⟩ := hrel
    by_cases hkk : k < ss.length
    · obtain ⟨bb, off, s, rfl, hb, Hsv, q0⟩ := hr.get hkk
      rw [← hB.cell (by exact hb)] at q0
      have s1 := Hs.out s (List.mem_of_getElem? Hsv.out)
      by_cases h0 : 0 ≤ s
      · have Hfin := Lib.hid ((begin_term (rest := rest) (N := N) (F := F) acc Hsv.out h0).symm.trans Hk.out)
        have hc := set_of _ 1 1 [s] _ (one_int wr 3 s)
        rw [ofN_one] at hc
        have CB := Lib.hid hc
        have hB1 := hB.alloc hB.size (.cells #[.int .i64 s] 3)
        have hor := or32 acc (bitN s) hacc (bitN_lt s)
        generalize bitN s = bt at *
        clear hc
        go_wp2_with (go_at_call 42; (with_reducible refine CB.out.mono ?_); rintro e w3 ⟨rfl, rfl⟩)
        go_ret
        exact ⟨by rw [← Hfin.out]; rfl, hB1⟩
      · obtain ⟨j, hj, hnj, hw⟩ := non_place (s := s) (n := n) (by omega) s1 hn2
        have hst := begin_non (rest := rest) (N := N) (F := F) acc Hsv.out h0
        rw [hnj] at hst
        have c0 := HN.out.at (i := j) (by omega)
        have c1 := HF.out.at (i := j) (by omega)
        rw [← hB.cell (by exact hl1)] at c0
        rw [← hB.cell (by exact hl2)] at c1
        have x0 := Blk.cell hX 0
        have x1 := Blk.cell hX 1
        simp only [List.getElem?_toArray, List.getElem?_cons_zero, List.getElem?_cons_succ] at x0 x1
        have hlt := Hsm.out.get j
        have hor := or32 acc (F.getD j 0) hacc hlt
        have hlt2 := or_lt32 hacc hlt
        generalize N.getD j false = x at *
        generalize F.getD j 0 = y at *
        have Hst := Lib.hid hst
        clear hst
        rcases (by cases x <;> simp : x = false ∨ x = true) with rfl | rfl
        · go_wp2_with fail
          go_ret
          exact ⟨by rw [← Hk.out, Hst.out]; rfl, hB⟩
        · go_wp2_with fail
          go_roundw
          case rel => exact ⟨k + 1, acc ||| y, by omega, by go_num, rfl, hlt2, hB, hX, Lib.hid (by rw [← Hk.out, Hst.out]; rfl)⟩
          case measure => simp [intOf]; omega
    · obtain rfl : k = ss.length := by omega
      have Hfin := Lib.hid ((begin_end (rest := rest) (N := N) (F := F) (ss := ss) acc).symm.trans Hk.out)
      have hor := or32 acc rest hacc hrest
      go_wp2_with fail
      go_ret
      exact ⟨by rw [← Hfin.out]; rfl, hB⟩

/-- something is put to a place of a row -/
theorem pf_still (g n i x : Nat) (F : List Nat) (w : World) (hF : SetT w g F) (hf : F.length = n) (hi : i < n) (hn2 : n ≤ 1000) (hsm : Small F) (hx : x < 4294967296) :
    Calls Tryz.prog 43 #[.slice (some ⟨g, 0, none⟩) n n, .int .i64 (i : Int), .int .u32 (x : Int)] w fun e w' => e = .returned (.bool (decide (addAt i x F = F))) ∧ w' = w.setCell ⟨g, i, none⟩ (.int .u32 ((F.getD i 0 ||| x : Nat) : Int)) := by
  have c0 := hF.at (i := i) (by omega)
  have c1 := (hF.put i (F.getD i 0 ||| x)).at (i := i) (by simp; omega)
  have hg : (F.set i (F.getD i 0 ||| x)).getD i 0 = (F.getD i 0 ||| x) := by simp [List.getD_eq_getElem?_getD, show i < F.length by omega]
  rw [hg] at c1
  have hfz := Blk.frozen hF i
  have hgl := hF.lt
  have hor := or32 (F.getD i 0) x (hsm.get i) hx
  have hsame := addAt_same i x F (by omega)
  have hd : decide (F.getD i 0 ||| x = F.getD i 0) = (((F.getD i 0 ||| x : Nat) : Int) == ((F.getD i 0 : Nat) : Int)) := by
    rw [Bool.eq_iff_iff, decide_eq_true_iff, beq_iff_eq]; omega
  rw [hd] at hsame
  have Hsame := Lib.hid hsame
  clear hsame hd hg hF
  generalize F.getD i 0 ||| x = z at *
  generalize F.getD i 0 = y at *
  go_enter Tryz.func43, Tryz.ntmps43
  go_wp2_with fail
  go_ret
  exact ⟨by rw [← Hsame.out]; rfl, rfl⟩
end Go.Proofs.YtfdbpafenhdkbaaGreat

namespace Go.Proofs.YtfdbpafenhdkbaaGreat
open Go.RowKit
set_option linter.unusedVariables false
set_option linter.unusedSimpArgs false

section
variable {P : Program} {ops : Array Oper} {md : Region.Mode} {C : World → Prop}

/-- quiet steps ahead of operation n, in whatever order; then what is asked of the rest -/
def headQ (P : Program) (md : Region.Mode) (ops : Array Oper) (C : World → Prop) (n : Nat) (L : Array Bool → Act → Prop) : Nat → Array Bool → Act → Prop
  | 0, listed, a => L listed a
  | f + 1, listed, a => Region.ready md ops listed ≠ [] ∧ ∀ i ∈ Region.ready md ops listed, i < n ∧ qOp P ops C i (headQ P md ops C n L f (listed.setIfInBounds i true)) a

theorem any_of_headQ {n g : Nat} {L : Array Bool → Act → Prop} {Q' : Exit → Act → World → Prop} (hL : ∀ listed a w, C w → L listed a → wpAny P md ops Q' g listed a w) :
    ∀ (f : Nat) (listed : Array Bool) (a : Act) (w : World), C w → headQ P md ops C n L f listed a → wpAny P md ops Q' (f + g) listed a w
  | 0, listed, a, w, hw, h => by rw [Nat.zero_add]; exact hL _ _ _ hw h
  | f + 1, listed, a, w, hw, h => by
    rw [show f + 1 + g = (f + g) + 1 by omega]
    exact ⟨fun h0 => absurd h0 h.1, fun i hi => wpOp_of_qOp hw (fun a' w' hw' h' => any_of_headQ hL f _ a' w' hw' h') (h.2 i hi).2⟩

theorem headQ_first {n i : Nat} {oi : Oper} {v : Value} {L : Array Bool → Act → Prop} (hi : ops[i]? = some oi) (hsel : ∀ (j : Nat) (o : Oper) cs b, ops[j]? = some o → o.op ≠ .select cs b)
    (hs : Region.sinkB md ops n = true) (hc : Region.chainB md ops n = true) (hin : i < n)
    (hdone : ∀ listed a, L listed a → ∀ j ∈ Region.ready md ops listed, n ≤ j) :
    ∀ (f : Nat) (listed : Array Bool) (a : Act), HeadInv md ops n listed →
      (∀ j oj, ops[j]? = some oj → j ≠ i → listed.getD j true = false → (∀ e ∈ oj.after, Region.binds md e = true → e.on ≠ i) → oi.apart ops oj = true) →
      i ∈ Region.ready md ops listed → YieldsIn P ops C oi v a →
      headQ P md ops C n L f (listed.setIfInBounds i true) (a.put oi.dst v) → headQ P md ops C n L (f + 1) listed a := by
  intro f
  induction f with
  | zero =>
    intro listed a inv hfree hr hy H
    have hun := (mem_ready.1 hr).1
    have hn : n ≤ ops.size := by
      rcases Nat.lt_or_ge ops.size n with h | h
      · exfalso
        have h1 := List.all_eq_true.1 hs (ops.size) (List.mem_range.2 h)
        obtain ⟨j, hj, hj2⟩ := List.any_eq_true.1 h1
        simp only [Bool.and_eq_true, decide_eq_true_eq] at hj2
        obtain ⟨oj, hoj, _⟩ := Region.waitsFor_spec hj2.2
        have := (Array.getElem?_eq_some_iff.1 hoj).1
        omega
      · exact h
    refine ⟨fun h => (by rw [h] at hr; cases hr), fun j hj => ?_⟩
    have hjn : j < n := by
      rcases Nat.lt_or_ge j n with h | h
      · exact h
      · have hlt : j < ops.size := by
          obtain ⟨_, oj, hoj, _⟩ := mem_ready.1 hj
          exact (Array.getElem?_eq_some_iff.1 hoj).1
        exact absurd hj (tail_waits hs hc (by omega) inv _ i rfl hin hun j h)
    refine ⟨hjn, ?_⟩
    by_cases hji : j = i
    · subst hji; exact hy.qOp hi H
    · have := hdone _ _ H j (ready_mono hj hji)
      omega
  | succ f ih =>
    intro listed a inv hfree hr hy H
    have hun := (mem_ready.1 hr).1
    refine ⟨fun h => (by rw [h] at hr; cases hr), fun j hj => ?_⟩
    have hjn : j < n := by
      rcases Nat.lt_or_ge j n with h | h
      · exact h
      · have hlt : j < ops.size := by
          obtain ⟨_, oj, hoj, _⟩ := mem_ready.1 hj
          exact (Array.getElem?_eq_some_iff.1 hoj).1
        exact absurd hj (tail_waits hs hc (by omega) inv _ i rfl hin hun j h)
    refine ⟨hjn, ?_⟩
    by_cases hji : j = i
    · subst hji; exact hy.qOp hi H
    · have h1 := (H.2 j (ready_mono hj hji)).2
      obtain ⟨hjun, oj, hoj, hall⟩ := mem_ready.1 hj
      have hnot : ∀ e ∈ oj.after, Region.binds md e = true → e.on ≠ i := fun e he hb heq => by
        have h1 := hall e he hb
        rw [heq, getD_both hun] at h1
        cases h1
      have h2 := qOp_put hoj (hfree j oj hoj hji hjun hnot) (fun cs b => hsel i oi cs b hi) (fun cs b => hsel j oj cs b hoj) hy h1
      have hfree' : ∀ k ok, ops[k]? = some ok → k ≠ i → (listed.setIfInBounds j true).getD k true = false →
          (∀ e ∈ ok.after, Region.binds md e = true → e.on ≠ i) → oi.apart ops ok = true := fun k ok hk hki hun hno => by
        refine hfree k ok hk hki ?_ hno
        by_cases hjk : j = k
        · subst hjk; exact hjun
        · rw [getD_set_ne true hjk] at hun; exact hun
      refine qOp_mono (fun a' h3 => ih (listed.setIfInBounds j true) a' (inv.set hj hjn) hfree' (ready_mono hr (Ne.symm hji)) h3.1 ?_) h2
      rw [Array.setIfInBounds_comm _ _ hji]
      exact h3.2

theorem headQ_lex {n g : Nat} {Lq : Act → Prop} (hsel : Region.noSelect ops = true) (hs : Region.sinkB md ops n = true) (hc : Region.chainB md ops n = true) :
    ∀ (l : List Oper) (k : Nat) (listed : Array Bool) (a : Act), (∀ j, j < l.length → l[j]? = ops[k + j]?) → k + l.length = n → HeadInv md ops n listed →
    Region.lexHead md ops g l.length k listed = true → wpQuiet P ops C Lq l a →
    headQ P md ops C n (fun listed' a' => Region.seqB md ops g n listed' = true ∧ Lq a') l.length listed a
  | [], k, listed, a, _, hk, _, hB, h => by
    have : k = n := by simpa using hk
    subst this
    exact ⟨by simpa [Region.lexHead] using hB, h⟩
  | o :: l, k, listed, a, hl, hk, inv, hB, h => by
    have h0 : ops[k]? = some o := by simpa using (hl 0 (by simp)).symm
    simp only [List.length_cons, Region.lexHead, Bool.and_eq_true] at hB
    obtain ⟨⟨hr, hf⟩, hB'⟩ := hB
    have hkn : k < n := by simp only [List.length_cons] at hk; omega
    have hr' : k ∈ Region.ready md ops listed := by simpa using hr
    have hst : qOp P ops C k (wpQuiet P ops C Lq l) a := by unfold qOp; simp only [h0]; exact h
    obtain ⟨v, hy, hK⟩ := yieldsIn_of_qOp h0 hst
    exact headQ_first h0 (Region.noSelect_spec hsel) hs hc hkn (fun listed' a' hL => seqB_ready hL.1) l.length listed a inv (Region.free_spec h0 hf) hr' hy
      (headQ_lex hsel hs hc l (k + 1) _ _ (fun j hj => by have := hl (j + 1) (by simp; omega); simpa [Nat.add_assoc, Nat.add_comm 1 j] using this) (by simp only [List.length_cons] at hk; omega) (inv.set hr' hkn) hB' hK)

/-- the first n operations are quiet; the others stand in one order -/
theorem wp_region_quiet_tail {id : Nat} {Q : Exit → Act → World → Prop} {a : Act} {w : World} {l : List Oper} (n : Nat) (hm : P.follows .mixedOrders = true) (hB : Region.lexTailB .any l.toArray n = true) (hC : C { w with drawn := w.drawn + 1 })
    (h : wpQuiet P l.toArray C (fun a' => ∀ w', C w' → wpList P l.toArray Q (l.drop n) a' w') (l.take n) a) : (Code.region id l.toArray true).wp P Q a w := by
  simp only [Region.lexTailB, Bool.and_eq_true, decide_eq_true_eq] at hB
  obtain ⟨⟨⟨⟨hsel, hn⟩, hs⟩, hc⟩, hlex⟩ := hB
  have hn' : n < l.length := by simpa using hn
  have htl : (l.take n).length = n := by simp; omega
  have hdl : (l.drop n).length = l.toArray.size - n := by simp
  have inv0 : HeadInv .any l.toArray n (Array.replicate l.toArray.size false) :=
    ⟨by simp, fun j oj _ hl => (by rw [getD_replicate_false] at hl; cases hl), fun t _ ht => getD_in (by simpa using ht) (getD_replicate_false _ _)⟩
  have H := headQ_lex (md := .any) (g := l.toArray.size - n) hsel hs hc (l.take n) 0 _ a (fun j hj => by
    have hj' : j < n := by rw [htl] at hj; exact hj
    simp [hj']) (by simpa using htl) inv0 (by rw [htl]; exact hlex) h
  refine wp_region_any hm ?_
  have := any_of_headQ (Q' := Q) (g := l.toArray.size - n) (fun listed a' w' hw' hL => by
    have := wpAny_of_seq (md := .any) (Q' := Q) (l.drop n) n listed a' w' (fun j => by simp [List.getElem?_drop]) (by rw [hdl]; exact hL.1) (hL.2 w' hw')
    rwa [hdl] at this) _ _ _ _ hC H
  rw [htl, show n + (l.toArray.size - n) = l.toArray.size by omega] at this
  exact this
/-- the same, where the callees lay new blocks at most -/
theorem wp_region_below_tail {id : Nat} {Q : Exit → Act → World → Prop} {a : Act} {w : World} {l : List Oper} (n : Nat) (hm : P.follows .mixedOrders = true) (hB : Region.lexTailB .any l.toArray n = true)
    (h : wpQuiet P l.toArray (fun w' => ∃ x, w' = bl w x) (fun a' => ∀ w', (∃ x, w' = bl w x) → wpList P l.toArray Q (l.drop n) a' w') (l.take n) a) : (Code.region id l.toArray true).wp P Q a w :=
  wp_region_quiet_tail (C := fun w' => ∃ x, w' = bl w x) n hm hB ⟨⟨_, (Below.refl w.heap.size w).drew⟩, rfl⟩ h
end
end Go.Proofs.YtfdbpafenhdkbaaGreat
