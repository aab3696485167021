/- the reference's comparisons of numbers and of sets, walked. -/
import Derived.Test.YtfdbpafenhdkbaaGreatDoorQGrT
import Derived.Test.YtfdbpafenhdkbaaGreatDoorQGrK
import Derived.StillTail
namespace Go.Proofs.YtfdbpafenhdkbaaGreatDoor
open Go.RowKit
set_option linter.unusedVariables false
set_option linter.unusedSimpArgs false

set_option maxHeartbeats 400000 in
theorem ref_ints (A1 : Option Addr) (n c1 : Nat) (xs : List Int) (A2 : Option Addr) (m c2 : Nat) (ys : List Int) (w : World)
    (h1 : Ints .i64 w A1 n c1 xs) (h2 : Ints .i64 w A2 m c2 ys) :
    Calls Tryz.prog 18 #[.slice A1 n c1, .slice A2 m c2] w fun e w' => e = .returned (.bool (xs == ys)) ∧ Same w w' := by
  obtain rfl := h1.len
  obtain rfl := h2.len
  have hcap1 := h1.cap
  have hcap2 := h2.cap
  by_cases hne : xs.length = ys.length
  case neg =>
    have e : (xs == ys) = false := by rw [beq_eq_false_iff_ne]; intro h; exact hne (by rw [h])
    have hi : ((xs.length : Int) != (ys.length : Int)) = true := by rw [bne_iff_ne]; omega
    rw [e]
    clear e hne
    go_enter Tryz.func18, Tryz.ntmps18
    go_wp2
    go_ret
    exact ⟨rfl, Same.refl _⟩
  have hi : ((xs.length : Int) != (ys.length : Int)) = false := by rw [bne_eq_false_iff_eq]; omega
  have Hne := Lib.hid hne
  clear hne
  go_enter Tryz.func18, Tryz.ntmps18
  go_wp2
  go_loopw [5] (fun i wr => ∃ k : Nat, k ≤ xs.length ∧ i = .int .i64 (k : Int) ∧ Hid (xs.take k = ys.take k) ∧ Same w wr) (fun i _ => xs.length - (intOf i).toNat)
  case atStart => exact ⟨0, Nat.zero_le _, rfl, Lib.hid rfl, Same.refl _⟩
  case round =>
    obtain ⟨k, hk, rfl, Ht, hS⟩ := hrel
    by_cases hlt : k < xs.length
    · obtain ⟨b1, o1, x, rfl, hb1, Hx, hc1⟩ := (h1.same hS).get (j := k) hlt
      obtain ⟨b2, o2, y, rfl, hb2, Hy, hc2⟩ := (h2.same hS).get (j := k) (by have := Hne.out; omega)
      have g0 : (0 : Int) ≤ (k : Int) := by omega
      have g1 : (k : Int) < (xs.length : Int) := by omega
      have g2 : (k : Int) < (ys.length : Int) := by have := Hne.out; omega
      by_cases hxy : x = y
      · subst hxy
        go_wp2
        go_quiet (fail)
        go_wp2
        go_roundw
        case rel => exact ⟨k + 1, by omega, by go_num, Lib.hid (by rw [List.take_add_one, List.take_add_one, Ht.out, Hx.out, Hy.out]), hS.drewN _⟩
        case measure => simp [intOf]; omega
      · have e : (xs == ys) = false := by
          rw [beq_eq_false_iff_ne]
          rintro rfl
          have := Hx.out.symm.trans Hy.out
          exact hxy (by simpa using this)
        have hd : (x != y) = true := by rw [bne_iff_ne]; exact hxy
        have He := Lib.hid e
        clear e hxy
        go_wp2
        go_quiet (fail)
        go_wp2
        go_ret
        exact ⟨by rw [He.out]; rfl, hS.drewN _⟩
    · have e : (xs == ys) = true := by
        have := Ht.out
        have := Hne.out
        rw [List.take_of_length_le (by omega), List.take_of_length_le (by omega)] at *
        simpa using ‹_ = _›
      have He := Lib.hid e
      clear e
      go_wp2
      go_ret
      exact ⟨by rw [He.out]; rfl, hS⟩

set_option maxHeartbeats 400000 in
theorem ref_sets (A1 : Option Addr) (n c1 : Nat) (xs : List Nat) (A2 : Option Addr) (m c2 : Nat) (ys : List Nat) (w : World)
    (h1 : Nums .u32 w A1 n c1 xs) (h2 : Nums .u32 w A2 m c2 ys) :
    Calls Tryz.prog 11 #[.slice A1 n c1, .slice A2 m c2] w fun e w' => e = .returned (.bool (xs == ys)) ∧ Same w w' := by
  obtain rfl := h1.len
  obtain rfl := h2.len
  have hcap1 := h1.cap
  have hcap2 := h2.cap
  by_cases hne : xs.length = ys.length
  case neg =>
    have e : (xs == ys) = false := by rw [beq_eq_false_iff_ne]; intro h; exact hne (by rw [h])
    have hi : ((xs.length : Int) != (ys.length : Int)) = true := by rw [bne_iff_ne]; omega
    rw [e]
    clear e hne
    go_enter Tryz.func11, Tryz.ntmps11
    go_wp2
    go_ret
    exact ⟨rfl, Same.refl _⟩
  have hi : ((xs.length : Int) != (ys.length : Int)) = false := by rw [bne_eq_false_iff_eq]; omega
  have Hne := Lib.hid hne
  clear hne
  go_enter Tryz.func11, Tryz.ntmps11
  go_wp2
  go_loopw [5] (fun i wr => ∃ k : Nat, k ≤ xs.length ∧ i = .int .i64 (k : Int) ∧ Hid (xs.take k = ys.take k) ∧ Same w wr) (fun i _ => xs.length - (intOf i).toNat)
  case atStart => exact ⟨0, Nat.zero_le _, rfl, Lib.hid rfl, Same.refl _⟩
  case round =>
    obtain ⟨k, hk, rfl, Ht, hS⟩ := hrel
    by_cases hlt : k < xs.length
    · obtain ⟨b1, o1, x, rfl, hb1, Hx, hc1⟩ := (h1.same hS).get (j := k) hlt
      obtain ⟨b2, o2, y, rfl, hb2, Hy, hc2⟩ := (h2.same hS).get (j := k) (by have := Hne.out; omega)
      have g0 : (0 : Int) ≤ (k : Int) := by omega
      have g1 : (k : Int) < (xs.length : Int) := by omega
      have g2 : (k : Int) < (ys.length : Int) := by have := Hne.out; omega
      by_cases hxy : x = y
      · subst hxy
        go_wp2
        go_quiet (fail)
        go_wp2
        go_roundw
        case rel => exact ⟨k + 1, by omega, by go_num, Lib.hid (by rw [List.take_add_one, List.take_add_one, Ht.out, Hx.out, Hy.out]), hS.drewN _⟩
        case measure => simp [intOf]; omega
      · have e : (xs == ys) = false := by
          rw [beq_eq_false_iff_ne]
          rintro rfl
          have := Hx.out.symm.trans Hy.out
          exact hxy (by simpa using this)
        have hd : ((x : Int) != (y : Int)) = true := by rw [bne_iff_ne]; omega
        have He := Lib.hid e
        clear e hxy
        go_wp2
        go_quiet (fail)
        go_wp2
        go_ret
        exact ⟨by rw [He.out]; rfl, hS.drewN _⟩
    · have e : (xs == ys) = true := by
        have := Ht.out
        have := Hne.out
        rw [List.take_of_length_le (by omega), List.take_of_length_le (by omega)] at *
        simpa using ‹_ = _›
      have He := Lib.hid e
      clear e
      go_wp2
      go_ret
      exact ⟨by rw [He.out]; rfl, hS⟩

/-- a table as a slice -/
theorem SetT.nums {w : World} {g : Nat} {F : List Nat} (h : SetT w g F) (hl : F.length ≤ 1000) : Nums .u32 w (some ⟨g, 0, none⟩) F.length F.length F := by
  refine ⟨by simp [Go.Proofs.YtfdbpafenhdkbaaGreatDoor.nums], Nat.le_refl _, by omega, fun _ => ⟨g, 0, rfl, Blk.lt h, fun j hj => ?_⟩⟩
  simp only [nums_length] at hj
  rw [Nat.zero_add, h.at hj]
  simp [Go.Proofs.YtfdbpafenhdkbaaGreatDoor.nums, hj]
end Go.Proofs.YtfdbpafenhdkbaaGreatDoor

namespace Go.Proofs.YtfdbpafenhdkbaaGreatDoor
open Go.RowKit
set_option linter.unusedVariables false
set_option linter.unusedSimpArgs false

section
variable {P : Program} {ops : Array Oper} {md : Region.Mode} {C : World → Prop}

/-- quiet steps ahead of operation n, in whatever order; then what is asked of the rest -/
def headQ (P : Program) (md : Region.Mode) (ops : Array Oper) (C : World → Prop) (n : Nat) (L : Array Bool → Act → Prop) : Nat → Array Bool → Act → Prop
  | 0, listed, a => L listed a
  | f + 1, listed, a => Region.ready md ops listed ≠ [] ∧ ∀ i ∈ Region.ready md ops listed, i < n ∧ qOp P ops C i (headQ P md ops C n L f (listed.setIfInBounds i true)) a

theorem any_of_headQ {n g : Nat} {L : Array Bool → Act → Prop} {Q' : Exit → Act → World → Prop} (hL : ∀ listed a w, C w → L listed a → wpAny P md ops Q' g listed a w) :
    ∀ (f : Nat) (listed : Array Bool) (a : Act) (w : World), C w → headQ P md ops C n L f listed a → wpAny P md ops Q' (f + g) listed a w
  | 0, listed, a, w, hw, h => by rw [Nat.zero_add]; exact hL _ _ _ hw h
  | f + 1, listed, a, w, hw, h => by
    rw [show f + 1 + g = (f + g) + 1 by omega]
    exact ⟨fun h0 => absurd h0 h.1, fun i hi => wpOp_of_qOp hw (fun a' w' hw' h' => any_of_headQ hL f _ a' w' hw' h') (h.2 i hi).2⟩

theorem headQ_first {n i : Nat} {oi : Oper} {v : Value} {L : Array Bool → Act → Prop} (hi : ops[i]? = some oi) (hsel : ∀ (j : Nat) (o : Oper) cs b, ops[j]? = some o → o.op ≠ .select cs b)
    (hs : Region.sinkB md ops n = true) (hc : Region.chainB md ops n = true) (hin : i < n)
    (hdone : ∀ listed a, L listed a → ∀ j ∈ Region.ready md ops listed, n ≤ j) :
    ∀ (f : Nat) (listed : Array Bool) (a : Act), HeadInv md ops n listed →
      (∀ j oj, ops[j]? = some oj → j ≠ i → listed.getD j true = false → (∀ e ∈ oj.after, Region.binds md e = true → e.on ≠ i) → oi.apart ops oj = true) →
      i ∈ Region.ready md ops listed → YieldsIn P ops C oi v a →
      headQ P md ops C n L f (listed.setIfInBounds i true) (a.put oi.dst v) → headQ P md ops C n L (f + 1) listed a := by
  intro f
  induction f with
  | zero =>
    intro listed a inv hfree hr hy H
    have hun := (mem_ready.1 hr).1
    have hn : n ≤ ops.size := by
      rcases Nat.lt_or_ge ops.size n with h | h
      · exfalso
        have h1 := List.all_eq_true.1 hs (ops.size) (List.mem_range.2 h)
        obtain ⟨j, hj, hj2⟩ := List.any_eq_true.1 h1
        simp only [Bool.and_eq_true, decide_eq_true_eq] at hj2
        obtain ⟨oj, hoj, _⟩ := Region.waitsFor_spec hj2.2
        have := (Array.getElem?_eq_some_iff.1 hoj).1
        omega
      · exact h
    refine ⟨fun h => (by rw [h] at hr; cases hr), fun j hj => ?_⟩
    have hjn : j < n := by
      rcases Nat.lt_or_ge j n with h | h
      · exact h
      · have hlt : j < ops.size := by
          obtain ⟨_, oj, hoj, _⟩ := mem_ready.1 hj
          exact (Array.getElem?_eq_some_iff.1 hoj).1
        exact absurd hj (tail_waits hs hc (by omega) inv _ i rfl hin hun j h)
    refine ⟨hjn, ?_⟩
    by_cases hji : j = i
    · subst hji; exact hy.qOp hi H
    · have := hdone _ _ H j (ready_mono hj hji)
      omega
  | succ f ih =>
    intro listed a inv hfree hr hy H
    have hun := (mem_ready.1 hr).1
    refine ⟨fun h => (by rw [h] at hr; cases hr), fun j hj => ?_⟩
    have hjn : j < n := by
      rcases Nat.lt_or_ge j n with h | h
      · exact h
      · have hlt : j < ops.size := by
          obtain ⟨_, oj, hoj, _⟩ := mem_ready.1 hj
          exact (Array.getElem?_eq_some_iff.1 hoj).1
        exact absurd hj (tail_waits hs hc (by omega) inv _ i rfl hin hun j h)
    refine ⟨hjn, ?_⟩
    by_cases hji : j = i
    · subst hji; exact hy.qOp hi H
    · have h1 := (H.2 j (ready_mono hj hji)).2
      obtain ⟨hjun, oj, hoj, hall⟩ := mem_ready.1 hj
      have hnot : ∀ e ∈ oj.after, Region.binds md e = true → e.on ≠ i := fun e he hb heq => by
        have h1 := hall e he hb
        rw [heq, getD_both hun] at h1
        cases h1
      have h2 := qOp_put hoj (hfree j oj hoj hji hjun hnot) (fun cs b => hsel i oi cs b hi) (fun cs b => hsel j oj cs b hoj) hy h1
      have hfree' : ∀ k ok, ops[k]? = some ok → k ≠ i → (listed.setIfInBounds j true).getD k true = false →
          (∀ e ∈ ok.after, Region.binds md e = true → e.on ≠ i) → oi.apart ops ok = true := fun k ok hk hki hun hno => by
        refine hfree k ok hk hki ?_ hno
        by_cases hjk : j = k
        · subst hjk; exact hjun
        · rw [getD_set_ne true hjk] at hun; exact hun
      refine qOp_mono (fun a' h3 => ih (listed.setIfInBounds j true) a' (inv.set hj hjn) hfree' (ready_mono hr (Ne.symm hji)) h3.1 ?_) h2
      rw [Array.setIfInBounds_comm _ _ hji]
      exact h3.2

theorem headQ_lex {n g : Nat} {Lq : Act → Prop} (hsel : Region.noSelect ops = true) (hs : Region.sinkB md ops n = true) (hc : Region.chainB md ops n = true) :
    ∀ (l : List Oper) (k : Nat) (listed : Array Bool) (a : Act), (∀ j, j < l.length → l[j]? = ops[k + j]?) → k + l.length = n → HeadInv md ops n listed →
    Region.lexHead md ops g l.length k listed = true → wpQuiet P ops C Lq l a →
    headQ P md ops C n (fun listed' a' => Region.seqB md ops g n listed' = true ∧ Lq a') l.length listed a
  | [], k, listed, a, _, hk, _, hB, h => by
    have : k = n := by simpa using hk
    subst this
    exact ⟨by simpa [Region.lexHead] using hB, h⟩
  | o :: l, k, listed, a, hl, hk, inv, hB, h => by
    have h0 : ops[k]? = some o := by simpa using (hl 0 (by simp)).symm
    simp only [List.length_cons, Region.lexHead, Bool.and_eq_true] at hB
    obtain ⟨⟨hr, hf⟩, hB'⟩ := hB
    have hkn : k < n := by simp only [List.length_cons] at hk; omega
    have hr' : k ∈ Region.ready md ops listed := by simpa using hr
    have hst : qOp P ops C k (wpQuiet P ops C Lq l) a := by unfold qOp; simp only [h0]; exact h
    obtain ⟨v, hy, hK⟩ := yieldsIn_of_qOp h0 hst
    exact headQ_first h0 (Region.noSelect_spec hsel) hs hc hkn (fun listed' a' hL => seqB_ready hL.1) l.length listed a inv (Region.free_spec h0 hf) hr' hy
      (headQ_lex hsel hs hc l (k + 1) _ _ (fun j hj => by have := hl (j + 1) (by simp; omega); simpa [Nat.add_assoc, Nat.add_comm 1 j] using this) (by simp only [List.length_cons] at hk; omega) (inv.set hr' hkn) hB' hK)

/-- the first n operations are quiet; the others stand in one order -/
theorem wp_region_quiet_tail {id : Nat} {Q : Exit → Act → World → Prop} {a : Act} {w : World} {l : List Oper} (n : Nat) (hm : P.follows .mixedOrders = true) (hB : Region.lexTailB .any l.toArray n = true) (hC : C { w with drawn := w.drawn + 1 })
    (h : wpQuiet P l.toArray C (fun a' => ∀ w', C w' → wpList P l.toArray Q (l.drop n) a' w') (l.take n) a) : (Code.region id l.toArray true).wp P Q a w := by
  simp only [Region.lexTailB, Bool.and_eq_true, decide_eq_true_eq] at hB
  obtain ⟨⟨⟨⟨hsel, hn⟩, hs⟩, hc⟩, hlex⟩ := hB
  have hn' : n < l.length := by simpa using hn
  have htl : (l.take n).length = n := by simp; omega
  have hdl : (l.drop n).length = l.toArray.size - n := by simp
  have inv0 : HeadInv .any l.toArray n (Array.replicate l.toArray.size false) :=
    ⟨by simp, fun j oj _ hl => (by rw [getD_replicate_false] at hl; cases hl), fun t _ ht => getD_in (by simpa using ht) (getD_replicate_false _ _)⟩
  have H := headQ_lex (md := .any) (g := l.toArray.size - n) hsel hs hc (l.take n) 0 _ a (fun j hj => by
    have hj' : j < n := by rw [htl] at hj; exact hj
    simp [hj']) (by simpa using htl) inv0 (by rw [htl]; exact hlex) h
  refine wp_region_any hm ?_
  have := any_of_headQ (Q' := Q) (g := l.toArray.size - n) (fun listed a' w' hw' hL => by
    have := wpAny_of_seq (md := .any) (Q' := Q) (l.drop n) n listed a' w' (fun j => by simp [List.getElem?_drop]) (by rw [hdl]; exact hL.1) (hL.2 w' hw')
    rwa [hdl] at this) _ _ _ _ hC H
  rw [htl, show n + (l.toArray.size - n) = l.toArray.size by omega] at this
  exact this
/-- the same, where the callees lay new blocks at most -/
theorem wp_region_below_tail {id : Nat} {Q : Exit → Act → World → Prop} {a : Act} {w : World} {l : List Oper} (n : Nat) (hm : P.follows .mixedOrders = true) (hB : Region.lexTailB .any l.toArray n = true)
    (h : wpQuiet P l.toArray (fun w' => ∃ x, w' = bl w x) (fun a' => ∀ w', (∃ x, w' = bl w x) → wpList P l.toArray Q (l.drop n) a' w') (l.take n) a) : (Code.region id l.toArray true).wp P Q a w :=
  wp_region_quiet_tail (C := fun w' => ∃ x, w' = bl w x) n hm hB ⟨⟨_, (Below.refl w.heap.size w).drew⟩, rfl⟩ h
end
end Go.Proofs.YtfdbpafenhdkbaaGreatDoor

namespace Go.Proofs.YtfdbpafenhdkbaaGreatDoor
open Go.RowKit
set_option linter.unusedVariables false
set_option linter.unusedSimpArgs false

section
variable {P : Program}
/-- operations i, i + 1, ..: each keeps the invariant -/
def InvSteps (P : Program) (ops : Array Oper) (Q : Exit → Act → World → Prop) (J : Array Bool → Act → World → Prop) : Nat → List Oper → Prop
  | _, [] => True
  | i, o :: rest => (∀ (listed : Array Bool) (a : Act) (w : World), J listed a w → listed.getD i true = false → (∀ e ∈ o.after, Region.binds .any e = true → listed.getD e.on false = true) →
      ∀ K : Act → World → Prop, (∀ a' w', J (listed.setIfInBounds i true) a' w' → K a' w') → if Region.wanted o (yielded ops a.tmps) then o.wp P a w K Q else K (a.put o.dst undef) w) ∧ InvSteps P ops Q J (i + 1) rest
theorem InvSteps.nil {ops : Array Oper} {Q : Exit → Act → World → Prop} {J : Array Bool → Act → World → Prop} {i : Nat} : InvSteps P ops Q J i [] := trivial
theorem InvSteps.cons {ops : Array Oper} {Q : Exit → Act → World → Prop} {J : Array Bool → Act → World → Prop} {i : Nat} {o : Oper} {rest : List Oper}
    (h : ∀ (listed : Array Bool) (a : Act) (w : World), J listed a w → listed.getD i true = false → (∀ e ∈ o.after, Region.binds .any e = true → listed.getD e.on false = true) →
      ∀ K : Act → World → Prop, (∀ a' w', J (listed.setIfInBounds i true) a' w' → K a' w') → if Region.wanted o (yielded ops a.tmps) then o.wp P a w K Q else K (a.put o.dst undef) w)
    (t : InvSteps P ops Q J (i + 1) rest) : InvSteps P ops Q J i (o :: rest) := ⟨h, t⟩
theorem InvSteps.at {ops : Array Oper} {Q : Exit → Act → World → Prop} {J : Array Bool → Act → World → Prop} : ∀ {l : List Oper} {i k : Nat} {o : Oper}, InvSteps P ops Q J i l → l[k]? = some o →
    (∀ (listed : Array Bool) (a : Act) (w : World), J listed a w → listed.getD (i + k) true = false → (∀ e ∈ o.after, Region.binds .any e = true → listed.getD e.on false = true) →
      ∀ K : Act → World → Prop, (∀ a' w', J (listed.setIfInBounds (i + k) true) a' w' → K a' w') → if Region.wanted o (yielded ops a.tmps) then o.wp P a w K Q else K (a.put o.dst undef) w)
  | [], i, k, o, _, hk => by simp at hk
  | q :: l, i, 0, o, h, hk => by
    have e : q = o := by simpa using hk
    subst e
    exact h.1
  | q :: l, i, k + 1, o, h, hk => by
    have := InvSteps.at h.2 (by simpa using hk : l[k]? = some o)
    rw [show i + (k + 1) = i + 1 + k by omega]
    exact this
/-- the edges lead back -/
def backB (ops : Array Oper) : Bool := (List.range ops.size).all fun i => ((ops[i]?).map fun o => o.after.all fun e => decide (e.on < i)).getD true
def leftN (n : Nat) (listed : Array Bool) : Nat := ((List.range n).filter fun i => !listed.getD i true).length
theorem left_less {n i : Nat} {listed : Array Bool} (hi : i < n) (hu : listed.getD i true = false) : leftN n (listed.setIfInBounds i true) < leftN n listed := by
  unfold leftN
  have hlt : i < listed.size := by
    rcases Nat.lt_or_ge i listed.size with h | h
    · exact h
    · simp [Array.getD, Nat.not_lt.2 h] at hu
  have e : ((List.range n).filter fun j => !(listed.setIfInBounds i true).getD j true) = (((List.range n).filter fun j => !listed.getD j true).filter fun j => decide (j ≠ i)) := by
    rw [List.filter_filter]
    apply List.filter_congr
    intro j _
    by_cases hij : i = j
    · subst hij
      simp [Array.getD, hlt]
    · rw [getD_set_ne true hij]
      simp [Ne.symm hij]
  rw [e, List.length_filter_lt_length_iff_exists]
  exact ⟨i, List.mem_filter.2 ⟨List.mem_range.2 hi, by simp [hu]⟩, by simp⟩
theorem ready_none {ops : Array Oper} {listed : Array Bool} (hb : backB ops = true) (h : Region.ready .any ops listed = []) : ∀ i, i < ops.size → listed.getD i true = true := by
  intro i
  induction i using Nat.strongRecOn with
  | ind i ih =>
    intro hi
    cases hu : listed.getD i true with
    | true => rfl
    | false =>
      exfalso
      have hm : i ∈ Region.ready .any ops listed := by
        refine mem_ready.2 ⟨hu, ops[i], Array.getElem?_eq_getElem hi, fun e he _ => ?_⟩
        have h1 := List.all_eq_true.1 hb i (List.mem_range.2 hi)
        rw [Array.getElem?_eq_getElem hi, Option.map_some, Option.getD_some, Array.all_eq_true_iff_forall_mem] at h1
        have h2 := of_decide_eq_true (h1 e he)
        have h3 := ih e.on h2 (by omega)
        have hlt : i < listed.size := by
          rcases Nat.lt_or_ge i listed.size with h | h
          · exact h
          · simp [Array.getD, Nat.not_lt.2 h] at hu
        have hl : e.on < listed.size := by omega
        simpa [Array.getD, hl] using h3
      rw [h] at hm
      cases hm
theorem any_of_inv {ops : Array Oper} {Q : Exit → Act → World → Prop} {J : Array Bool → Act → World → Prop} (hb : backB ops = true)
    (hs : ∀ i o, ops[i]? = some o → ∀ (listed : Array Bool) (a : Act) (w : World), J listed a w → listed.getD i true = false → (∀ e ∈ o.after, Region.binds .any e = true → listed.getD e.on false = true) →
      ∀ K : Act → World → Prop, (∀ a' w', J (listed.setIfInBounds i true) a' w' → K a' w') → if Region.wanted o (yielded ops a.tmps) then o.wp P a w K Q else K (a.put o.dst undef) w)
    (he : ∀ (listed : Array Bool) (a : Act) (w : World), J listed a w → (∀ i, i < ops.size → listed.getD i true = true) → Q .normal a w) :
    ∀ (fuel : Nat) (listed : Array Bool) (a : Act) (w : World), leftN ops.size listed ≤ fuel → J listed a w → wpAny P .any ops Q fuel listed a w
  | 0, listed, a, w, hl, hJ => by
    have hr : Region.ready .any ops listed = [] := by
      rw [List.eq_nil_iff_forall_not_mem]
      intro i hi
      obtain ⟨hu, o, ho, _⟩ := mem_ready.1 hi
      have := left_less (n := ops.size) (Array.getElem?_eq_some_iff.1 ho).1 hu
      omega
    exact ⟨hr, he listed a w hJ (ready_none hb hr)⟩
  | fuel + 1, listed, a, w, hl, hJ => by
    refine ⟨fun hr => he listed a w hJ (ready_none hb hr), fun i hi => ?_⟩
    obtain ⟨hu, o, ho, hpre⟩ := mem_ready.1 hi
    have hlt := left_less (n := ops.size) (Array.getElem?_eq_some_iff.1 ho).1 hu
    have h1 := hs i o ho listed a w hJ hu hpre (wpAny P .any ops Q fuel (listed.setIfInBounds i true)) (fun a' w' h => any_of_inv hb hs he fuel _ a' w' (by omega) h)
    unfold wpOp
    simp only [ho]
    split
    · rename_i hw
      rw [if_pos hw] at h1
      exact .inl h1
    · rename_i hw
      rw [if_neg hw] at h1
      exact h1
/-- a drawn region, by an invariant -/
theorem wp_region_inv {id : Nat} {Q : Exit → Act → World → Prop} {a : Act} {w : World} {l : List Oper} (J : Array Bool → Act → World → Prop) (hm : P.follows .mixedOrders = true) (hb : backB l.toArray = true)
    (h0 : J (Array.replicate l.length false) a w.drew) (hs : InvSteps P l.toArray Q J 0 l)
    (he : ∀ (listed : Array Bool) (a : Act) (w : World), J listed a w → (∀ i, i < l.length → listed.getD i true = true) → Q .normal a w) : (Code.region id l.toArray true).wp P Q a w := by
  refine wp_region_any hm ?_
  refine any_of_inv hb (fun i o ho listed a w hJ hu hpre K hK => ?_) (fun listed a w hJ h => he listed a w hJ fun i hi => h i (by simpa using hi)) _ _ _ _ ?_ (by simpa using h0)
  · have := InvSteps.at (k := i) hs (by simpa using ho) listed a w hJ (by rw [Nat.zero_add]; exact hu) hpre K (fun a' w' h => hK a' w' (by rw [Nat.zero_add] at h; exact h))
    exact this
  · exact Nat.le_trans (List.length_filter_le _ _) (by simp)
end
end Go.Proofs.YtfdbpafenhdkbaaGreatDoor
