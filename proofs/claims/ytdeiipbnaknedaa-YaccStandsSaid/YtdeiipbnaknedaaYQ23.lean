/- A region that draws its order: quiet in a class of worlds but for its last operations, which stand in one order: one walk serves. -/
import Derived.Test.YtdeiipbnaknedaaYQ09
import Derived.StillTail
namespace Go.Proofs.Ytdeiipbnaknedaa
open Go.RowKit
set_option linter.unusedVariables false
set_option linter.unusedSimpArgs false

section
variable {P : Program} {ops : Array Oper} {md : Region.Mode} {C : World → Prop}

/-- quiet steps ahead of operation n, in whatever order; then what is asked of the rest -/
def headQ (P : Program) (md : Region.Mode) (ops : Array Oper) (C : World → Prop) (n : Nat) (L : Array Bool → Act → Prop) : Nat → Array Bool → Act → Prop
  | 0, listed, a => L listed a
  | f + 1, listed, a => Region.ready md ops listed ≠ [] ∧ ∀ i ∈ Region.ready md ops listed, i < n ∧ qOp P ops C i (headQ P md ops C n L f (listed.setIfInBounds i true)) a

theorem any_of_headQ {n g : Nat} {L : Array Bool → Act → Prop} {Q' : Exit → Act → World → Prop} (hL : ∀ listed a w, C w → L listed a → wpAny P md ops Q' g listed a w) :
    ∀ (f : Nat) (listed : Array Bool) (a : Act) (w : World), C w → headQ P md ops C n L f listed a → wpAny P md ops Q' (f + g) listed a w
  | 0, listed, a, w, hw, h => by rw [Nat.zero_add]; exact hL _ _ _ hw h
  | f + 1, listed, a, w, hw, h => by
    rw [show f + 1 + g = (f + g) + 1 by omega]
    exact ⟨fun h0 => absurd h0 h.1, fun i hi => wpOp_of_qOp hw (fun a' w' hw' h' => any_of_headQ hL f _ a' w' hw' h') (h.2 i hi).2⟩

theorem headQ_first {n i : Nat} {oi : Oper} {v : Value} {L : Array Bool → Act → Prop} (hi : ops[i]? = some oi) (hsel : ∀ (j : Nat) (o : Oper) cs b, ops[j]? = some o → o.op ≠ .select cs b)
    (hs : Region.sinkB md ops n = true) (hc : Region.chainB md ops n = true) (hin : i < n)
    (hdone : ∀ listed a, L listed a → ∀ j ∈ Region.ready md ops listed, n ≤ j) :
    ∀ (f : Nat) (listed : Array Bool) (a : Act), HeadInv md ops n listed →
      (∀ j oj, ops[j]? = some oj → j ≠ i → listed.getD j true = false → (∀ e ∈ oj.after, Region.binds md e = true → e.on ≠ i) → oi.apart ops oj = true) →
      i ∈ Region.ready md ops listed → YieldsIn P ops C oi v a →
      headQ P md ops C n L f (listed.setIfInBounds i true) (a.put oi.dst v) → headQ P md ops C n L (f + 1) listed a := by
  intro f
  induction f with
  | zero =>
    intro listed a inv hfree hr hy H
    have hun := (mem_ready.1 hr).1
    have hn : n ≤ ops.size := by
      rcases Nat.lt_or_ge ops.size n with h | h
      · exfalso
        have h1 := List.all_eq_true.1 hs (ops.size) (List.mem_range.2 h)
        obtain ⟨j, hj, hj2⟩ := List.any_eq_true.1 h1
        simp only [Bool.and_eq_true, decide_eq_true_eq] at hj2
        obtain ⟨oj, hoj, _⟩ := Region.waitsFor_spec hj2.2
        have := (Array.getElem?_eq_some_iff.1 hoj).1
        omega
      · exact h
    refine ⟨fun h => (by rw [h] at hr; cases hr), fun j hj => ?_⟩
    have hjn : j < n := by
      rcases Nat.lt_or_ge j n with h | h
      · exact h
      · have hlt : j < ops.size := by
          obtain ⟨_, oj, hoj, _⟩ := mem_ready.1 hj
          exact (Array.getElem?_eq_some_iff.1 hoj).1
        exact absurd hj (tail_waits hs hc (by omega) inv _ i rfl hin hun j h)
    refine ⟨hjn, ?_⟩
    by_cases hji : j = i
    · subst hji; exact hy.qOp hi H
    · have := hdone _ _ H j (ready_mono hj hji)
      omega
  | succ f ih =>
    intro listed a inv hfree hr hy H
    have hun := (mem_ready.1 hr).1
    refine ⟨fun h => (by rw [h] at hr; cases hr), fun j hj => ?_⟩
    have hjn : j < n := by
      rcases Nat.lt_or_ge j n with h | h
      · exact h
      · have hlt : j < ops.size := by
          obtain ⟨_, oj, hoj, _⟩ := mem_ready.1 hj
          exact (Array.getElem?_eq_some_iff.1 hoj).1
        exact absurd hj (tail_waits hs hc (by omega) inv _ i rfl hin hun j h)
    refine ⟨hjn, ?_⟩
    by_cases hji : j = i
    · subst hji; exact hy.qOp hi H
    · have h1 := (H.2 j (ready_mono hj hji)).2
      obtain ⟨hjun, oj, hoj, hall⟩ := mem_ready.1 hj
      have hnot : ∀ e ∈ oj.after, Region.binds md e = true → e.on ≠ i := fun e he hb heq => by
        have h1 := hall e he hb
        rw [heq, getD_both hun] at h1
        cases h1
      have h2 := qOp_put hoj (hfree j oj hoj hji hjun hnot) (fun cs b => hsel i oi cs b hi) (fun cs b => hsel j oj cs b hoj) hy h1
      have hfree' : ∀ k ok, ops[k]? = some ok → k ≠ i → (listed.setIfInBounds j true).getD k true = false →
          (∀ e ∈ ok.after, Region.binds md e = true → e.on ≠ i) → oi.apart ops ok = true := fun k ok hk hki hun hno => by
        refine hfree k ok hk hki ?_ hno
        by_cases hjk : j = k
        · subst hjk; exact hjun
        · rw [getD_set_ne true hjk] at hun; exact hun
      refine qOp_mono (fun a' h3 => ih (listed.setIfInBounds j true) a' (inv.set hj hjn) hfree' (ready_mono hr (Ne.symm hji)) h3.1 ?_) h2
      rw [Array.setIfInBounds_comm _ _ hji]
      exact h3.2

theorem headQ_lex {n g : Nat} {Lq : Act → Prop} (hsel : Region.noSelect ops = true) (hs : Region.sinkB md ops n = true) (hc : Region.chainB md ops n = true) :
    ∀ (l : List Oper) (k : Nat) (listed : Array Bool) (a : Act), (∀ j, j < l.length → l[j]? = ops[k + j]?) → k + l.length = n → HeadInv md ops n listed →
    Region.lexHead md ops g l.length k listed = true → wpQuiet P ops C Lq l a →
    headQ P md ops C n (fun listed' a' => Region.seqB md ops g n listed' = true ∧ Lq a') l.length listed a
  | [], k, listed, a, _, hk, _, hB, h => by
    have : k = n := by simpa using hk
    subst this
    exact ⟨by simpa [Region.lexHead] using hB, h⟩
  | o :: l, k, listed, a, hl, hk, inv, hB, h => by
    have h0 : ops[k]? = some o := by simpa using (hl 0 (by simp)).symm
    simp only [List.length_cons, Region.lexHead, Bool.and_eq_true] at hB
    obtain ⟨⟨hr, hf⟩, hB'⟩ := hB
    have hkn : k < n := by simp only [List.length_cons] at hk; omega
    have hr' : k ∈ Region.ready md ops listed := by simpa using hr
    have hst : qOp P ops C k (wpQuiet P ops C Lq l) a := by unfold qOp; simp only [h0]; exact h
    obtain ⟨v, hy, hK⟩ := yieldsIn_of_qOp h0 hst
    exact headQ_first h0 (Region.noSelect_spec hsel) hs hc hkn (fun listed' a' hL => seqB_ready hL.1) l.length listed a inv (Region.free_spec h0 hf) hr' hy
      (headQ_lex hsel hs hc l (k + 1) _ _ (fun j hj => by have := hl (j + 1) (by simp; omega); simpa [Nat.add_assoc, Nat.add_comm 1 j] using this) (by simp only [List.length_cons] at hk; omega) (inv.set hr' hkn) hB' hK)

/-- the first n operations are quiet; the others stand in one order -/
theorem wp_region_quiet_tail {id : Nat} {Q : Exit → Act → World → Prop} {a : Act} {w : World} {l : List Oper} (n : Nat) (hm : P.follows .mixedOrders = true) (hB : Region.lexTailB .any l.toArray n = true) (hC : C { w with drawn := w.drawn + 1 })
    (h : wpQuiet P l.toArray C (fun a' => ∀ w', C w' → wpList P l.toArray Q (l.drop n) a' w') (l.take n) a) : (Code.region id l.toArray true).wp P Q a w := by
  simp only [Region.lexTailB, Bool.and_eq_true, decide_eq_true_eq] at hB
  obtain ⟨⟨⟨⟨hsel, hn⟩, hs⟩, hc⟩, hlex⟩ := hB
  have hn' : n < l.length := by simpa using hn
  have htl : (l.take n).length = n := by simp; omega
  have hdl : (l.drop n).length = l.toArray.size - n := by simp
  have inv0 : HeadInv .any l.toArray n (Array.replicate l.toArray.size false) :=
    ⟨by simp, fun j oj _ hl => (by rw [getD_replicate_false] at hl; cases hl), fun t _ ht => getD_in (by simpa using ht) (getD_replicate_false _ _)⟩
  have H := headQ_lex (md := .any) (g := l.toArray.size - n) hsel hs hc (l.take n) 0 _ a (fun j hj => by
    have hj' : j < n := by rw [htl] at hj; exact hj
    simp [hj']) (by simpa using htl) inv0 (by rw [htl]; exact hlex) h
  refine wp_region_any hm ?_
  have := any_of_headQ (Q' := Q) (g := l.toArray.size - n) (fun listed a' w' hw' hL => by
    have := wpAny_of_seq (md := .any) (Q' := Q) (l.drop n) n listed a' w' (fun j => by simp [List.getElem?_drop]) (by rw [hdl]; exact hL.1) (hL.2 w' hw')
    rwa [hdl] at this) _ _ _ _ hC H
  rw [htl, show n + (l.toArray.size - n) = l.toArray.size by omega] at this
  exact this
/-- the same, where the callees lay new blocks at most -/
theorem wp_region_below_tail {id : Nat} {Q : Exit → Act → World → Prop} {a : Act} {w : World} {l : List Oper} (n : Nat) (hm : P.follows .mixedOrders = true) (hB : Region.lexTailB .any l.toArray n = true)
    (h : wpQuiet P l.toArray (fun w' => ∃ x, w' = bl w x) (fun a' => ∀ w', (∃ x, w' = bl w x) → wpList P l.toArray Q (l.drop n) a' w') (l.take n) a) : (Code.region id l.toArray true).wp P Q a w :=
  wp_region_quiet_tail (C := fun w' => ∃ x, w' = bl w x) n hm hB ⟨⟨_, (Below.refl w.heap.size w).drew⟩, rfl⟩ h
end
end Go.Proofs.Ytdeiipbnaknedaa
/- the reference's reading: has. -/
namespace Go.Proofs.Ytdeiipbnaknedaa
open Go.RowKit
set_option linter.unusedVariables false
set_option linter.unusedSimpArgs false

/-- does pat stand at i? -/
def hasP (xs : List Nat) (i : Nat) (pat : List Nat) : Bool := decide (i + pat.length ≤ xs.length) && decide ((xs.drop i).take pat.length = pat)
set_option maxRecDepth 20000 in
theorem rf_has7 (A : Option Addr) (n c i : Nat) (xs pat : List Nat) (w : World) (h : Nums .u8 w A n c xs) (hb : ∀ x ∈ xs, x < 256) (hp : ∀ x ∈ pat, x < 256) (hn : n ≤ 100000) (hi : i ≤ 100000) (hpl : 1 ≤ pat.length ∧ pat.length ≤ 100) :
    Calls Try.prog 28 #[.slice A n c, .int .i64 (i : Int), .string (str pat)] w fun e w' => e = .returned (.bool (hasP xs i pat)) ∧ w = w' := by
  obtain rfl := h.len
  have hcap := h.cap
  have hsz := str_size pat
  by_cases h1 : i + pat.length ≤ xs.length
  · obtain ⟨b, off, rfl, hbl, hc0⟩ := h.at_ (by omega)
    have hpart := h.part i pat.length (c - i) (by omega) (by omega) (by omega)
    have hl : ((xs.drop i).take pat.length).length = pat.length := by rw [List.length_take, List.length_drop]; omega
    have hf : hasP xs i pat = ((str ((xs.drop i).take pat.length)).toList == (str pat).toList) := by
      unfold hasP
      rw [decide_eq_true h1, Bool.true_and, Bool.eq_iff_iff, decide_eq_true_iff, beq_iff_eq]
      constructor
      · intro h; rw [h]
      · intro h
        have h2 : str ((xs.drop i).take pat.length) = str pat := by
          have := toList_beq (str ((xs.drop i).take pat.length)) (str pat)
          rw [h, beq_self_eq_true] at this
          simpa using this.symm
        have h3 := congrArg bytesOf h2
        rwa [bytesOf_str _ fun y hy => hb y (List.mem_of_mem_drop (List.mem_of_mem_take hy)), bytesOf_str _ hp] at h3
    generalize (xs.drop i).take pat.length = sub at *
    rw [← hl] at hpart
    have hconv := run_bytes_str (P := Try.prog) w 22 5 9 Try.underlying22 Try.underlying5 Try.underlying9 _ _ sub hpart
    rw [hl] at hconv
    have Hf := Lib.hid hf
    have s2 : IntKind.i64.wrap ((i : Int) + (pat.length : Int)) = ((i + pat.length : Nat) : Int) := by rw [IntWalk.i64_in _ (by omega)]; omega
    have s3 : ((i + pat.length : Nat) : Int) ≤ (xs.length : Int) := by omega
    clear hf hpart hc0 h hb hp
    go_enter Try.func28, Try.ntmps28
    go_wp2_with fail
    go_ret
    exact ⟨by rw [Hf.out]; rfl, rfl⟩
  · have hf : hasP xs i pat = false := by unfold hasP; rw [decide_eq_false h1]; rfl
    have s2 : IntKind.i64.wrap ((i : Int) + (pat.length : Int)) = ((i + pat.length : Nat) : Int) := by rw [IntWalk.i64_in _ (by omega)]; omega
    have Hf := Lib.hid hf
    have d1 : decide (((i + pat.length : Nat) : Int) ≤ (xs.length : Int)) = false := by rw [decide_eq_false_iff_not]; omega
    clear hf h hb hp
    go_enter Try.func28, Try.ntmps28
    go_wp2_with fail
    go_ret
    exact ⟨by rw [Hf.out]; rfl, rfl⟩
end Go.Proofs.Ytdeiipbnaknedaa
/- the reference's reading: skip, where nothing but blanks is skipped. -/
namespace Go.Proofs.Ytdeiipbnaknedaa
open Go.RowKit
set_option linter.unusedVariables false
set_option linter.unusedSimpArgs false

def blankB (x : Nat) : Bool := x == 32 || x == 9 || x == 10 || x == 13
/-- nothing but a blank may be skipped at i -/
def plainAt (xs : List Nat) (i : Nat) : Bool := !hasP xs i [47, 42] && !hasP xs i [47, 47] && !hasP xs i [37, 123] && (xs.getD i 0 != 60) && (xs.getD i 0 != 123)
set_option maxRecDepth 20000 in
set_option maxHeartbeats 1000000 in
theorem rf_skip7 (A : Option Addr) (n c i : Nat) (xs : List Nat) (w : World) (h : Nums .u8 w A n c xs) (hb : ∀ x ∈ xs, x < 256) (hn : n ≤ 100000) (hi : i < n) (hp : plainAt xs i = true) :
    Calls Try.prog 12 #[.slice A n c, .int .i64 (i : Int)] w fun e w' => e = .returned (.tuple #[.int .i64 ((if blankB (xs.getD i 0) then i + 1 else i : Nat) : Int), .bool (blankB (xs.getD i 0))]) ∧ w = w' := by
  obtain rfl := h.len
  have hcap := h.cap
  unfold plainAt at hp
  simp only [Bool.and_eq_true, Bool.not_eq_true', bne_iff_ne, ne_eq] at hp
  obtain ⟨⟨⟨⟨h1, h2⟩, h3⟩, h4⟩, h5⟩ := hp
  have c1 := rf_has7 A xs.length c i xs [47, 42] w h hb (by decide) hn (by omega) (by decide)
  have c2 := rf_has7 A xs.length c i xs [47, 47] w h hb (by decide) hn (by omega) (by decide)
  have c3 := rf_has7 A xs.length c i xs [37, 123] w h hb (by decide) hn (by omega) (by decide)
  rw [h1] at c1
  rw [h2] at c2
  rw [h3] at c3
  rw [show str [47, 42] = ⟨#[47, 42]⟩ from rfl] at c1
  rw [show str [47, 47] = ⟨#[47, 47]⟩ from rfl] at c2
  rw [show str [37, 123] = ⟨#[37, 123]⟩ from rfl] at c3
  obtain ⟨b, off, x, rfl, hbl, Hx, hc⟩ := h.get hi
  have hx : xs.getD i 0 = x := by rw [List.getD_eq_getElem?_getD, Hx.out]; rfl
  rw [hx] at h4 h5 ⊢
  have C1 := Lib.hid c1
  have C2 := Lib.hid c2
  have C3 := Lib.hid c3
  clear c1 c2 c3 h1 h2 h3 h hb hx
  have d4 : ((x : Int) == 60) = false := by rw [beq_eq_false_iff_ne]; omega
  have d5 : ((x : Int) == 123) = false := by rw [beq_eq_false_iff_ne]; omega
  have hways : x = 32 ∨ x = 9 ∨ x = 10 ∨ x = 13 ∨ (((x : Int) == 32) = false ∧ ((x : Int) == 9) = false ∧ ((x : Int) == 10) = false ∧ ((x : Int) == 13) = false ∧ blankB x = false) := by
    by_cases g1 : x = 32
    · exact .inl g1
    · by_cases g2 : x = 9
      · exact .inr (.inl g2)
      · by_cases g3 : x = 10
        · exact .inr (.inr (.inl g3))
        · by_cases g4 : x = 13
          · exact .inr (.inr (.inr (.inl g4)))
          · refine .inr (.inr (.inr (.inr ⟨?_, ?_, ?_, ?_, by simp [blankB, g1, g2, g3, g4]⟩))) <;> (rw [beq_eq_false_iff_ne]; omega)
  rcases hways with rfl | rfl | rfl | rfl | ⟨g1, g2, g3, g4, g5⟩
  all_goals
    first
      | rw [g5, if_neg Bool.false_ne_true]
      | rw [show blankB 32 = true from rfl, if_pos rfl]
      | rw [show blankB 9 = true from rfl, if_pos rfl]
      | rw [show blankB 10 = true from rfl, if_pos rfl]
      | rw [show blankB 13 = true from rfl, if_pos rfl]
    go_enter Try.func12, Try.ntmps12
    go_wp2_with (first
      | (go_at_call 28; (with_reducible refine C1.out.mono ?_); rintro e w2 ⟨rfl, rfl⟩)
      | (go_at_call 28; (with_reducible refine C2.out.mono ?_); rintro e w3 ⟨rfl, rfl⟩)
      | (go_at_call 28; (with_reducible refine C3.out.mono ?_); rintro e w4 ⟨rfl, rfl⟩))
    refine bodyPost_ret (results_tmp2 rfl _ _ _) rfl ?_
    exact ⟨by first | rfl | (simp [blankB]; done) | (simp [g5]; done), rfl⟩
end Go.Proofs.Ytdeiipbnaknedaa
/- the reference's reading: mark. -/
namespace Go.Proofs.Ytdeiipbnaknedaa
open Go.RowKit
set_option linter.unusedVariables false
set_option linter.unusedSimpArgs false

def markP (x : Nat) : Int := if x = 58 then 10 else if x = 124 then 11 else if x = 59 then 12 else 0
set_option maxRecDepth 20000 in
theorem rf_mark7 (x : Nat) (w : World) : Calls Try.prog 38 #[.int .u8 (x : Int)] w fun e w' => e = .returned (.int .i64 (markP x)) ∧ w = w' := by
  have hways : x = 58 ∨ x = 124 ∨ x = 59 ∨ (((x : Int) == 58) = false ∧ ((x : Int) == 124) = false ∧ ((x : Int) == 59) = false ∧ markP x = 0) := by
    by_cases g1 : x = 58
    · exact .inl g1
    · by_cases g2 : x = 124
      · exact .inr (.inl g2)
      · by_cases g3 : x = 59
        · exact .inr (.inr (.inl g3))
        · refine .inr (.inr (.inr ⟨?_, ?_, ?_, by simp [markP, g1, g2, g3]⟩)) <;> (rw [beq_eq_false_iff_ne]; omega)
  rcases hways with rfl | rfl | rfl | ⟨g1, g2, g3, g5⟩
  all_goals
    first
      | rw [g5]
      | rw [show markP 58 = 10 from rfl]
      | rw [show markP 124 = 11 from rfl]
      | rw [show markP 59 = 12 from rfl]
    go_enter Try.func38, Try.ntmps38
    go_wp2_with fail
    go_ret
    exact ⟨rfl, rfl⟩
end Go.Proofs.Ytdeiipbnaknedaa
/- the reference's reading: one token: a mark. -/
namespace Go.Proofs.Ytdeiipbnaknedaa
open Go.RowKit
set_option linter.unusedVariables false
set_option linter.unusedSimpArgs false

theorem results_cell2 {P : Program} {fn : Func} {p u v : Tmp} {ty : TypeId} (h : fn.results = #[.cell p ty, .tmp u, .tmp v]) (tmps : Array Value) (w : World) (g : Nat) (t : TypeId) (cs : Array Value) (fr : Nat × Nat) (d : TypeDesc)
    (hp : tmps.getD p undef = .pointer (some ⟨g, 0, none⟩)) (hg : w.heap[g]? = some (.cells cs t fr))
    (hu : P.underlying ty = some d) (hd : (match d with | .struct _ | .array _ _ => true | _ => false) = true) (hi : (P.info? ty).map (·.size) = some cs.size) :
    (results fn tmps).run P w = .ok (.tuple #[.agg cs, tmps.getD u undef, tmps.getD v undef]) w := by
  have hp' : tmps[p]?.getD undef = .pointer (some ⟨g, 0, none⟩) := by simpa using hp
  simp [results, h, hp', asAddr, run_loadVar_row w g t ty cs fr d hg hu hd hi]

/-- a token as a value -/
abbrev TkV (kd : Int) (tx : List Nat) (at_ : Value) : Value := .agg #[.int .i64 kd, .string (str tx), at_]
set_option maxRecDepth 100000 in
set_option maxHeartbeats 2000000 in
theorem rf_one_mark (A : Option Addr) (n c i : Nat) (xs : List Nat) (w : World) (h : Nums .u8 w A n c xs) (hb : ∀ x ∈ xs, x < 256) (hn : n ≤ 100000) (hi : i < n) (h1 : letterB (xs.getD i 0) = false) (h2 : xs.getD i 0 ≠ 39) (h3 : hasP xs i [37, 37] = false) (h4 : xs.getD i 0 ≠ 37) (h5 : markP (xs.getD i 0) ≠ 0) :
    Calls Try.prog 14 #[.slice A n c, .int .i64 (i : Int)] w fun e w' => e = .returned (.tuple #[TkV (markP (xs.getD i 0)) [] (atP xs i), .int .i64 ((i + 1 : Nat) : Int), .int .i64 0]) ∧ Below w.heap.size w w' := by
  obtain rfl := h.len
  have hcap := h.cap
  obtain ⟨b, off, x, rfl, hbl, Hx, hc⟩ := h.get hi
  have hx : xs.getD i 0 = x := by rw [List.getD_eq_getElem?_getD, Hx.out]; rfl
  rw [hx] at h1 h2 h4 h5 ⊢
  have H := Lib.hid h
  have CT := Lib.hid fun W (hW : Below w.heap.size w W) => ref_at (some ⟨b, off, none⟩) xs.length c xs (i : Int) W (h.below hW) hn
  have CH := Lib.hid fun W (hW : Below w.heap.size w W) => (rf_has7 (some ⟨b, off, none⟩) xs.length c i xs [37, 37] W (h.below hW) hb (by decide) hn (by omega) (by decide))
  rw [h3, show str [37, 37] = ⟨#[37, 37]⟩ from rfl] at CH
  have hx256 : x < 256 := hb x (List.mem_of_getElem? Hx.out)
  have CF := Lib.hid fun W => lx_first x W hx256
  rw [h1] at CF
  have CM := Lib.hid fun W => rf_mark7 x W
  obtain ⟨ca, cb, hat⟩ : ∃ a b, atP xs (i : Int) = .complex .f64 a b := by
    unfold atP PV
    split
    · exact ⟨_, _, rfl⟩
    · exact ⟨_, _, rfl⟩
  rw [hat] at CT ⊢
  have d2 : ((x : Int) == 39) = false := by rw [beq_eq_false_iff_ne]; omega
  have d4 : ((x : Int) == 37) = false := by rw [beq_eq_false_iff_ne]; omega
  have d5 : (markP x == 0) = false := by rw [beq_eq_false_iff_ne]; exact h5
  generalize markP x = mk at *
  clear h hb h1 h2 h3 h4 h5 hx hat
  have hB1 := alloc_below w (.cells #[.int .i64 0, .string ⟨#[]⟩, .complex .f64 0 0] 38)
  have ksc : ∀ (w : World) (a : Addr) (k : FloatKind) (x y : Nat) (m : Mode), (store a (.complex k x y) m).run Try.prog w = stored Try.prog w a (.complex k x y) m := fun w a k x y m => run_store Try.prog w a _ m rfl
  go_enter Try.func14, Try.ntmps14
  go_wp2_with (first
    | (go_at_call 13; (with_reducible refine (CT.out _ hB1).mono ?_); rintro e w2 ⟨rfl, rfl⟩)
    | (go_at_call 33; (with_reducible refine (CF.out _).mono ?_); rintro e w3 ⟨rfl, rfl⟩)
    | (go_at_call 28; (with_reducible refine (CH.out _ (below_alloc hB1 _)).mono ?_); rintro e w4 ⟨rfl, rfl⟩)
    | (go_at_call 38; (with_reducible refine (CM.out _).mono ?_); rintro e w5 ⟨rfl, rfl⟩))
  refine bodyPost_ret (results_cell2 (p := 4) (u := 5) (v := 6) (by kernel_rfl) _ _ w.heap.size 38 #[.int .i64 mk, .string ⟨#[]⟩, .complex .f64 ca cb] (0, 0) _ rfl (Blk.ext (Blk.new w _ _) (alloc_below _ _)) Try.underlying38 rfl (by kernel_rfl)) rfl ?_
  exact ⟨rfl, below_alloc (alloc_below _ _) _⟩
end Go.Proofs.Ytdeiipbnaknedaa
