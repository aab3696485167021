/- grammars: the program's small functions, walked. -/
import Derived.Test.YtfdbpafenhdkbaaGreatDoorQGrW3
import Derived.Shelf.Abstract
import Derived.Test.YtfdbpafenhdkbaaGreatDoorQGrK
namespace Go.Proofs.YtfdbpafenhdkbaaGreatDoor
open Go.RowKit
set_option linter.unusedVariables false
set_option linter.unusedSimpArgs false

theorem cf_non (s : Int) (w : World) (hs : InI64 s) (h0 : s < 0) :
    Calls Tryz.prog 109 #[.int .i64 s] w fun e w' => e = .returned (.int .i64 (-1 - s)) ∧ w = w' := by
  obtain ⟨s1, s2⟩ := hs
  go_enter Tryz.func109, Tryz.ntmps109
  go_wp2_with fail
  go_ret
  exact ⟨rfl, rfl⟩

def withinB (n a b : Int) : Bool := decide (a ≤ n ∧ n ≤ b)
theorem cf_within (n a b : Int) (w : World) :
    Calls Tryz.prog 49 #[.int .i64 n, .int .i64 a, .int .i64 b] w fun e w' => e = .returned (.bool (withinB n a b)) ∧ w = w' := by
  have hf : withinB n a b = (decide (a ≤ n) && decide (n ≤ b)) := by unfold withinB; rw [Bool.decide_and]
  rw [hf]
  clear hf
  by_cases h : a ≤ n
  all_goals
    go_enter Tryz.func49, Tryz.ntmps49
    go_wp2_with fail
    go_ret
    exact ⟨by first | rfl | (simp [h]; done) | (simp [h]; omega), rfl⟩

set_option maxHeartbeats 400000 in
theorem cf_has (h : GH) (G : Gr) (s : Int) (w : World) (hg : GrAt w h G) (hs : InI64 s) (h1 : h.n1 ≤ 1000) (h2 : h.n2 ≤ 1000) :
    Calls Tryz.prog 87 #[GV h G.start, .int .i64 s] w fun e w' => e = .returned (.bool (G.has s)) ∧ Below w.heap.size w w' := by
  obtain ⟨a1, n1, c1, a2, n2, c2, a3, n3, c3⟩ := h
  have e1 : G.terms.length = n1 := hg.terms.len
  have e2 : G.nons.length = n2 := hg.nons.len
  have hf : G.has s = if 0 ≤ s then decide (s < (n1 : Int)) else decide (-1 - s < (n2 : Int)) := by unfold Gr.has; rw [e1, e2]
  rw [hf]
  simp only [] at h1 h2
  clear hf e1 e2 hg
  by_cases h0 : 0 ≤ s
  · rw [if_pos h0]
    obtain ⟨s1, s2⟩ := hs
    go_enter Tryz.func87, Tryz.ntmps87
    go_wp2_with fail
    go_ret
    exact ⟨by simp, alloc_below _ _⟩
  · rw [if_neg h0]
    have cN := fun w => cf_non s w hs (by omega)
    obtain ⟨s1, s2⟩ := hs
    have d : decide (s < 0) = true := by simp; omega
    go_enter Tryz.func87, Tryz.ntmps87
    have hbox := GBox.new w 26 ⟨a1, n1, c1, a2, n2, c2, a3, n3, c3⟩ G.start
    have hB0 := alloc_below w (.cells #[.slice a1 n1 c1, .slice a2 n2 c2, .slice a3 n3 c3, .int .i64 G.start] 26)
    have CN := Lib.hid cN
    clear cN
    go_wp2_with fail
    generalize w.alloc (.cells #[.slice a1 n1 c1, .slice a2 n2 c2, .slice a3 n3 c3, .int .i64 G.start] 26) = W1 at *
    obtain ⟨z5, z0, z1, z2, z3⟩ := hbox
    simp only [] at z0 z1 z2 z3
    have bc := bl_cell W1
    refine wp_region_below (by kernel_rfl) (by kernel_rfl) ?_
    repeat (go_big_quiet_step ((go_at_call 109; with_reducible exact bl_of_same (CN.out _))))
    refine wpQuiet_nil ?_
    rintro _ ⟨x, rfl⟩
    go_wp2_with fail
    go_ret
    exact ⟨by simp, hB0.trans ((bl_below W1 x).mono hB0.size)⟩

theorem cf_named (s : ByteArray) (w : World) (hs : s.size ≤ maxLen) :
    Calls Tryz.prog 77 #[.string s] w fun e w' => e = .returned (.bool (namedB s)) ∧ Below w.heap.size w w' := by
  have c1 := lx_name s w
  have c2 := lx_Literal s w hs
  unfold namedB
  generalize nameB (bytesOf s) = p at *
  generalize litB (bytesOf s) = q at *
  have C1 := Lib.hid c1
  have C2 := Lib.hid c2
  clear c1 c2
  cases p
  · go_enter Tryz.func77, Tryz.ntmps77
    go_wp2_with (first
      | (go_at_call 53; (with_reducible refine C1.out.mono ?_); rintro e w' ⟨rfl, rfl⟩)
      | (go_at_call 105; (with_reducible refine C2.out.mono ?_); rintro e w' ⟨rfl, hb⟩))
    go_ret
    exact ⟨rfl, hb⟩
  · go_enter Tryz.func77, Tryz.ntmps77
    go_wp2_with (first
      | (go_at_call 53; (with_reducible refine C1.out.mono ?_); rintro e w' ⟨rfl, rfl⟩)
      | (go_at_call 105; (with_reducible refine C2.out.mono ?_); rintro e w' ⟨rfl, hb⟩))
    go_ret
    exact ⟨rfl, Below.refl _ _⟩

/-- what a function value, called with a number, hands back -/
def Tells {α : Type} (g : FuncId) (caps : Array Value) (enc : α → Value) (w : World) (xs : List α) (p : α → Bool) : Prop :=
  ∀ s ∈ xs, ∀ w', Below w.heap.size w w' → Calls Tryz.prog g (#[enc s] ++ caps) w' fun e w'' => e = .returned (.bool (p s)) ∧ Below w'.heap.size w' w''

set_option maxHeartbeats 1000000 in
theorem sl_index_ints (A : Option Addr) (n c : Nat) (xs : List Int) (g : FuncId) (caps : Array Value) (p : Int → Bool) (w : World) (eg : ∀ args w, (callFunc g args).run Tryz.prog w = .ok (.enter g args) w)
    (h : Ints .i64 w A n c xs) (hp : Tells g caps (Value.int .i64) w xs p) :
    Calls Tryz.prog 64 #[.slice A n c, .func (.func g) #[] caps] w fun e w' => e = .returned (.int .i64 (findI p xs)) ∧ Below w.heap.size w w' := by
  obtain rfl := h.len
  have hcap := h.cap
  have Hp := Lib.hid hp
  clear hp
  go_enter Tryz.func64, Tryz.ntmps64
  go_wp2_with fail
  go_loopw [5, 8] (fun _ i wr => ∃ k : Nat, k ≤ xs.length ∧ i = .int .i64 (k : Int) ∧ Below w.heap.size w wr ∧ Hid (∀ j, j < k → ∀ y, xs[j]? = some y → p y = false)) (fun _ i _ => xs.length - (intOf i).toNat)
  case atStart => exact ⟨0, Nat.zero_le _, rfl, Below.refl _ _, Lib.hid fun j hj => by omega⟩
  case round =>
    obtain ⟨k, hk, rfl, hB, Hk⟩ := hrel
    by_cases hkk : k < xs.length
    · obtain ⟨b, off, s, rfl, hb, Hs, q0⟩ := h.get hkk
      rw [← hB.cell (by exact hb)] at q0
      have hc := Hp.out s (List.mem_of_getElem? Hs.out) wr hB
      cases hq : p s
      · rw [hq] at hc
        have Hq := Lib.hid hq
        have Hc := Lib.hid hc
        clear hq hc
        go_wp2_with (go_at_fn g; refine Hc.out.mono ?_; rintro e w2 ⟨rfl, hb2⟩)
        go_roundw
        case rel => exact ⟨k + 1, by omega, by go_num, below_tail hB hb2, Lib.hid (next_none Hk.out Hs.out Hq.out)⟩
        case measure => simp [intOf]; omega
      · rw [hq] at hc
        have Hf := Lib.hid (findI_at Hs.out hq Hk.out)
        have Hc := Lib.hid hc
        clear hq hc
        go_wp2_with (go_at_fn g; refine Hc.out.mono ?_; rintro e w2 ⟨rfl, hb2⟩)
        go_ret
        exact ⟨by rw [Hf.out]; rfl, below_tail hB hb2⟩
    · obtain rfl : k = xs.length := by omega
      have Hf : Hid (findI p xs = -1) := Lib.hid (findI_none fun j y hy => Hk.out j (List.getElem?_eq_some_iff.1 hy).1 y hy)
      go_wp2_with fail
      go_ret
      exact ⟨by rw [Hf.out]; rfl, hB⟩
end Go.Proofs.YtfdbpafenhdkbaaGreatDoor

namespace Go.Proofs.YtfdbpafenhdkbaaGreatDoor
open Go.RowKit
set_option linter.unusedVariables false
set_option linter.unusedSimpArgs false

set_option maxHeartbeats 1000000 in
theorem sl_index_strs (A : Option Addr) (n c : Nat) (xs : List ByteArray) (g : FuncId) (caps : Array Value) (p : ByteArray → Bool) (w : World) (eg : ∀ args w, (callFunc g args).run Tryz.prog w = .ok (.enter g args) w)
    (h : Strs w A n c xs) (hp : Tells g caps Value.string w xs p) :
    Calls Tryz.prog 82 #[.slice A n c, .func (.func g) #[] caps] w fun e w' => e = .returned (.int .i64 (findI p xs)) ∧ Below w.heap.size w w' := by
  obtain rfl := h.len
  have hcap := h.cap
  have Hp := Lib.hid hp
  clear hp
  go_enter Tryz.func82, Tryz.ntmps82
  go_wp2_with fail
  go_loopw [5, 8] (fun _ i wr => ∃ k : Nat, k ≤ xs.length ∧ i = .int .i64 (k : Int) ∧ Below w.heap.size w wr ∧ Hid (∀ j, j < k → ∀ y, xs[j]? = some y → p y = false)) (fun _ i _ => xs.length - (intOf i).toNat)
  case atStart => exact ⟨0, Nat.zero_le _, rfl, Below.refl _ _, Lib.hid fun j hj => by omega⟩
  case round =>
    obtain ⟨k, hk, rfl, hB, Hk⟩ := hrel
    by_cases hkk : k < xs.length
    · obtain ⟨b, off, s, rfl, hb, Hs, q0⟩ := h.get hkk
      rw [← hB.cell (by exact hb)] at q0
      have hc := Hp.out s (List.mem_of_getElem? Hs.out) wr hB
      cases hq : p s
      · rw [hq] at hc
        have Hq := Lib.hid hq
        have Hc := Lib.hid hc
        clear hq hc
        go_wp2_with (go_at_fn g; refine Hc.out.mono ?_; rintro e w2 ⟨rfl, hb2⟩)
        go_roundw
        case rel => exact ⟨k + 1, by omega, by go_num, below_tail hB hb2, Lib.hid (next_none Hk.out Hs.out Hq.out)⟩
        case measure => simp [intOf]; omega
      · rw [hq] at hc
        have Hf := Lib.hid (findI_at Hs.out hq Hk.out)
        have Hc := Lib.hid hc
        clear hq hc
        go_wp2_with (go_at_fn g; refine Hc.out.mono ?_; rintro e w2 ⟨rfl, hb2⟩)
        go_ret
        exact ⟨by rw [Hf.out]; rfl, below_tail hB hb2⟩
    · obtain rfl : k = xs.length := by omega
      have Hf : Hid (findI p xs = -1) := Lib.hid (findI_none fun j y hy => Hk.out j (List.getElem?_eq_some_iff.1 hy).1 y hy)
      go_wp2_with fail
      go_ret
      exact ⟨by rw [Hf.out]; rfl, hB⟩
theorem findI_any {α : Type} (p : α → Bool) (l : List α) : decide (0 ≤ findI p l) = l.any p := by
  rw [Bool.eq_iff_iff, decide_eq_true_iff, List.any_eq_true]
  constructor
  · intro h
    obtain ⟨k, hk⟩ : ∃ k : Nat, findI p l = (k : Int) := ⟨(findI p l).toNat, by omega⟩
    obtain ⟨x, hx, hp, _⟩ := findI_pos hk
    exact ⟨x, List.mem_of_getElem? hx, hp⟩
  · rintro ⟨x, hx, hp⟩
    have hlo := (findI_lo p l).1
    by_cases h : findI p l < 0
    · obtain ⟨j, hj⟩ := List.getElem?_of_mem hx
      rw [findI_neg h j x hj] at hp
      cases hp
    · omega

theorem sl_contains_ints (A : Option Addr) (n c : Nat) (xs : List Int) (g : FuncId) (caps : Array Value) (p : Int → Bool) (w : World) (eg : ∀ args w, (callFunc g args).run Tryz.prog w = .ok (.enter g args) w)
    (h : Ints .i64 w A n c xs) (hp : Tells g caps (Value.int .i64) w xs p) :
    Calls Tryz.prog 85 #[.slice A n c, .func (.func g) #[] caps] w fun e w' => e = .returned (.bool (xs.any p)) ∧ Below w.heap.size w w' := by
  have hc := sl_index_ints A n c xs g caps p w eg h hp
  rw [← findI_any]
  generalize findI p xs = r at *
  have Hc := Lib.hid hc
  clear hc hp h
  go_enter Tryz.func85, Tryz.ntmps85
  go_wp2_with (go_at_call 64; (with_reducible refine Hc.out.mono ?_); rintro e w2 ⟨rfl, hb2⟩)
  go_ret
  exact ⟨rfl, hb2⟩
theorem sl_contains_strs (A : Option Addr) (n c : Nat) (xs : List ByteArray) (g : FuncId) (caps : Array Value) (p : ByteArray → Bool) (w : World) (eg : ∀ args w, (callFunc g args).run Tryz.prog w = .ok (.enter g args) w)
    (h : Strs w A n c xs) (hp : Tells g caps Value.string w xs p) :
    Calls Tryz.prog 51 #[.slice A n c, .func (.func g) #[] caps] w fun e w' => e = .returned (.bool (xs.any p)) ∧ Below w.heap.size w w' := by
  have hc := sl_index_strs A n c xs g caps p w eg h hp
  rw [← findI_any]
  generalize findI p xs = r at *
  have Hc := Lib.hid hc
  clear hc hp h
  go_enter Tryz.func51, Tryz.ntmps51
  go_wp2_with (go_at_call 82; (with_reducible refine Hc.out.mono ?_); rintro e w2 ⟨rfl, hb2⟩)
  go_ret
  exact ⟨rfl, hb2⟩

theorem enters_rule1 : ∀ args w, (callFunc 86 args).run Tryz.prog w = .ok (.enter 86 args) w := fun args w => by kernel_rfl
theorem enters_right1 : ∀ args w, (callFunc 52 args).run Tryz.prog w = .ok (.enter 52 args) w := fun args w => by kernel_rfl

theorem cf_right1 (s : ByteArray) (w : World) :
    Calls Tryz.prog 52 #[.string s] w fun e w' => e = .returned (.bool (!nameB (bytesOf s))) ∧ w = w' := by
  have c1 := lx_name s w
  generalize nameB (bytesOf s) = p at *
  have C1 := Lib.hid c1
  clear c1
  go_enter Tryz.func52, Tryz.ntmps52
  go_wp2_with (go_at_call 53; (with_reducible refine C1.out.mono ?_); rintro e w' ⟨rfl, rfl⟩)
  go_ret
  exact ⟨rfl, rfl⟩

set_option maxHeartbeats 400000 in
theorem cf_rule1 (h : GH) (G : Gr) (gb rb : Nat) (s left : Int) (Ar : Option Addr) (nr cr : Nat) (prec : Int) (w : World) (hg : GrAt w h G) (hs : InI64 s) (h1 : h.n1 ≤ 1000) (h2 : h.n2 ≤ 1000)
    (hx : GBox w gb h G.start) (hy : RBox w rb left Ar nr cr prec) :
    Calls Tryz.prog 86 #[.int .i64 s, .pointer (some ⟨gb, 0, none⟩), .pointer (some ⟨rb, 0, none⟩)] w fun e w' => e = .returned (.bool (!G.symOK prec s)) ∧ Below w.heap.size w w' := by
  have cH := cf_has h G s w hg hs h1 h2
  obtain ⟨a1, n1, c1, a2, n2, c2, a3, n3, c3⟩ := h
  have hdef : G.symOK prec s = (G.has s && !(decide (0 ≤ s) && decide (prec = -1))) := rfl
  rw [hdef]
  obtain ⟨z5, z0, z1, z2, z3⟩ := hx
  obtain ⟨y5, y0, y1, y2⟩ := hy
  simp only [] at z0 z1 z2 z3
  generalize G.has s = b at *
  have CH := Lib.hid cH
  clear cH hg hdef
  have hways : (b = false) ∨ (b = true ∧ s < 0) ∨ (b = true ∧ 0 ≤ s ∧ prec = -1) ∨ (b = true ∧ 0 ≤ s ∧ prec ≠ -1) := by
    cases b
    · simp
    · simp only [Bool.true_eq_false, false_or, true_and]; omega
  rcases hways with rfl | ⟨rfl, g⟩ | ⟨rfl, g, g2⟩ | ⟨rfl, g, g2⟩
  · go_enter Tryz.func86, Tryz.ntmps86
    go_wp2_with (go_at_call 87; (with_reducible refine CH.out.mono ?_); rintro e w2 ⟨rfl, hb2⟩)
    go_ret
    exact ⟨rfl, hb2⟩
  · have d : decide (0 ≤ s) = false := by simp; omega
    go_enter Tryz.func86, Tryz.ntmps86
    go_wp2_with (go_at_call 87; (with_reducible refine CH.out.mono ?_); rintro e w2 ⟨rfl, hb2⟩)
    go_ret
    exact ⟨by simp [d], hb2⟩
  · have d : decide (0 ≤ s) = true := by simp; omega
    have d2 : (prec == -1) = true := by rw [beq_iff_eq]; exact g2
    have D3 : Hid (decide (prec = -1) = true) := Lib.hid (by simp [g2])
    clear g2
    go_enter Tryz.func86, Tryz.ntmps86
    go_wp2_with (go_at_call 87; (with_reducible refine CH.out.mono ?_); rintro e w2 ⟨rfl, hb2⟩; have hc2 := (bcell hb2).1)
    go_ret
    exact ⟨by rw [d, D3.out]; rfl, hb2⟩
  · have d : decide (0 ≤ s) = true := by simp; omega
    have d2 : (prec == -1) = false := by rw [beq_eq_false_iff_ne]; exact g2
    have D3 : Hid (decide (prec = -1) = false) := Lib.hid (by simp [g2])
    clear g2
    go_enter Tryz.func86, Tryz.ntmps86
    go_wp2_with (go_at_call 87; (with_reducible refine CH.out.mono ?_); rintro e w2 ⟨rfl, hb2⟩; have hc2 := (bcell hb2).1)
    go_ret
    exact ⟨by rw [d, D3.out]; rfl, hb2⟩

set_option maxHeartbeats 1000000 in
theorem cf_rule (h : GH) (G : Gr) (r : Rul) (Ar : Option Addr) (cr : Nat) (w : World) (hg : GrAt w h G) (hr : Ints .i64 w Ar r.right.length cr r.right) (hw : ∀ s ∈ r.right, InI64 s) (h1 : h.n1 ≤ 1000) (h2 : h.n2 ≤ 1000) :
    Calls Tryz.prog 54 #[GV h G.start, .agg #[.int .i64 r.left, .slice Ar r.right.length cr, .int .i64 r.prec]] w fun e w' => e = .returned (.bool (G.ruleOK r)) ∧ Below w.heap.size w w' := by
  have c1 := fun gb rb (s : Int) w' (hg' : GrAt w' h G) hs hx hy => cf_rule1 h G gb rb s r.left Ar r.right.length cr r.prec w' hg' hs h1 h2 hx hy
  obtain ⟨a1, n1, c1', a2, n2, c2, a3, n3, c3⟩ := h
  have e1 : G.terms.length = n1 := hg.terms.len
  have hcap := hr.cap
  simp only [] at h1 h2
  have Hf : Hid (G.ruleOK r = (decide (r.right.length ≤ 6) && decide (-1 ≤ r.prec ∧ r.prec < (n1 : Int)) && r.right.all (G.symOK r.prec))) := Lib.hid (by unfold Gr.ruleOK; rw [e1])
  clear e1
  have cW := fun w => cf_within r.prec (-1) ((n1 : Int) - 1) w
  have hwi : withinB r.prec (-1) ((n1 : Int) - 1) = decide (-1 ≤ r.prec ∧ r.prec < (n1 : Int)) := by
    unfold withinB
    rw [Bool.eq_iff_iff, decide_eq_true_iff, decide_eq_true_iff]; omega
  rw [hwi] at cW
  clear hwi
  generalize decide (-1 ≤ r.prec ∧ r.prec < (n1 : Int)) = bw at *
  have CW := Lib.hid cW
  have C1 := Lib.hid c1
  have Hg := Lib.hid hg
  have Hr := Lib.hid hr
  have Hw := Lib.hid hw
  clear cW c1 hg hr hw
  obtain ⟨hB0, hb1, hb2⟩ := two_boxes w 26 51 ⟨a1, n1, c1', a2, n2, c2, a3, n3, c3⟩ G.start r.left Ar r.right.length cr r.prec
  have hs0 : IntKind.i64.wrap ((n1 : Int) - 1) = (n1 : Int) - 1 := IntWalk.i64_in _ (by omega)
  have hways : (6 < (r.right.length : Int)) ∨ ((r.right.length : Int) ≤ 6 ∧ bw = false) ∨ ((r.right.length : Int) ≤ 6 ∧ bw = true) := by
    cases bw <;> simp <;> omega
  rcases hways with g | ⟨g, rfl⟩ | ⟨g, rfl⟩
  · have Hfin : Hid (G.ruleOK r = false) := Lib.hid (by
      rw [Hf.out]
      have : decide (r.right.length ≤ 6) = false := by simp; omega
      rw [this]; rfl)
    clear hb1 hb2
    have HB0 := Lib.hid hB0
    clear hB0
    go_enter Tryz.func54, Tryz.ntmps54
    go_wp2_with fail
    go_ret
    exact ⟨by rw [Hfin.out]; rfl, HB0.out⟩
  · have Hfin : Hid (G.ruleOK r = false) := Lib.hid (by rw [Hf.out]; simp)
    clear hb1 hb2
    have HB0 := Lib.hid hB0
    clear hB0
    go_enter Tryz.func54, Tryz.ntmps54
    go_wp2_with fail
    (with_reducible refine (CW.out _).mono ?_)
    rintro e w2 ⟨rfl, rfl⟩
    go_wp2_with fail
    go_ret
    exact ⟨by rw [Hfin.out]; rfl, HB0.out⟩
  · have Hfin : Hid (G.ruleOK r = r.right.all (G.symOK r.prec)) := Lib.hid (by
      rw [Hf.out]
      have : decide (r.right.length ≤ 6) = true := by simp; omega
      rw [this]; rfl)
    go_enter Tryz.func54, Tryz.ntmps54
    go_wp2_with fail
    (with_reducible refine (CW.out _).mono ?_)
    rintro e w2 ⟨rfl, rfl⟩
    go_wp2_with fail
    generalize (w.alloc (.cells #[.slice a1 n1 c1', .slice a2 n2 c2, .slice a3 n3 c3, .int .i64 G.start] 26)).alloc (.cells #[.int .i64 r.left, .slice Ar r.right.length cr, .int .i64 r.prec] 51) = W1 at *
    have hT : Tells 86 #[.pointer (some ⟨w.heap.size, 0, none⟩), .pointer (some ⟨w.heap.size + 1, 0, none⟩)] (Value.int .i64) W1 r.right (fun s => !G.symOK r.prec s) := fun s hs w' hb' =>
      C1.out w.heap.size (w.heap.size + 1) s w' ((Hg.out.below hB0).below hb') (Hw.out s hs) (hb1.below hb') (hb2.below hb')
    have hc := sl_contains_ints Ar r.right.length cr r.right _ _ _ W1 enters_rule1 (Hr.out.below hB0) hT
    (with_reducible refine hc.mono ?_)
    rintro e w3 ⟨rfl, hb3⟩
    go_wp2_with fail
    go_ret
    have hq : (!r.right.any fun s => !G.symOK r.prec s) = r.right.all (G.symOK r.prec) := by
      rw [List.all_eq_not_any_not]
    exact ⟨by rw [Hfin.out, ← hq]; rfl, below_tail hB0 hb3⟩
end Go.Proofs.YtfdbpafenhdkbaaGreatDoor

namespace Go.Proofs.YtfdbpafenhdkbaaGreatDoor
set_option linter.unusedVariables false
set_option linter.unusedSimpArgs false

/-- how the last terminal of a level associates; 0: there is none -/
def wayOf (l : List Trm) (L : Int) : Int := l.foldl (fun a t => if t.level = L then t.assoc else a) 0
theorem wayOf_snoc (l : List Trm) (t : Trm) (L : Int) : wayOf (l ++ [t]) L = if t.level = L then t.assoc else wayOf l L := by simp [wayOf]
def hasL (l : List Trm) (L : Int) : Bool := l.any fun t => decide (t.level = L)
theorem hasL_snoc (l : List Trm) (t : Trm) (L : Int) : hasL (l ++ [t]) L = (hasL l L || decide (t.level = L)) := by simp [hasL]
def cntL (l : List Trm) : Nat := (List.range 25).countP fun (n : Nat) => decide (1 ≤ n) && hasL l (n : Int)
def topL (l : List Trm) : Int := l.foldl (fun a t => if t.level = 0 then a else max a t.level) 0
theorem topL_snoc (l : List Trm) (t : Trm) : topL (l ++ [t]) = if t.level = 0 then topL l else max (topL l) t.level := by simp [topL]
def consAt (l : List Trm) (k : Nat) (t : Trm) : Bool := decide (t.level = 0) || decide (wayOf (l.take k) t.level = 0) || decide (wayOf (l.take k) t.level = t.assoc)
def consOK (l : List Trm) : Bool := allI (consAt l) l
def levelsP (l : List Trm) : Bool := consOK l && decide ((cntL l : Int) = topL l)

theorem countP_more (p : Nat → Bool) (m : Nat) (hp : p m = false) : ∀ N, (List.range N).countP (fun (n : Nat) => p n || decide (n = m)) = (List.range N).countP p + if m < N then 1 else 0 := by
  intro N
  induction N with
  | zero => simp
  | succ N ih =>
    rw [List.range_succ, List.countP_append, List.countP_append, ih]
    simp only [List.countP_singleton]
    by_cases h : N = m
    · subst h
      simp [hp]
    · have : decide (N = m) = false := by simp [h]
      rw [this, Bool.or_false]
      by_cases h2 : m < N
      · have h3 : m < N + 1 := by omega
        simp only [h2, h3, if_true]; omega
      · have h3 : ¬ m < N + 1 := by omega
        simp only [h2, h3, if_false]; omega
theorem cntL_snoc (l : List Trm) (t : Trm) (h1 : 1 ≤ t.level) (h2 : t.level ≤ 24) : cntL (l ++ [t]) = if hasL l t.level then cntL l else cntL l + 1 := by
  obtain ⟨m, hm⟩ : ∃ m : Nat, t.level = (m : Int) := ⟨t.level.toNat, by omega⟩
  by_cases h : hasL l t.level = true
  · rw [if_pos h]
    unfold cntL
    congr 1
    funext n
    rw [hasL_snoc]
    by_cases hn : t.level = (n : Int)
    · rw [← hn, h]; simp
    · simp [hn]
  · rw [if_neg h]
    have h' : hasL l t.level = false := by simpa using h
    have := countP_more (fun (n : Nat) => decide (1 ≤ n) && hasL l (n : Int)) m (by rw [← hm, h']; simp) 25
    rw [if_pos (by omega)] at this
    unfold cntL
    rw [← this]
    congr 1
    funext n
    rw [hasL_snoc]
    by_cases hn : n = m
    · subst hn
      have e : decide (1 ≤ n) = true := by simp; omega
      rw [hm, e]; simp
    · have e1 : decide (n = m) = false := by simp [hn]
      have e2 : decide (t.level = (n : Int)) = false := by simp; omega
      rw [e1, e2]; simp
theorem cntL_zero (l : List Trm) (t : Trm) (h : t.level = 0) : cntL (l ++ [t]) = cntL l := by
  unfold cntL
  congr 1
  funext n
  rw [hasL_snoc, h]
  by_cases h1 : 1 ≤ n
  · have : decide ((0 : Int) = (n : Int)) = false := by simp; omega
    rw [this]; simp
  · have : decide (1 ≤ n) = false := by simp; omega
    rw [this]; simp

theorem countP_full (q : Nat → Bool) (hq : ∀ n, q n = true → 1 ≤ n) : ∀ m, (List.range (m + 1)).countP q ≤ m ∧ ((List.range (m + 1)).countP q = m ↔ ∀ n, 1 ≤ n → n ≤ m → q n = true) := by
  intro m
  induction m with
  | zero =>
    have : q 0 = false := by
      cases h : q 0
      · rfl
      · have := hq 0 h; omega
    simp [List.range_succ, this]
    intro n h1 h2; omega
  | succ m ih =>
    rw [List.range_succ, List.countP_append, List.countP_singleton]
    cases h : q (m + 1)
    · simp only [Bool.false_eq_true, if_false, Nat.add_zero]
      refine ⟨by omega, ?_, ?_⟩
      · intro he; omega
      · intro ha
        have := ha (m + 1) (by omega) (Nat.le_refl _)
        rw [h] at this; cases this
    · simp only [if_true]
      refine ⟨by omega, ?_, ?_⟩
      · intro he n h1 h2
        rcases Nat.lt_or_ge n (m + 1) with h3 | h3
        · exact (ih.2.1 (by omega)) n h1 (by omega)
        · obtain rfl : n = m + 1 := by omega
          exact h
      · intro ha
        have := ih.2.2 fun n h1 h2 => ha n h1 (by omega)
        omega
theorem countP_cut (q : Nat → Bool) (T : Nat) (hq : ∀ n, q n = true → n ≤ T) : ∀ N, T < N → (List.range N).countP q = (List.range (T + 1)).countP q := by
  intro N hN
  induction N with
  | zero => omega
  | succ N ih =>
    by_cases h : N = T
    · subst h; rfl
    · rw [List.range_succ, List.countP_append, ih (by omega), List.countP_singleton]
      have : q N = false := by
        cases h1 : q N
        · rfl
        · have := hq N h1; omega
      rw [this]; simp

theorem topL_spec (l : List Trm) (h0 : ∀ t ∈ l, 0 ≤ t.level) : (∀ t ∈ l, t.level ≤ topL l) ∧ 0 ≤ topL l ∧ (topL l = 0 ∨ ∃ t ∈ l, t.level = topL l) := by
  have key : ∀ n (p : List Trm), p = l.take n → (∀ t ∈ p, t.level ≤ topL p) ∧ 0 ≤ topL p ∧ (topL p = 0 ∨ ∃ t ∈ p, t.level = topL p) := by
    intro n
    induction n with
    | zero => intro p hp; rw [hp]; simp [topL]
    | succ n ih =>
      intro p hp
      rw [hp, List.take_add_one]
      cases hx : l[n]? with
      | none => simpa using ih _ rfl
      | some t =>
        obtain ⟨i1, i2, i3⟩ := ih _ rfl
        have ht := h0 t (List.mem_of_getElem? hx)
        simp only [Option.toList_some]
        rw [topL_snoc]
        by_cases h : t.level = 0
        · rw [if_pos h]
          refine ⟨fun u hu => ?_, i2, ?_⟩
          · rw [List.mem_append, List.mem_singleton] at hu
            rcases hu with hu | rfl
            · exact i1 u hu
            · omega
          · rcases i3 with i3 | ⟨u, hu, he⟩
            · exact .inl i3
            · exact .inr ⟨u, List.mem_append_left _ hu, he⟩
        · rw [if_neg h]
          refine ⟨fun u hu => ?_, by omega, ?_⟩
          · rw [List.mem_append, List.mem_singleton] at hu
            rcases hu with hu | rfl
            · have := i1 u hu; omega
            · omega
          · right
            by_cases hm : topL (l.take n) ≤ t.level
            · exact ⟨t, by simp, by omega⟩
            · rcases i3 with i3 | ⟨u, hu, he⟩
              · omega
              · exact ⟨u, List.mem_append_left _ hu, by omega⟩
  have := key l.length l (by rw [List.take_of_length_le (Nat.le_refl _)])
  exact this

theorem wayOf_has (l : List Trm) (L : Int) (hb : ∀ t ∈ l, t.level = L → t.assoc ≠ 0) : wayOf l L ≠ 0 ↔ hasL l L = true := by
  have key : ∀ n, (wayOf (l.take n) L ≠ 0 ↔ hasL (l.take n) L = true) := by
    intro n
    induction n with
    | zero => simp [wayOf, hasL]
    | succ n ih =>
      rw [List.take_add_one]
      cases hx : l[n]? with
      | none => simpa using ih
      | some t =>
        simp only [Option.toList_some]
        rw [wayOf_snoc, hasL_snoc]
        by_cases h : t.level = L
        · rw [if_pos h]
          simp [h, hb t (List.mem_of_getElem? hx) h]
        · rw [if_neg h]
          simp only [h, decide_false, Bool.or_false]
          exact ih
  have := key l.length
  rwa [List.take_of_length_le (Nat.le_refl _)] at this

theorem levelGo_spec (n : Int) : ∀ (l p : List Trm), levelGo n l (wayOf p n) = true ↔
    (∀ (k : Nat) t, l[k]? = some t → t.level = n → wayOf (p ++ l.take k) n = 0 ∨ wayOf (p ++ l.take k) n = t.assoc) ∧ wayOf (p ++ l) n ≠ 0
  | [], p => by simp [levelGo]
  | t :: l, p => by
    rw [levelGo]
    by_cases h : t.level = n
    · rw [if_pos h]
      have e : wayOf (p ++ [t]) n = t.assoc := by rw [wayOf_snoc, if_pos h]
      by_cases hb : wayOf p n ≠ 0 ∧ wayOf p n ≠ t.assoc
      · rw [if_pos hb]
        constructor
        · intro h; cases h
        · rintro ⟨ha, _⟩
          have := ha 0 t rfl h
          simp only [List.take_zero, List.append_nil] at this
          rcases this with h1 | h1
          · exact absurd h1 hb.1
          · exact absurd h1 hb.2
      · rw [if_neg hb, ← e, levelGo_spec n l (p ++ [t])]
        simp only [List.append_assoc, List.cons_append, List.nil_append]
        constructor
        · rintro ⟨ha, hw⟩
          refine ⟨fun k u hu hl => ?_, hw⟩
          cases k with
          | zero =>
            simp only [List.getElem?_cons_zero, Option.some.injEq] at hu
            subst hu
            simp only [List.take_zero, List.append_nil]
            by_cases h0 : wayOf p n = 0
            · exact .inl h0
            · right
              by_cases h1 : wayOf p n = t.assoc
              · exact h1
              · exact absurd ⟨h0, h1⟩ hb
          | succ k =>
            rw [List.getElem?_cons_succ] at hu
            exact ha k u hu hl
        · rintro ⟨ha, hw⟩
          exact ⟨fun k u hu hl => ha (k + 1) u (by rw [List.getElem?_cons_succ]; exact hu) hl, hw⟩
    · rw [if_neg h]
      have e : wayOf (p ++ [t]) n = wayOf p n := by rw [wayOf_snoc, if_neg h]
      rw [← e, levelGo_spec n l (p ++ [t])]
      simp only [List.append_assoc, List.cons_append, List.nil_append]
      constructor
      · rintro ⟨ha, hw⟩
        refine ⟨fun k u hu hl => ?_, hw⟩
        cases k with
        | zero =>
          simp only [List.getElem?_cons_zero, Option.some.injEq] at hu
          subst hu
          exact absurd hl h
        | succ k =>
          rw [List.getElem?_cons_succ] at hu
          exact ha k u hu hl
      · rintro ⟨ha, hw⟩
        exact ⟨fun k u hu hl => ha (k + 1) u (by rw [List.getElem?_cons_succ]; exact hu) hl, hw⟩
theorem levelB_spec (l : List Trm) (n : Int) : levelB l n = true ↔ (∀ (k : Nat) t, l[k]? = some t → t.level = n → wayOf (l.take k) n = 0 ∨ wayOf (l.take k) n = t.assoc) ∧ wayOf l n ≠ 0 := by
  have := levelGo_spec n l []
  simpa [wayOf, levelB] using this

theorem basicT_facts {t : Trm} (h : basicT t = true) : namedB t.name = true ∧ 0 ≤ t.level ∧ t.level ≤ 24 ∧ 0 ≤ t.assoc ∧ t.assoc ≤ 3 ∧ (t.level = 0 ↔ t.assoc = 0) := by
  simp [basicT] at h
  obtain ⟨⟨⟨h1, h2, h3⟩, h4, h5⟩, h6⟩ := h
  refine ⟨h1, h2, h3, h4, h5, ?_⟩
  by_cases g : t.level = 0 <;> by_cases g2 : t.assoc = 0 <;> simp_all

/-- both ways come to the same -/
theorem levels_same (l : List Trm) (hb : ∀ t ∈ l, basicT t = true) : levelsP l = l.all (levelsT l) := by
  have h0 : ∀ t ∈ l, 0 ≤ t.level := fun t ht => (basicT_facts (hb t ht)).2.1
  obtain ⟨t1, t2, t3⟩ := topL_spec l h0
  have ht24 : topL l ≤ 24 := by
    rcases t3 with h | ⟨t, ht, he⟩
    · omega
    · have := (basicT_facts (hb t ht)).2.2.1; omega
  obtain ⟨T, hT⟩ : ∃ T : Nat, topL l = (T : Int) := ⟨(topL l).toNat, by omega⟩
  have hq1 : ∀ n : Nat, (decide (1 ≤ n) && hasL l (n : Int)) = true → 1 ≤ n := fun n h => by simp at h; exact h.1
  have hq2 : ∀ n : Nat, (decide (1 ≤ n) && hasL l (n : Int)) = true → n ≤ T := fun n h => by
    simp [hasL] at h
    obtain ⟨_, t, ht, he⟩ := h
    have := t1 t ht
    omega
  have hcnt : cntL l = T ↔ ∀ n : Nat, 1 ≤ n → n ≤ T → hasL l (n : Int) = true := by
    unfold cntL
    rw [countP_cut _ T hq2 25 (by omega), (countP_full _ hq1 T).2]
    constructor
    · intro h n h1 h2
      have := h n h1 h2
      simp at this
      exact this.2
    · intro h n h1 h2
      simp [h n h1 h2, h1]
  have hass : ∀ L : Int, L ≠ 0 → ∀ t ∈ l, t.level = L → t.assoc ≠ 0 := fun L hL t ht he h => by
    have := (basicT_facts (hb t ht)).2.2.2.2.2
    rw [← he] at hL
    exact hL (this.2 h)
  rw [Bool.eq_iff_iff]
  unfold levelsP
  rw [Bool.and_eq_true, decide_eq_true_iff, hT, List.all_eq_true]
  constructor
  · rintro ⟨hc, he⟩ t ht
    have hall := hcnt.1 (by omega)
    unfold levelsT
    rw [List.all_eq_true]
    intro n hn
    rw [List.mem_range] at hn
    have hle := t1 t ht
    rw [levelB_spec]
    refine ⟨fun k u hu hl => ?_, ?_⟩
    · have := allI_get hc hu
      simp [consAt] at this
      rcases this with (h | h) | h
      · omega
      · rw [hl] at h; exact .inl h
      · rw [hl] at h; exact .inr h
    · rw [wayOf_has l _ (hass _ (by omega))]
      have := hall (n + 1) (by omega) (by omega)
      simpa using this
  · intro ha
    have hlev : ∀ t ∈ l, ∀ n : Nat, 1 ≤ n → (n : Int) ≤ t.level → levelB l (n : Int) = true := fun t ht n h1 h2 => by
      have := ha t ht
      unfold levelsT at this
      rw [List.all_eq_true] at this
      have := this (n - 1) (by rw [List.mem_range]; omega)
      rwa [show ((n - 1 : Nat) : Int) + 1 = (n : Int) from by omega] at this
    refine ⟨allI_true fun k t hk => ?_, ?_⟩
    · have htm := List.mem_of_getElem? hk
      have hl0 := h0 t htm
      simp only [consAt, Bool.or_eq_true, decide_eq_true_eq]
      by_cases hz : t.level = 0
      · exact .inl (.inl hz)
      · obtain ⟨m, hm⟩ : ∃ m : Nat, t.level = (m : Int) := ⟨t.level.toNat, by omega⟩
        have := hlev t htm m (by omega) (by omega)
        rw [levelB_spec] at this
        have := this.1 k t hk hm
        rw [← hm] at this
        rcases this with h | h
        · exact .inl (.inr h)
        · exact .inr h
    · have : cntL l = T := hcnt.2 fun n h1 h2 => by
        rcases t3 with h | ⟨t, ht, he⟩
        · omega
        · have := hlev t ht n h1 (by omega)
          rw [levelB_spec] at this
          exact (wayOf_has l _ (hass _ (by omega))).1 this.2
      omega
end Go.Proofs.YtfdbpafenhdkbaaGreatDoor
