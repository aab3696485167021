/- cycles: the fixed fact: the document's examples. -/
import Derived.Test.YtfdbpafenhdkbaaGreatDoorQCyW13
import Derived.Test.YtfdbpafenhdkbaaGreatDoorQCyW16
import Derived.Test.YtfdbpafenhdkbaaGreatDoorQPs15
import Derived.Test.YtfdbpafenhdkbaaGreatDoorQGrE0
namespace Go.Proofs.YtfdbpafenhdkbaaGreatDoor
open Go.RowKit
set_option linter.unusedVariables false
set_option linter.unusedSimpArgs false

def text13A : List Nat := [37, 37, 32, 115, 32, 58, 32, 97, 32, 124, 32, 39, 98, 39, 32, 59, 32, 97, 32, 58, 32, 115, 32, 59]
def text13B : List Nat := [37, 37, 32, 115, 32, 58, 32, 110, 32, 115, 32, 110, 32, 124, 32, 39, 97, 39, 32, 59, 32, 110, 32, 58, 32, 59]
def text13C : List Nat := [37, 37, 32, 115, 32, 58, 32, 116, 32, 39, 97, 39, 32, 124, 32, 116, 32, 59, 32, 116, 32, 58, 32, 117, 32, 59, 32, 117, 32, 58, 32, 39, 117, 39, 32, 124, 32, 59]
def g13A : Gr := ⟨[⟨⟨#[39, 98, 39]⟩, 0, 0⟩], [⟨#[115]⟩, ⟨#[97]⟩], [⟨0, [-2], -1⟩, ⟨0, [0], 0⟩, ⟨1, [-1], -1⟩], 0⟩
def g13B : Gr := ⟨[⟨⟨#[39, 97, 39]⟩, 0, 0⟩], [⟨#[115]⟩, ⟨#[110]⟩], [⟨0, [-2, -1, -2], -1⟩, ⟨0, [0], 0⟩, ⟨1, [], -1⟩], 0⟩
def g13C : Gr := ⟨[⟨⟨#[39, 97, 39]⟩, 0, 0⟩, ⟨⟨#[39, 117, 39]⟩, 0, 0⟩], [⟨#[115]⟩, ⟨#[116]⟩, ⟨#[117]⟩], [⟨0, [-2, 0], 0⟩, ⟨0, [-2], -1⟩, ⟨1, [-3], -1⟩, ⟨2, [1], 1⟩, ⟨2, [], -1⟩], 0⟩
theorem read13A : readC text13A = some g13A := by kernel_rfl
theorem names13A : ∀ t ∈ g13A.terms, t.name.size ≤ maxLen := by
  intro t ht
  have : t.name.size ≤ 3 := by
    simp only [g13A, List.mem_cons, List.not_mem_nil, or_false] at ht
    subst ht; decide
  simp only [maxLen]
  omega
theorem read13B : readC text13B = some g13B := by kernel_rfl
theorem names13B : ∀ t ∈ g13B.terms, t.name.size ≤ maxLen := by
  intro t ht
  have : t.name.size ≤ 3 := by
    simp only [g13B, List.mem_cons, List.not_mem_nil, or_false] at ht
    subst ht; decide
  simp only [maxLen]
  omega
theorem read13C : readC text13C = some g13C := by kernel_rfl
theorem names13C : ∀ t ∈ g13C.terms, t.name.size ≤ maxLen := by
  intro t ht
  have : t.name.size ≤ 3 := by
    simp only [g13C, List.mem_cons, List.not_mem_nil, or_false] at ht
    rcases ht with rfl | rfl <;> decide
  simp only [maxLen]
  omega
theorem o13A : ordG g13A = ([], 10) := by kernel_rfl
theorem o13C : ordG g13C = ([2, 1, 0], 0) := by kernel_rfl
theorem o130 : ordG g0 = ([], 1) := by kernel_rfl
theorem c13A : cycG g13A = 3 := by kernel_rfl
theorem r13B : g13B.right = true := by kernel_rfl
theorem s13B : stepsN g13B = [1, 0] := by kernel_rfl
theorem e13B : endG g13B = true := by kernel_rfl
theorem e13C : endG g13C = false := by kernel_rfl
/-- a grammar in a box -/
def Al (W : World) (g : Nat) (h : GH) (G : Gr) : Prop := GBox W g h 0 ∧ GrAt W h G
theorem Al.below {W V : World} {g : Nat} {h : GH} {G : Gr} (a : Al W g h G) (hb : Below W.heap.size W V) : Al V g h G := ⟨a.1.below hb, a.2.below hb⟩
/-- what stands ahead of each call -/
structure A13 (w W : World) (gA gB gC : Nat) (hA hB hC : GH) : Prop where
  below : Below w.heap.size w W
  tab : TabAt W
  a : Al W gA hA g13A
  b : Al W gB hB g13B
  c : Al W gC hC g13C
theorem A13.step {w W V : World} {gA gB gC : Nat} {hA hB hC : GH} (q : A13 w W gA gB gC hA hB hC) (hb : Below W.heap.size W V) : A13 w V gA gB gC hA hB hC :=
  ⟨below_tail q.below hb, q.tab.below hb, q.a.below hb, q.b.below hb, q.c.below hb⟩
/-- the laws' fixed fact -/
abbrev Alive13 : Prop := ∀ w : World, TabAt w → Calls Tryz.prog 7 #[] w fun e w' => e = .returned (.bool true) ∧ Below w.heap.size w w'

set_option maxRecDepth 20000 in
set_option maxHeartbeats 4000000 in
theorem alive13 : Alive13 := by
  intro w hTab
  have kc := fun (w : World) (C : Array Value) (n c : Nat) => Lib.run_convert_bytes_const (P := Tryz.prog) w 49 5 C n c Tryz.underlying49 Tryz.underlying5
  have HT := Lib.hid hTab
  clear hTab
  go_enter Tryz.func7, Tryz.ntmps7
  go_wp2_with fail
  have hN0 : Nums .u8 (w.alloc (.cells #[.int .u8 37, .int .u8 37, .int .u8 32, .int .u8 115, .int .u8 32, .int .u8 58, .int .u8 32, .int .u8 97, .int .u8 32, .int .u8 124, .int .u8 32, .int .u8 39, .int .u8 98, .int .u8 39, .int .u8 32, .int .u8 59, .int .u8 32, .int .u8 97, .int .u8 32, .int .u8 58, .int .u8 32, .int .u8 115, .int .u8 32, .int .u8 59] 5 (24, 25))) (some ⟨w.heap.size, 0, none⟩) 24 24 text13A := markd_sl w 5 (24, 25) (nums .u8 text13A) 24 _ rfl rfl (by decide)
  have hBa : Below w.heap.size w (w.alloc (.cells #[.int .u8 37, .int .u8 37, .int .u8 32, .int .u8 115, .int .u8 32, .int .u8 58, .int .u8 32, .int .u8 97, .int .u8 32, .int .u8 124, .int .u8 32, .int .u8 39, .int .u8 98, .int .u8 39, .int .u8 32, .int .u8 59, .int .u8 32, .int .u8 97, .int .u8 32, .int .u8 58, .int .u8 32, .int .u8 115, .int .u8 32, .int .u8 59] 5 (24, 25))) := (Below.refl _ _).alloc (Nat.le_refl _) _
  have hc := rf_ReadC _ 24 24 text13A g13A _ read13A hN0 (by decide) (by decide)
  rw [show g13A.start = 0 from rfl] at hc
  try dsimp only at hc
  (with_reducible refine hc.mono ?_)
  rintro e v0 ⟨hA, rfl, hgA, bA1, bA2, bA3, _, hB1⟩
  have hBv0 := below_tail hBa hB1
  clear hc hN0 hBa hB1
  have HlA : Hid (hA.n1 ≤ 100 ∧ hA.n2 ≤ 100 ∧ hA.n3 ≤ 100) := Lib.hid ⟨by omega, by omega, by omega⟩
  have hal := alloc_below v0 (.cells #[.slice hA.a1 hA.n1 hA.c1, .slice hA.a2 hA.n2 hA.c2, .slice hA.a3 hA.n3 hA.c3, .int .i64 0] 26)
  have hAlA : Al (v0.alloc (.cells #[.slice hA.a1 hA.n1 hA.c1, .slice hA.a2 hA.n2 hA.c2, .slice hA.a3 hA.n3 hA.c3, .int .i64 0] 26)) v0.heap.size hA g13A := ⟨GBox.new v0 26 hA 0, hgA.below hal⟩
  have hbn := below_tail hBv0 hal
  have hBw_ := Lib.hid hbn
  clear hBv0 hgA bA1 bA2 bA3 hal hbn
  go_upto_region 2 with fail
  have hAlA_ := Lib.hid hAlA
  clear hAlA
  generalize v0.alloc (.cells #[.slice hA.a1 hA.n1 hA.c1, .slice hA.a2 hA.n2 hA.c2, .slice hA.a3 hA.n3 hA.c3, .int .i64 0] 26) = W0 at *
  generalize v0.heap.size = gA at *
  have hAlA := hAlA_
  clear hAlA_
  have hBw := hBw_
  clear hBw_
  go_wp2_with fail
  have hN0 : Nums .u8 (W0.alloc (.cells #[.int .u8 37, .int .u8 37, .int .u8 32, .int .u8 115, .int .u8 32, .int .u8 58, .int .u8 32, .int .u8 110, .int .u8 32, .int .u8 115, .int .u8 32, .int .u8 110, .int .u8 32, .int .u8 124, .int .u8 32, .int .u8 39, .int .u8 97, .int .u8 39, .int .u8 32, .int .u8 59, .int .u8 32, .int .u8 110, .int .u8 32, .int .u8 58, .int .u8 32, .int .u8 59] 5 (26, 27))) (some ⟨W0.heap.size, 0, none⟩) 26 26 text13B := markd_sl W0 5 (26, 27) (nums .u8 text13B) 26 _ rfl rfl (by decide)
  have hBa : Below W0.heap.size W0 (W0.alloc (.cells #[.int .u8 37, .int .u8 37, .int .u8 32, .int .u8 115, .int .u8 32, .int .u8 58, .int .u8 32, .int .u8 110, .int .u8 32, .int .u8 115, .int .u8 32, .int .u8 110, .int .u8 32, .int .u8 124, .int .u8 32, .int .u8 39, .int .u8 97, .int .u8 39, .int .u8 32, .int .u8 59, .int .u8 32, .int .u8 110, .int .u8 32, .int .u8 58, .int .u8 32, .int .u8 59] 5 (26, 27))) := (Below.refl _ _).alloc (Nat.le_refl _) _
  have hc := rf_ReadC _ 26 26 text13B g13B _ read13B hN0 (by decide) (by decide)
  rw [show g13B.start = 0 from rfl] at hc
  try dsimp only at hc
  (with_reducible refine hc.mono ?_)
  rintro e v1 ⟨hB, rfl, hgB, bB1, bB2, bB3, _, hB1⟩
  have hBv1 := below_tail hBa hB1
  clear hc hN0 hBa hB1
  have HlB : Hid (hB.n1 ≤ 100 ∧ hB.n2 ≤ 100 ∧ hB.n3 ≤ 100) := Lib.hid ⟨by omega, by omega, by omega⟩
  have hal := alloc_below v1 (.cells #[.slice hB.a1 hB.n1 hB.c1, .slice hB.a2 hB.n2 hB.c2, .slice hB.a3 hB.n3 hB.c3, .int .i64 0] 26)
  have hAlB : Al (v1.alloc (.cells #[.slice hB.a1 hB.n1 hB.c1, .slice hB.a2 hB.n2 hB.c2, .slice hB.a3 hB.n3 hB.c3, .int .i64 0] 26)) v1.heap.size hB g13B := ⟨GBox.new v1 26 hB 0, hgB.below hal⟩
  have hbn := below_tail hBv1 hal
  have hAlA_ := Lib.hid (hAlA.out.below hbn)
  have hBw_ := Lib.hid (below_tail hBw.out hbn)
  clear hBv1 hgB bB1 bB2 bB3 hal hAlA hBw hbn
  go_upto_region 3 with fail
  have hAlB_ := Lib.hid hAlB
  clear hAlB
  generalize v1.alloc (.cells #[.slice hB.a1 hB.n1 hB.c1, .slice hB.a2 hB.n2 hB.c2, .slice hB.a3 hB.n3 hB.c3, .int .i64 0] 26) = W1 at *
  generalize v1.heap.size = gB at *
  have hAlA := hAlA_
  clear hAlA_
  have hAlB := hAlB_
  clear hAlB_
  have hBw := hBw_
  clear hBw_
  go_wp2_with fail
  have hN0 : Nums .u8 (W1.alloc (.cells #[.int .u8 37, .int .u8 37, .int .u8 32, .int .u8 115, .int .u8 32, .int .u8 58, .int .u8 32, .int .u8 116, .int .u8 32, .int .u8 39, .int .u8 97, .int .u8 39, .int .u8 32, .int .u8 124, .int .u8 32, .int .u8 116, .int .u8 32, .int .u8 59, .int .u8 32, .int .u8 116, .int .u8 32, .int .u8 58, .int .u8 32, .int .u8 117, .int .u8 32, .int .u8 59, .int .u8 32, .int .u8 117, .int .u8 32, .int .u8 58, .int .u8 32, .int .u8 39, .int .u8 117, .int .u8 39, .int .u8 32, .int .u8 124, .int .u8 32, .int .u8 59] 5 (38, 39))) (some ⟨W1.heap.size, 0, none⟩) 38 38 text13C := markd_sl W1 5 (38, 39) (nums .u8 text13C) 38 _ rfl rfl (by decide)
  have hBa : Below W1.heap.size W1 (W1.alloc (.cells #[.int .u8 37, .int .u8 37, .int .u8 32, .int .u8 115, .int .u8 32, .int .u8 58, .int .u8 32, .int .u8 116, .int .u8 32, .int .u8 39, .int .u8 97, .int .u8 39, .int .u8 32, .int .u8 124, .int .u8 32, .int .u8 116, .int .u8 32, .int .u8 59, .int .u8 32, .int .u8 116, .int .u8 32, .int .u8 58, .int .u8 32, .int .u8 117, .int .u8 32, .int .u8 59, .int .u8 32, .int .u8 117, .int .u8 32, .int .u8 58, .int .u8 32, .int .u8 39, .int .u8 117, .int .u8 39, .int .u8 32, .int .u8 124, .int .u8 32, .int .u8 59] 5 (38, 39))) := (Below.refl _ _).alloc (Nat.le_refl _) _
  have hc := rf_ReadC _ 38 38 text13C g13C _ read13C hN0 (by decide) (by decide)
  rw [show g13C.start = 0 from rfl] at hc
  try dsimp only at hc
  (with_reducible refine hc.mono ?_)
  rintro e v2 ⟨hC, rfl, hgC, bC1, bC2, bC3, _, hB1⟩
  have hBv2 := below_tail hBa hB1
  clear hc hN0 hBa hB1
  have HlC : Hid (hC.n1 ≤ 100 ∧ hC.n2 ≤ 100 ∧ hC.n3 ≤ 100) := Lib.hid ⟨by omega, by omega, by omega⟩
  have hal := alloc_below v2 (.cells #[.slice hC.a1 hC.n1 hC.c1, .slice hC.a2 hC.n2 hC.c2, .slice hC.a3 hC.n3 hC.c3, .int .i64 0] 26)
  have hAlC : Al (v2.alloc (.cells #[.slice hC.a1 hC.n1 hC.c1, .slice hC.a2 hC.n2 hC.c2, .slice hC.a3 hC.n3 hC.c3, .int .i64 0] 26)) v2.heap.size hC g13C := ⟨GBox.new v2 26 hC 0, hgC.below hal⟩
  have hbn := below_tail hBv2 hal
  have hAlA_ := Lib.hid (hAlA.out.below hbn)
  have hAlB_ := Lib.hid (hAlB.out.below hbn)
  have hBw_ := Lib.hid (below_tail hBw.out hbn)
  clear hBv2 hgC bC1 bC2 bC3 hal hAlA hAlB hBw hbn
  go_upto_region 4 with fail
  have hAlC_ := Lib.hid hAlC
  clear hAlC
  generalize v2.alloc (.cells #[.slice hC.a1 hC.n1 hC.c1, .slice hC.a2 hC.n2 hC.c2, .slice hC.a3 hC.n3 hC.c3, .int .i64 0] 26) = W2 at *
  generalize v2.heap.size = gC at *
  have hAlA := hAlA_
  clear hAlA_
  have hAlB := hAlB_
  clear hAlB_
  have hAlC := hAlC_
  clear hAlC_
  have hBw := hBw_
  clear hBw_
  have hq : A13 w W2 gA gB gC hA hB hC := ⟨hBw.out, HT.out.below hBw.out, hAlA.out, hAlB.out, hAlC.out⟩
  clear hAlA hAlB hAlC hBw
  have ⟨y5, y0, y1, y2, y3⟩ := hq.c.1
  try simp only [] at y0 y1 y2 y3
  go_wp2_with fail
  have cF := tr_Order stepsSaid usefulSaid hC g13C W2 hq.c.2 names13C hq.tab HlC.out.1 HlC.out.2.1 HlC.out.2.2
  rw [show g13C.start = 0 from rfl] at cF
  unfold RetOrd at cF
  rw [o13C] at cF
  (with_reducible refine cF.mono ?_)
  rintro e W3 ⟨hb, Ao0, co0, rfl, rO0⟩
  clear y0 y1 y2 y3 y5
  clear cF
  have hq_ := hq.step hb
  clear hq
  have hq := hq_
  clear hq_
  have RO := Lib.hid rO0
  clear rO0 hb
  have ⟨y5, y0, y1, y2, y3⟩ := hq.a.1
  try simp only [] at y0 y1 y2 y3
  go_wp2_with fail
  have cF := tr_Order stepsSaid usefulSaid hA g13A W3 hq.a.2 names13A hq.tab HlA.out.1 HlA.out.2.1 HlA.out.2.2
  rw [show g13A.start = 0 from rfl] at cF
  unfold RetOrd at cF
  rw [o13A] at cF
  (with_reducible refine cF.mono ?_)
  rintro e W4 ⟨hb, Ao1, co1, rfl, rO1⟩
  clear y0 y1 y2 y3 y5
  clear cF
  have hq_ := hq.step hb
  clear hq
  have hq := hq_
  clear hq_
  have RO_ := Lib.hid (RO.out.below hb)
  clear RO
  have RO := RO_
  clear RO_
  clear rO1 hb
  go_wp2_with fail
  have cF := tr_Order stepsSaid usefulSaid noH g0 W4 (g0_at W4) (fun t ht => by cases ht) hq.tab (by decide) (by decide) (by decide)
  unfold RetOrd at cF
  rw [o130] at cF
  replace cF : Calls Tryz.prog 9 #[.agg #[.slice none 0 0, .slice none 0 0, .slice none 0 0, .int .i64 0]] W4 _ := cF
  (with_reducible refine cF.mono ?_)
  rintro e W5 ⟨hb, Ao2, co2, rfl, rO2⟩
  clear cF
  have hq_ := hq.step hb
  clear hq
  have hq := hq_
  clear hq_
  have RO_ := Lib.hid (RO.out.below hb)
  clear RO
  have RO := RO_
  clear RO_
  clear rO2 hb
  have ⟨y5, y0, y1, y2, y3⟩ := hq.a.1
  try simp only [] at y0 y1 y2 y3
  go_wp2_with fail
  have cF := tr_Cycles stepsSaid hA g13A W5 hq.a.2 names13A hq.tab HlA.out.1 HlA.out.2.1 HlA.out.2.2
  rw [show g13A.start = 0 from rfl, c13A, show ((3 : Nat) : Int) = 3 from rfl] at cF
  (with_reducible refine cF.mono ?_)
  rintro e W6 ⟨hb, rfl⟩
  clear cF
  clear y0 y1 y2 y3 y5
  have hq_ := hq.step hb
  clear hq
  have hq := hq_
  clear hq_
  have RO_ := Lib.hid (RO.out.below hb)
  clear RO
  have RO := RO_
  clear RO_
  clear hb
  have ⟨y5, y0, y1, y2, y3⟩ := hq.b.1
  try simp only [] at y0 y1 y2 y3
  go_wp2_with fail
  have cF := (tr_Steps hB g13B W6 hq.b.2 names13B HlB.out.1 HlB.out.2.1 HlB.out.2.2).mono fun e w' hh => And.intro hh.1 (hh.2.resolve_left fun hc => absurd (hc.1.symm.trans r13B) (by decide)).2
  rw [show g13B.start = 0 from rfl] at cF
  have eB : Hid (hB.n2 = 2) := Lib.hid hq.b.2.nons.len.symm
  rw [s13B] at cF
  (with_reducible refine cF.mono ?_)
  rintro e W7 ⟨hb, gS, _, rfl, hSt⟩
  clear cF
  clear y0 y1 y2 y3 y5
  have hq_ := hq.step hb
  clear hq
  have hq := hq_
  clear hq_
  have RO_ := Lib.hid (RO.out.below hb)
  clear RO
  have RO := RO_
  clear RO_
  have hNS := SetT.nums hSt (by decide)
  replace hNS : Nums .u32 W7 (some ⟨gS, 0, none⟩) hB.n2 hB.n2 [1, 0] := by rw [eB.out]; exact hNS
  clear hSt hb
  go_wp2_with fail
  have hal := alloc_below W7 (.cells #[.int .u32 1, .int .u32 0] 36)
  have hL : Nums .u32 (W7.alloc (.cells #[.int .u32 1, .int .u32 0] 36)) (some ⟨W7.heap.size, 0, none⟩) 2 2 [1, 0] := lit_sl W7 36 (nums .u32 [1, 0]) 2 _ rfl rfl (by decide)
  have cF := ref_sets _ _ _ [1, 0] _ 2 2 [1, 0] _ (hNS.below hal) hL
  rw [show (([1, 0] : List Nat) == [1, 0]) = true from rfl] at cF
  (with_reducible refine cF.mono ?_)
  rintro e W8 ⟨rfl, hS⟩
  have hb := below_tail hal (hS.below _)
  clear cF hNS hL hS hal
  have hq_ := hq.step hb
  clear hq
  have hq := hq_
  clear hq_
  have RO_ := Lib.hid (RO.out.below hb)
  clear RO
  have RO := RO_
  clear RO_
  clear hb
  have ⟨y5, y0, y1, y2, y3⟩ := hq.b.1
  try simp only [] at y0 y1 y2 y3
  go_wp2_with fail
  have cF := tr_Endless stepsSaid usefulSaid hB g13B W8 hq.b.2 names13B hq.tab HlB.out.1 HlB.out.2.1 HlB.out.2.2
  rw [show g13B.start = 0 from rfl, e13B] at cF
  (with_reducible refine cF.mono ?_)
  rintro e W9 ⟨hb, rfl⟩
  clear cF
  clear y0 y1 y2 y3 y5
  have hq_ := hq.step hb
  clear hq
  have hq := hq_
  clear hq_
  have RO_ := Lib.hid (RO.out.below hb)
  clear RO
  have RO := RO_
  clear RO_
  clear hb
  have ⟨y5, y0, y1, y2, y3⟩ := hq.c.1
  try simp only [] at y0 y1 y2 y3
  go_wp2_with fail
  have cF := tr_Endless stepsSaid usefulSaid hC g13C W9 hq.c.2 names13C hq.tab HlC.out.1 HlC.out.2.1 HlC.out.2.2
  rw [show g13C.start = 0 from rfl, e13C] at cF
  (with_reducible refine cF.mono ?_)
  rintro e W10 ⟨hb, rfl⟩
  clear cF
  clear y0 y1 y2 y3 y5
  have hq_ := hq.step hb
  clear hq
  have hq := hq_
  clear hq_
  have RO_ := Lib.hid (RO.out.below hb)
  clear RO
  have RO := RO_
  clear RO_
  clear hb
  go_wp2_with fail
  have hal := alloc_below W10 (.cells #[.int .i64 2, .int .i64 1, .int .i64 0] 3)
  have hL : Ints .i64 (W10.alloc (.cells #[.int .i64 2, .int .i64 1, .int .i64 0] 3)) (some ⟨W10.heap.size, 0, none⟩) 3 3 [2, 1, 0] := lit_sl W10 3 (ints .i64 [2, 1, 0]) 3 _ rfl rfl (by decide)
  have cF := ref_ints Ao0 3 co0 [2, 1, 0] _ 3 3 [2, 1, 0] _ (RO.out.below hal) hL
  rw [show (([2, 1, 0] : List Int) == [2, 1, 0]) = true from rfl] at cF
  (with_reducible refine cF.mono ?_)
  rintro e W11 ⟨rfl, hS⟩
  go_wp2_with fail
  go_ret
  exact ⟨rfl, below_tail hq.below (below_tail hal (hS.below _))⟩
end Go.Proofs.YtfdbpafenhdkbaaGreatDoor
