/- trees: the fixed fact: the document's examples. -/
import Derived.Test.YtfdbpafenhdkbaaGreatQTrC1
namespace Go.Proofs.YtfdbpafenhdkbaaGreat
open Go.RowKit
set_option linter.unusedVariables false
set_option linter.unusedSimpArgs false

def text21a : List Nat := [37, 37, 32, 115, 32, 58, 32, 39, 97, 39, 32, 115, 32, 124, 32, 59]
def text21b : List Nat := [37, 37, 32, 115, 32, 58, 32, 116, 32, 39, 120, 39, 32, 116, 32, 59, 32, 116, 32, 58, 32, 39, 97, 39, 32, 124, 32, 39, 98, 39, 32, 116, 32, 59]
def ga21 : Gr := ⟨[⟨⟨#[39, 97, 39]⟩, 0, 0⟩], [⟨#[115]⟩], [⟨0, [0, -1], 0⟩, ⟨0, [], -1⟩], 0⟩
def gb21 : Gr := ⟨[⟨⟨#[39, 120, 39]⟩, 0, 0⟩, ⟨⟨#[39, 97, 39]⟩, 0, 0⟩, ⟨⟨#[39, 98, 39]⟩, 0, 0⟩], [⟨#[115]⟩, ⟨#[116]⟩], [⟨0, [-2, 0, -2], 0⟩, ⟨1, [1], 1⟩, ⟨1, [2, -2], 2⟩], 0⟩
theorem read21a : readC text21a = some ga21 := by kernel_rfl
theorem read21b : readC text21b = some gb21 := by kernel_rfl
theorem names21a : ∀ t ∈ ga21.terms, t.name.size ≤ maxLen := by
  intro t ht
  have : t.name.size ≤ 3 := by
    simp only [ga21, List.mem_cons, List.not_mem_nil, or_false] at ht
    subst ht
    decide
  simp only [maxLen]
  omega
theorem names21b : ∀ t ∈ gb21.terms, t.name.size ≤ maxLen := by
  intro t ht
  have : t.name.size ≤ 3 := by
    simp only [gb21, List.mem_cons, List.not_mem_nil, or_false] at ht
    rcases ht with rfl | rfl | rfl <;> decide
  simp only [maxLen]
  omega
theorem t21a : readT ga21 [0, 0, 1] = some ([0, 0], [1, 0, 0], 3) := by kernel_rfl
theorem t21b : readT gb21 [0, 1, 2, 1] = some ([1, 0, 2, 1], [1, 1, 2, 0], 3) := by kernel_rfl
theorem t21c : ofT gb21 [1, 1, 2, 0] = some [0, 1, 2, 1] := by kernel_rfl
theorem t21d : readT ga21 [0] = none := by kernel_rfl
theorem t21e : ofT ga21 [1, 1] = none := by kernel_rfl
theorem t21f : (readT ga21 [1]).isSome = true := by kernel_rfl
theorem t21g : (readT ga21 []).isSome = false := by kernel_rfl
theorem t21h : ofE ga21 = 3 := by kernel_rfl
/-- the laws' fixed fact -/
abbrev Alive21 : Prop := ∀ w : World, Calls Tryz.prog 23 #[] w fun e w' => e = .returned (.bool true) ∧ Below w.heap.size w w'

set_option maxRecDepth 20000 in
set_option maxHeartbeats 4000000 in
theorem alive21 : Alive21 := by
  intro w
  have kc := fun (w : World) (C : Array Value) (n c : Nat) => Lib.run_convert_bytes_const (P := Tryz.prog) w 54 5 C n c Tryz.underlying54 Tryz.underlying5
  go_enter Tryz.func23, Tryz.ntmps23
  go_wp2_with fail
  have hN0 : Nums .u8 (w.alloc (.cells #[.int .u8 37, .int .u8 37, .int .u8 32, .int .u8 115, .int .u8 32, .int .u8 58, .int .u8 32, .int .u8 39, .int .u8 97, .int .u8 39, .int .u8 32, .int .u8 115, .int .u8 32, .int .u8 124, .int .u8 32, .int .u8 59] 5 (16, 17))) (some ⟨w.heap.size, 0, none⟩) 16 16 text21a := markd_sl w 5 (16, 17) (nums .u8 text21a) 16 _ rfl rfl (by decide)
  have hBa : Below w.heap.size w (w.alloc (.cells #[.int .u8 37, .int .u8 37, .int .u8 32, .int .u8 115, .int .u8 32, .int .u8 58, .int .u8 32, .int .u8 39, .int .u8 97, .int .u8 39, .int .u8 32, .int .u8 115, .int .u8 32, .int .u8 124, .int .u8 32, .int .u8 59] 5 (16, 17))) := (Below.refl _ _).alloc (Nat.le_refl _) _
  have hc := rf_ReadC _ 16 16 text21a ga21 _ read21a hN0 (by decide) (by decide)
  rw [show ga21.start = 0 from rfl] at hc
  (with_reducible refine hc.mono ?_)
  rintro e w1 ⟨hA, rfl, hgA, bA1, bA2, bA3, _, hB1⟩
  have hBw1 := below_tail hBa hB1
  clear hc hN0 hBa hB1
  have hgl : (hA.n1 ≤ 100 ∧ hA.n2 ≤ 100 ∧ hA.n3 ≤ 100) := ⟨by omega, by omega, by omega⟩
  have HlA := Lib.hid hgl
  have hal := alloc_below w1 (.cells #[.slice hA.a1 hA.n1 hA.c1, .slice hA.a2 hA.n2 hA.c2, .slice hA.a3 hA.n3 hA.c3, .int .i64 0] 26)
  have hxA := GBox.new w1 26 hA 0
  have hgA2 := hgA.below hal
  have hB2 := below_tail hBw1 hal
  go_upto_region 2 with fail
  generalize w1.alloc (.cells #[.slice hA.a1 hA.n1 hA.c1, .slice hA.a2 hA.n2 hA.c2, .slice hA.a3 hA.n3 hA.c3, .int .i64 0] 26) = W2 at *
  generalize w1.heap.size = gTA at *
  clear hal hgA hBw1 bA1 bA2 bA3 hgl
  go_wp2_with fail
  have hN0 : Nums .u8 (W2.alloc (.cells #[.int .u8 37, .int .u8 37, .int .u8 32, .int .u8 115, .int .u8 32, .int .u8 58, .int .u8 32, .int .u8 116, .int .u8 32, .int .u8 39, .int .u8 120, .int .u8 39, .int .u8 32, .int .u8 116, .int .u8 32, .int .u8 59, .int .u8 32, .int .u8 116, .int .u8 32, .int .u8 58, .int .u8 32, .int .u8 39, .int .u8 97, .int .u8 39, .int .u8 32, .int .u8 124, .int .u8 32, .int .u8 39, .int .u8 98, .int .u8 39, .int .u8 32, .int .u8 116, .int .u8 32, .int .u8 59] 5 (34, 35))) (some ⟨W2.heap.size, 0, none⟩) 34 34 text21b := markd_sl W2 5 (34, 35) (nums .u8 text21b) 34 _ rfl rfl (by decide)
  have hBa : Below W2.heap.size W2 (W2.alloc (.cells #[.int .u8 37, .int .u8 37, .int .u8 32, .int .u8 115, .int .u8 32, .int .u8 58, .int .u8 32, .int .u8 116, .int .u8 32, .int .u8 39, .int .u8 120, .int .u8 39, .int .u8 32, .int .u8 116, .int .u8 32, .int .u8 59, .int .u8 32, .int .u8 116, .int .u8 32, .int .u8 58, .int .u8 32, .int .u8 39, .int .u8 97, .int .u8 39, .int .u8 32, .int .u8 124, .int .u8 32, .int .u8 39, .int .u8 98, .int .u8 39, .int .u8 32, .int .u8 116, .int .u8 32, .int .u8 59] 5 (34, 35))) := (Below.refl _ _).alloc (Nat.le_refl _) _
  have hc := rf_ReadC _ 34 34 text21b gb21 _ read21b hN0 (by decide) (by decide)
  rw [show gb21.start = 0 from rfl] at hc
  dsimp only at hc
  (with_reducible refine hc.mono ?_)
  rintro e w3 ⟨hB, rfl, hgB, bB1, bB2, bB3, _, hB1⟩
  have hBw3 := below_tail hBa hB1
  clear hc hN0 hBa hB1
  have hgl : (hB.n1 ≤ 100 ∧ hB.n2 ≤ 100 ∧ hB.n3 ≤ 100) := ⟨by omega, by omega, by omega⟩
  have HlB := Lib.hid hgl
  have hal := alloc_below w3 (.cells #[.slice hB.a1 hB.n1 hB.c1, .slice hB.a2 hB.n2 hB.c2, .slice hB.a3 hB.n3 hB.c3, .int .i64 0] 26)
  have hxB := GBox.new w3 26 hB 0
  have hgB2 := hgB.below hal
  have hx_ := (hxA.below hBw3).below hal
  have hg_ := (hgA2.below hBw3).below hal
  have hB_ := below_tail (below_tail hB2 hBw3) hal
  clear hxA hgA2 hB2
  have hxA := hx_
  have hgA2 := hg_
  have hBx := hB_
  clear hx_ hg_ hB_
  have ⟨y5, y0, y1, y2, y3⟩ := hxA
  go_upto_region 3 with fail
  generalize w3.alloc (.cells #[.slice hB.a1 hB.n1 hB.c1, .slice hB.a2 hB.n2 hB.c2, .slice hB.a3 hB.n3 hB.c3, .int .i64 0] 26) = W4 at *
  generalize w3.heap.size = gTB at *
  clear hal hgB hBw3 bB1 bB2 bB3 hgl y0 y1 y2 y3 y5
  have ⟨y5, y0, y1, y2, y3⟩ := hxA
  have ⟨z5, z0, z1, z2, z3⟩ := hxB
  go_wp2_with fail
  have hba := alloc_below W4 (.cells #[.int .i64 0, .int .i64 0, .int .i64 1] 3)
  have hL : Ints .i64 (W4.alloc (.cells #[.int .i64 0, .int .i64 0, .int .i64 1] 3)) (some ⟨W4.heap.size, 0, none⟩) 3 3 [0, 0, 1] := lit_sl W4 3 (ints .i64 [0, 0, 1]) 3 _ rfl rfl (by decide)
  have cF := tr_Word hA ga21 _ 3 3 [0, 0, 1] _ (hgA2.below hba) names21a hL (by decide) HlA.out.1 HlA.out.2.1 HlA.out.2.2
  rw [show ga21.start = 0 from rfl] at cF
  have cF2 := cF.mono fun e w' hh => And.intro hh.1 (hh.2.resolve_left fun hc => absurd hc.1 (by rw [t21a]; exact fun h => by cases h))
  (with_reducible refine cF2.mono ?_)
  rintro e W5 ⟨hbV, wd, ps, k, ArW, crW, hre, rfl, rW⟩
  rw [t21a] at hre
  injection hre with hre
  simp only [Prod.mk.injEq] at hre
  obtain ⟨rfl, rfl, rfl⟩ := hre
  have hbW := below_tail hba hbV
  clear cF cF2 hL hba hbV y0 y1 y2 y3 y5 z0 z1 z2 z3 z5
  have hxA_ := hxA.below hbW
  have hxB_ := hxB.below hbW
  have hgA_ := hgA2.below hbW
  have hgB_ := hgB2.below hbW
  have hBx_ := below_tail hBx hbW
  clear hxA hxB hgA2 hgB2 hBx
  have hxA := hxA_
  have hxB := hxB_
  have hgA2 := hgA_
  have hgB2 := hgB_
  have hBx := hBx_
  clear hxA_ hxB_ hgA_ hgB_ hBx_
  have ⟨y5, y0, y1, y2, y3⟩ := hxA
  have ⟨z5, z0, z1, z2, z3⟩ := hxB
  clear hbW
  go_wp2_with fail
  have hba := alloc_below W5 (.cells #[.int .i64 0, .int .i64 1, .int .i64 2, .int .i64 1] 3)
  have hL : Ints .i64 (W5.alloc (.cells #[.int .i64 0, .int .i64 1, .int .i64 2, .int .i64 1] 3)) (some ⟨W5.heap.size, 0, none⟩) 4 4 [0, 1, 2, 1] := lit_sl W5 3 (ints .i64 [0, 1, 2, 1]) 4 _ rfl rfl (by decide)
  have cF := tr_Reductions hB gb21 _ 4 4 [0, 1, 2, 1] _ (hgB2.below hba) names21b hL (by decide) HlB.out.1 HlB.out.2.1 HlB.out.2.2
  rw [show gb21.start = 0 from rfl] at cF
  have cF2 := cF.mono fun e w' hh => And.intro hh.1 (hh.2.resolve_left fun hc => absurd hc.1 (by rw [t21b]; exact fun h => by cases h))
  (with_reducible refine cF2.mono ?_)
  rintro e W6 ⟨hbV, wd, ps, k, ArL, crL, hre, rfl, rL⟩
  rw [t21b] at hre
  injection hre with hre
  simp only [Prod.mk.injEq] at hre
  obtain ⟨rfl, rfl, rfl⟩ := hre
  have hbW := below_tail hba hbV
  clear cF cF2 hL hba hbV y0 y1 y2 y3 y5 z0 z1 z2 z3 z5
  have hxA_ := hxA.below hbW
  have hxB_ := hxB.below hbW
  have hgA_ := hgA2.below hbW
  have hgB_ := hgB2.below hbW
  have hBx_ := below_tail hBx hbW
  have rW_ := rW.below hbW
  clear hxA hxB hgA2 hgB2 hBx rW
  have hxA := hxA_
  have hxB := hxB_
  have hgA2 := hgA_
  have hgB2 := hgB_
  have hBx := hBx_
  have rW := rW_
  clear hxA_ hxB_ hgA_ hgB_ hBx_ rW_
  have ⟨y5, y0, y1, y2, y3⟩ := hxA
  have ⟨z5, z0, z1, z2, z3⟩ := hxB
  clear hbW
  go_wp2_with fail
  have cF := tr_Of hB gb21 ArL 4 crL [1, 1, 2, 0] W6 hgB2 names21b rL (by decide) HlB.out.1 HlB.out.2.1 HlB.out.2.2
  rw [show gb21.start = 0 from rfl] at cF
  have cF2 := cF.mono fun e w' hh => And.intro hh.1 (hh.2.resolve_left fun hc => absurd hc.1 (by rw [t21c]; exact fun h => by cases h))
  (with_reducible refine cF2.mono ?_)
  rintro e W7 ⟨hbW, tt, ArT, crT, hre, rfl, rT⟩
  rw [t21c] at hre
  injection hre with hre
  subst hre
  clear cF cF2 y0 y1 y2 y3 y5 z0 z1 z2 z3 z5
  have hxA_ := hxA.below hbW
  have hxB_ := hxB.below hbW
  have hgA_ := hgA2.below hbW
  have hgB_ := hgB2.below hbW
  have hBx_ := below_tail hBx hbW
  have rW_ := rW.below hbW
  have rL_ := rL.below hbW
  clear hxA hxB hgA2 hgB2 hBx rW rL
  have hxA := hxA_
  have hxB := hxB_
  have hgA2 := hgA_
  have hgB2 := hgB_
  have hBx := hBx_
  have rW := rW_
  have rL := rL_
  clear hxA_ hxB_ hgA_ hgB_ hBx_ rW_ rL_
  have ⟨y5, y0, y1, y2, y3⟩ := hxA
  have ⟨z5, z0, z1, z2, z3⟩ := hxB
  clear hbW
  go_wp2_with fail
  have cF := tr_Height hB gb21 ArT 4 crT [0, 1, 2, 1] W7 hgB2 names21b rT (by decide) HlB.out.1 HlB.out.2.1 HlB.out.2.2
  rw [show gb21.start = 0 from rfl] at cF
  have cF2 := cF.mono fun e w' hh => And.intro hh.1 (hh.2.resolve_left fun hc => absurd hc.1 (by rw [t21b]; exact fun h => by cases h))
  (with_reducible refine cF2.mono ?_)
  rintro e W8 ⟨hbW, wd, ps, k, hre, rfl⟩
  rw [t21b] at hre
  injection hre with hre
  simp only [Prod.mk.injEq] at hre
  obtain ⟨rfl, rfl, rfl⟩ := hre
  clear cF cF2 y0 y1 y2 y3 y5 z0 z1 z2 z3 z5
  have hxA_ := hxA.below hbW
  have hxB_ := hxB.below hbW
  have hgA_ := hgA2.below hbW
  have hgB_ := hgB2.below hbW
  have hBx_ := below_tail hBx hbW
  have rW_ := rW.below hbW
  have rL_ := rL.below hbW
  have rT_ := rT.below hbW
  clear hxA hxB hgA2 hgB2 hBx rW rL rT
  have hxA := hxA_
  have hxB := hxB_
  have hgA2 := hgA_
  have hgB2 := hgB_
  have hBx := hBx_
  have rW := rW_
  have rL := rL_
  have rT := rT_
  clear hxA_ hxB_ hgA_ hgB_ hBx_ rW_ rL_ rT_
  have ⟨y5, y0, y1, y2, y3⟩ := hxA
  have ⟨z5, z0, z1, z2, z3⟩ := hxB
  clear hbW
  go_wp2_with fail
  have hba := alloc_below W8 (.cells #[.int .i64 0] 3)
  have hL : Ints .i64 (W8.alloc (.cells #[.int .i64 0] 3)) (some ⟨W8.heap.size, 0, none⟩) 1 1 [0] := lit_sl W8 3 (ints .i64 [0]) 1 _ rfl rfl (by decide)
  have cF := tr_Word hA ga21 _ 1 1 [0] _ (hgA2.below hba) names21a hL (by decide) HlA.out.1 HlA.out.2.1 HlA.out.2.2
  rw [show ga21.start = 0 from rfl] at cF
  have cF2 := cF.mono fun e w' hh => And.intro hh.1 (hh.2.resolve_right fun hc => by
    obtain ⟨a, b, c, d, e, h, _⟩ := hc
    rw [t21d] at h
    cases h).2
  (with_reducible refine cF2.mono ?_)
  rintro e W9 ⟨hbV, rfl⟩
  have hbW := below_tail hba hbV
  clear cF cF2 hL hba hbV y0 y1 y2 y3 y5 z0 z1 z2 z3 z5
  have hxA_ := hxA.below hbW
  have hxB_ := hxB.below hbW
  have hgA_ := hgA2.below hbW
  have hgB_ := hgB2.below hbW
  have hBx_ := below_tail hBx hbW
  have rW_ := rW.below hbW
  have rL_ := rL.below hbW
  have rT_ := rT.below hbW
  clear hxA hxB hgA2 hgB2 hBx rW rL rT
  have hxA := hxA_
  have hxB := hxB_
  have hgA2 := hgA_
  have hgB2 := hgB_
  have hBx := hBx_
  have rW := rW_
  have rL := rL_
  have rT := rT_
  clear hxA_ hxB_ hgA_ hgB_ hBx_ rW_ rL_ rT_
  have ⟨y5, y0, y1, y2, y3⟩ := hxA
  have ⟨z5, z0, z1, z2, z3⟩ := hxB
  clear hbW
  go_wp2_with fail
  have hba := alloc_below W9 (.cells #[.int .i64 1, .int .i64 1] 3)
  have hL : Ints .i64 (W9.alloc (.cells #[.int .i64 1, .int .i64 1] 3)) (some ⟨W9.heap.size, 0, none⟩) 2 2 [1, 1] := lit_sl W9 3 (ints .i64 [1, 1]) 2 _ rfl rfl (by decide)
  have cF := tr_Of hA ga21 _ 2 2 [1, 1] _ (hgA2.below hba) names21a hL (by decide) HlA.out.1 HlA.out.2.1 HlA.out.2.2
  rw [show ga21.start = 0 from rfl] at cF
  have cF2 := cF.mono fun e w' hh => And.intro hh.1 (hh.2.resolve_right fun hc => by
    obtain ⟨a, b, c, h, _⟩ := hc
    rw [t21e] at h
    cases h).2
  rw [t21h] at cF2
  (with_reducible refine cF2.mono ?_)
  rintro e W10 ⟨hbV, rfl⟩
  have hbW := below_tail hba hbV
  clear cF cF2 hL hba hbV y0 y1 y2 y3 y5 z0 z1 z2 z3 z5
  have hxA_ := hxA.below hbW
  have hxB_ := hxB.below hbW
  have hgA_ := hgA2.below hbW
  have hgB_ := hgB2.below hbW
  have hBx_ := below_tail hBx hbW
  have rW_ := rW.below hbW
  have rL_ := rL.below hbW
  have rT_ := rT.below hbW
  clear hxA hxB hgA2 hgB2 hBx rW rL rT
  have hxA := hxA_
  have hxB := hxB_
  have hgA2 := hgA_
  have hgB2 := hgB_
  have hBx := hBx_
  have rW := rW_
  have rL := rL_
  have rT := rT_
  clear hxA_ hxB_ hgA_ hgB_ hBx_ rW_ rL_ rT_
  have ⟨y5, y0, y1, y2, y3⟩ := hxA
  have ⟨z5, z0, z1, z2, z3⟩ := hxB
  clear hbW
  go_wp2_with fail
  have hba := alloc_below W10 (.cells #[.int .i64 0, .int .i64 0] 3)
  have hL : Ints .i64 (W10.alloc (.cells #[.int .i64 0, .int .i64 0] 3)) (some ⟨W10.heap.size, 0, none⟩) 2 2 [0, 0] := lit_sl W10 3 (ints .i64 [0, 0]) 2 _ rfl rfl (by decide)
  have cF := ref_ints ArW 2 crW [0, 0] _ 2 2 [0, 0] _ (rW.below hba) hL
  rw [show (([0, 0] : List Int) == [0, 0]) = true from rfl] at cF
  (with_reducible refine cF.mono ?_)
  rintro e W11 ⟨rfl, hsm⟩
  have hbW := below_tail hba (hsm.below _)
  clear cF hL hba hsm y0 y1 y2 y3 y5 z0 z1 z2 z3 z5
  have hxA_ := hxA.below hbW
  have hxB_ := hxB.below hbW
  have hgA_ := hgA2.below hbW
  have hgB_ := hgB2.below hbW
  have hBx_ := below_tail hBx hbW
  have rW_ := rW.below hbW
  have rL_ := rL.below hbW
  have rT_ := rT.below hbW
  clear hxA hxB hgA2 hgB2 hBx rW rL rT
  have hxA := hxA_
  have hxB := hxB_
  have hgA2 := hgA_
  have hgB2 := hgB_
  have hBx := hBx_
  have rW := rW_
  have rL := rL_
  have rT := rT_
  clear hxA_ hxB_ hgA_ hgB_ hBx_ rW_ rL_ rT_
  have ⟨y5, y0, y1, y2, y3⟩ := hxA
  have ⟨z5, z0, z1, z2, z3⟩ := hxB
  clear hbW
  go_wp2_with fail
  have hba := alloc_below W11 (.cells #[.int .i64 1, .int .i64 1, .int .i64 2, .int .i64 0] 3)
  have hL : Ints .i64 (W11.alloc (.cells #[.int .i64 1, .int .i64 1, .int .i64 2, .int .i64 0] 3)) (some ⟨W11.heap.size, 0, none⟩) 4 4 [1, 1, 2, 0] := lit_sl W11 3 (ints .i64 [1, 1, 2, 0]) 4 _ rfl rfl (by decide)
  have cF := ref_ints ArL 4 crL [1, 1, 2, 0] _ 4 4 [1, 1, 2, 0] _ (rL.below hba) hL
  rw [show (([1, 1, 2, 0] : List Int) == [1, 1, 2, 0]) = true from rfl] at cF
  (with_reducible refine cF.mono ?_)
  rintro e W12 ⟨rfl, hsm⟩
  have hbW := below_tail hba (hsm.below _)
  clear cF hL hba hsm y0 y1 y2 y3 y5 z0 z1 z2 z3 z5
  have hxA_ := hxA.below hbW
  have hxB_ := hxB.below hbW
  have hgA_ := hgA2.below hbW
  have hgB_ := hgB2.below hbW
  have hBx_ := below_tail hBx hbW
  have rW_ := rW.below hbW
  have rL_ := rL.below hbW
  have rT_ := rT.below hbW
  clear hxA hxB hgA2 hgB2 hBx rW rL rT
  have hxA := hxA_
  have hxB := hxB_
  have hgA2 := hgA_
  have hgB2 := hgB_
  have hBx := hBx_
  have rW := rW_
  have rL := rL_
  have rT := rT_
  clear hxA_ hxB_ hgA_ hgB_ hBx_ rW_ rL_ rT_
  have ⟨y5, y0, y1, y2, y3⟩ := hxA
  have ⟨z5, z0, z1, z2, z3⟩ := hxB
  clear hbW
  go_wp2_with fail
  have hba := alloc_below W12 (.cells #[.int .i64 0, .int .i64 1, .int .i64 2, .int .i64 1] 3)
  have hL : Ints .i64 (W12.alloc (.cells #[.int .i64 0, .int .i64 1, .int .i64 2, .int .i64 1] 3)) (some ⟨W12.heap.size, 0, none⟩) 4 4 [0, 1, 2, 1] := lit_sl W12 3 (ints .i64 [0, 1, 2, 1]) 4 _ rfl rfl (by decide)
  have cF := ref_ints ArT 4 crT [0, 1, 2, 1] _ 4 4 [0, 1, 2, 1] _ (rT.below hba) hL
  rw [show (([0, 1, 2, 1] : List Int) == [0, 1, 2, 1]) = true from rfl] at cF
  (with_reducible refine cF.mono ?_)
  rintro e W13 ⟨rfl, hsm⟩
  have hbW := below_tail hba (hsm.below _)
  clear cF hL hba hsm y0 y1 y2 y3 y5 z0 z1 z2 z3 z5
  have hxA_ := hxA.below hbW
  have hxB_ := hxB.below hbW
  have hgA_ := hgA2.below hbW
  have hgB_ := hgB2.below hbW
  have hBx_ := below_tail hBx hbW
  have rW_ := rW.below hbW
  have rL_ := rL.below hbW
  have rT_ := rT.below hbW
  clear hxA hxB hgA2 hgB2 hBx rW rL rT
  have hxA := hxA_
  have hxB := hxB_
  have hgA2 := hgA_
  have hgB2 := hgB_
  have hBx := hBx_
  have rW := rW_
  have rL := rL_
  have rT := rT_
  clear hxA_ hxB_ hgA_ hgB_ hBx_ rW_ rL_ rT_
  have ⟨y5, y0, y1, y2, y3⟩ := hxA
  have ⟨z5, z0, z1, z2, z3⟩ := hxB
  clear hbW
  go_wp2_with fail
  have hba := alloc_below W13 (.cells #[.int .i64 1] 3)
  have hL : Ints .i64 (W13.alloc (.cells #[.int .i64 1] 3)) (some ⟨W13.heap.size, 0, none⟩) 1 1 [1] := lit_sl W13 3 (ints .i64 [1]) 1 _ rfl rfl (by decide)
  have cF := tr_Right hA ga21 _ 1 1 [1] _ (hgA2.below hba) names21a hL (by decide) HlA.out.1 HlA.out.2.1 HlA.out.2.2
  rw [t21f, show ga21.start = 0 from rfl] at cF
  (with_reducible refine cF.mono ?_)
  rintro e W14 ⟨hbV, rfl⟩
  have hbW := below_tail hba hbV
  clear cF hL hba hbV y0 y1 y2 y3 y5 z0 z1 z2 z3 z5
  have hxA_ := hxA.below hbW
  have hxB_ := hxB.below hbW
  have hgA_ := hgA2.below hbW
  have hgB_ := hgB2.below hbW
  have hBx_ := below_tail hBx hbW
  have rW_ := rW.below hbW
  have rL_ := rL.below hbW
  have rT_ := rT.below hbW
  clear hxA hxB hgA2 hgB2 hBx rW rL rT
  have hxA := hxA_
  have hxB := hxB_
  have hgA2 := hgA_
  have hgB2 := hgB_
  have hBx := hBx_
  have rW := rW_
  have rL := rL_
  have rT := rT_
  clear hxA_ hxB_ hgA_ hgB_ hBx_ rW_ rL_ rT_
  have ⟨y5, y0, y1, y2, y3⟩ := hxA
  have ⟨z5, z0, z1, z2, z3⟩ := hxB
  clear hbW
  go_wp2_with fail
  have cF := tr_Right hA ga21 none 0 0 [] W14 hgA2 names21a (Sl.nil _ _ _ (by decide)) (by decide) HlA.out.1 HlA.out.2.1 HlA.out.2.2
  rw [t21g, show ga21.start = 0 from rfl] at cF
  (with_reducible refine cF.mono ?_)
  rintro e W15 ⟨hbV, rfl⟩
  go_wp2_with fail
  go_ret
  exact ⟨rfl, below_tail hBx hbV⟩
end Go.Proofs.YtfdbpafenhdkbaaGreat
