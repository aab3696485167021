/- yacc: the fixed fact: the document's example; what can't stand there; what ends too early. -/
import Derived.Test.YtdeiipbnaknedaaYQ25
import Derived.Test.YtdeiipbnaknedaaYQ26
import Derived.Lib.SlBytesConst
namespace Go.Proofs.Ytdeiipbnaknedaa
open Go.RowKit
set_option linter.unusedVariables false
set_option linter.unusedSimpArgs false

def ytext1 : List Nat := [37, 116, 111, 107, 101, 110, 32, 78, 32, 37, 37, 32, 101, 32, 58, 32, 101, 32, 39, 43, 39, 32, 101, 32, 124, 32, 78, 32, 37, 112, 114, 101, 99, 32, 39, 43, 39, 32, 59]
def ytext2 : List Nat := [37, 116, 111, 107, 101, 110, 32, 37, 37]
def ytext3 : List Nat := [37, 37, 32, 101, 32, 58, 32]
def ytext4 : List Nat := [37, 37, 32, 101, 32, 58, 32, 59, 32, 37, 37, 32]
def yd1 : DclY := ⟨3, [([78], [37, 116, 111, 107, 101, 110, 32])]⟩
def yp1 : PrdY := ⟨([101], [37, 116, 111, 107, 101, 110, 32, 78, 32, 37, 37, 32]), [([101], [37, 116, 111, 107, 101, 110, 32, 78, 32, 37, 37, 32, 101, 32, 58, 32]), ([39, 43, 39], [37, 116, 111, 107, 101, 110, 32, 78, 32, 37, 37, 32, 101, 32, 58, 32, 101, 32]), ([101], [37, 116, 111, 107, 101, 110, 32, 78, 32, 37, 37, 32, 101, 32, 58, 32, 101, 32, 39, 43, 39, 32])], none⟩
def yp2 : PrdY := ⟨([101], [37, 116, 111, 107, 101, 110, 32, 78, 32, 37, 37, 32]), [([78], [37, 116, 111, 107, 101, 110, 32, 78, 32, 37, 37, 32, 101, 32, 58, 32, 101, 32, 39, 43, 39, 32, 101, 32, 124, 32])], some ([39, 43, 39], [37, 116, 111, 107, 101, 110, 32, 78, 32, 37, 37, 32, 101, 32, 58, 32, 101, 32, 39, 43, 39, 32, 101, 32, 124, 32, 78, 32, 37, 112, 114, 101, 99, 32])⟩
def yp3 : PrdY := ⟨([101], [37, 37, 32]), [], none⟩
theorem parse1 : parseY ytext1 = .ok ([yd1], [yp1, yp2]) [] := by kernel_rfl
theorem parse2 : parseY ytext2 = .bad [37, 116, 111, 107, 101, 110, 32] 3 := by kernel_rfl
theorem parse3 : parseY ytext3 = .bad [37, 37, 32, 101, 32, 58, 32] 4 := by kernel_rfl
theorem parse4 : parseY ytext4 = .ok ([], [yp3]) [] := by kernel_rfl
theorem fN_8 : fN 8 = 4620693217682128896 := by decide
theorem fN_13 : fN 13 = 4623507967449235456 := by decide
theorem PA_q : PA [37, 116, 111, 107, 101, 110, 32] = .complex .f64 4607182418800017408 4620693217682128896 := by rw [← fN_1, ← fN_8]; rfl
theorem PA_r : PA [37, 37, 32, 101, 32, 58, 32] = .complex .f64 4607182418800017408 4620693217682128896 := by rw [← fN_1, ← fN_8]; rfl
theorem PA_e : PA [37, 116, 111, 107, 101, 110, 32, 78, 32, 37, 37, 32] = .complex .f64 4607182418800017408 4623507967449235456 := by rw [← fN_1, ← fN_13]; rfl
theorem eqy_e (w : World) : (binOp .eql 40 (.agg #[.string ⟨#[101]⟩, .complex .f64 4607182418800017408 4623507967449235456]) (.agg #[.string ⟨#[101]⟩, .complex .f64 4607182418800017408 4623507967449235456])).run Try.prog w = .ok (.bool true) w := by kernel_rfl
theorem eqy_0 (w : World) : (binOp .eql 28 (.complex .f64 0 0) (.complex .f64 0 0)).run Try.prog w = .ok (.bool true) w := by kernel_rfl
theorem eqy_8 (w : World) : (binOp .eql 28 (.complex .f64 4607182418800017408 4620693217682128896) (.complex .f64 4607182418800017408 4620693217682128896)).run Try.prog w = .ok (.bool true) w := by kernel_rfl
/-- a reference of a text, reckoned -/
def goodB (bs : List Nat) (r : RefY) : Bool := decide (r.2 = bs.take r.2.length) && decide (r.2.length ≤ bs.length) && r.1.all (fun y => decide (y < 256)) && !r.1.isEmpty
theorem good_iff {bs : List Nat} {r : RefY} (h : goodB bs r = true) : GoodR bs r := by
  unfold goodB at h
  simp only [Bool.and_eq_true, decide_eq_true_eq, List.all_eq_true, Bool.not_eq_true'] at h
  obtain ⟨⟨⟨h1, h2⟩, h3⟩, h4⟩ := h
  exact ⟨h1, h2, h3, fun h0 => by rw [h0] at h4; cases h4⟩
theorem good_all {bs : List Nat} {l : List RefY} (h : l.all (goodB bs) = true) : ∀ r ∈ l, GoodR bs r := fun r hr => good_iff (List.all_eq_true.1 h r hr)
theorem map_oneY {α β : Type} {f : α → β} {l : List α} {a : β} (h : l.map f = [a]) : ∃ x, l = [x] ∧ f x = a := by
  match l, h with
  | [x], h => exact ⟨x, rfl, by simpa using h⟩
theorem map_twoY {α β : Type} {f : α → β} {l : List α} {a b : β} (h : l.map f = [a, b]) : ∃ x y, l = [x, y] ∧ f x = a ∧ f y = b := by
  match l, h with
  | [x, y], h => exact ⟨x, y, rfl, by simpa using h⟩
theorem flat_cell {α : Type} {m : Nat} {f : α → List Value} {w : World} {B n c b off : Nat} {xs : List α} (h : Flat m f w B (some ⟨b, off, none⟩) n c xs) (j i : Nat) {x : α} (hx : xs[j]? = some x) {v : Value} (hv : (f x)[i]? = some v) : w.cell? ⟨b, off + j * m + i, none⟩ = some v ∧ b < w.heap.size := by
  have hj : 0 < n := by rw [← h.1]; exact Nat.lt_of_le_of_lt (Nat.zero_le _) (List.getElem?_eq_some_iff.1 hx).1
  obtain ⟨b', off', e, _, hlt, hc⟩ := h.2.2.2 hj
  injection e with e
  injection e with e1 e2
  subst e1 e2
  exact ⟨hc j x hx i v hv, hlt⟩
theorem flat_some {α : Type} {m : Nat} {f : α → List Value} {w : World} {B n c : Nat} {A : Option Addr} {xs : List α} (h : Flat m f w B A n c xs) (hn : 0 < n) : ∃ b off, A = some ⟨b, off, none⟩ := by
  obtain ⟨b, off, e, _⟩ := h.2.2.2 hn
  exact ⟨b, off, e⟩

set_option maxRecDepth 20000 in
set_option maxHeartbeats 4000000 in
theorem alive08 (W : World) (hM : MaxAt W) : Calls Try.prog 4 #[] W fun e w' => e = .returned (.bool true) ∧ Below W.heap.size W w' := by
  have kc := fun (w : World) (C : Array Value) (n c : Nat) => Lib.run_convert_bytes_const (P := Try.prog) w 22 5 C n c Try.underlying22 Try.underlying5
  go_enter Try.func4, Try.ntmps4
  have hB0 := Below.refl W.heap.size W
  go_wp2_with fail
  have hc := yc_Parse (some ⟨W.heap.size, 0, none⟩) 39 39 ytext1 _ (mark_sl W 5 (39, 40) (nums .u8 ytext1) 39 #[.int .u8 37, .int .u8 116, .int .u8 111, .int .u8 107, .int .u8 101, .int .u8 110, .int .u8 32, .int .u8 78, .int .u8 32, .int .u8 37, .int .u8 37, .int .u8 32, .int .u8 101, .int .u8 32, .int .u8 58, .int .u8 32, .int .u8 101, .int .u8 32, .int .u8 39, .int .u8 43, .int .u8 39, .int .u8 32, .int .u8 101, .int .u8 32, .int .u8 124, .int .u8 32, .int .u8 78, .int .u8 32, .int .u8 37, .int .u8 112, .int .u8 114, .int .u8 101, .int .u8 99, .int .u8 32, .int .u8 39, .int .u8 43, .int .u8 39, .int .u8 32, .int .u8 59] rfl rfl (by decide)) (fun h => by cases h) (by decide) (by decide) ((hM.below hB0).below ((Below.refl _ _).alloc (Nat.le_refl _) _))
  rw [parse1] at hc
  unfold RetOf at hc
  simp only [] at hc
  (with_reducible refine hc.mono ?_)
  rintro e w1 ⟨A1, c1, A2, c2, zs1, zs2, rfl, m1, m2, F1, I1, F2, I2, L1, L2, hb1⟩
  clear hc
  simp only [List.length_cons, List.length_nil] at F1 F2
  have ha1 := alloc_below w1 (.cells #[.slice A1 1 c1, .slice A2 2 c2] 27)
  have hK := Blk.new w1 27 #[.slice A1 1 c1, .slice A2 2 c2]
  have hs1 := below_tail (below_tail ((Below.refl W.heap.size W).alloc (Nat.le_refl _) (.cells #[.int .u8 37, .int .u8 116, .int .u8 111, .int .u8 107, .int .u8 101, .int .u8 110, .int .u8 32, .int .u8 78, .int .u8 32, .int .u8 37, .int .u8 37, .int .u8 32, .int .u8 101, .int .u8 32, .int .u8 58, .int .u8 32, .int .u8 101, .int .u8 32, .int .u8 39, .int .u8 43, .int .u8 39, .int .u8 32, .int .u8 101, .int .u8 32, .int .u8 124, .int .u8 32, .int .u8 78, .int .u8 32, .int .u8 37, .int .u8 112, .int .u8 114, .int .u8 101, .int .u8 99, .int .u8 32, .int .u8 39, .int .u8 43, .int .u8 39, .int .u8 32, .int .u8 59] 5 (39, 40))) hb1) ha1
  have hB1 := hs1
  go_upto_region 2 with fail
  generalize w1.alloc (.cells #[.slice A1 1 c1, .slice A2 2 c2] 27) = v1 at *
  go_wp2_with fail
  have hc := yc_Parse (some ⟨v1.heap.size, 0, none⟩) 9 9 ytext2 _ (mark_sl v1 5 (9, 10) (nums .u8 ytext2) 9 #[.int .u8 37, .int .u8 116, .int .u8 111, .int .u8 107, .int .u8 101, .int .u8 110, .int .u8 32, .int .u8 37, .int .u8 37] rfl rfl (by decide)) (fun h => by cases h) (by decide) (by decide) ((hM.below hB1).below ((Below.refl _ _).alloc (Nat.le_refl _) _))
  rw [parse2] at hc
  unfold RetOf at hc
  simp only [] at hc
  rw [PA_q] at hc
  (with_reducible refine hc.mono ?_)
  rintro e w2 ⟨rfl, hb2⟩
  clear hc
  have ha2 := alloc_below w2 (.cells #[.slice none 0 0, .slice none 0 0] 27)
  have hs2 := below_tail (below_tail ((Below.refl v1.heap.size v1).alloc (Nat.le_refl _) (.cells #[.int .u8 37, .int .u8 116, .int .u8 111, .int .u8 107, .int .u8 101, .int .u8 110, .int .u8 32, .int .u8 37, .int .u8 37] 5 (9, 10))) hb2) ha2
  have hB2 := below_tail hB1 hs2
  go_upto_region 3 with fail
  generalize w2.alloc (.cells #[.slice none 0 0, .slice none 0 0] 27) = v2 at *
  go_wp2_with fail
  have hc := yc_Parse (some ⟨v2.heap.size, 0, none⟩) 7 7 ytext3 _ (mark_sl v2 5 (7, 8) (nums .u8 ytext3) 7 #[.int .u8 37, .int .u8 37, .int .u8 32, .int .u8 101, .int .u8 32, .int .u8 58, .int .u8 32] rfl rfl (by decide)) (fun h => by cases h) (by decide) (by decide) ((hM.below hB2).below ((Below.refl _ _).alloc (Nat.le_refl _) _))
  rw [parse3] at hc
  unfold RetOf at hc
  simp only [] at hc
  rw [PA_r] at hc
  (with_reducible refine hc.mono ?_)
  rintro e w3 ⟨rfl, hb3⟩
  clear hc
  have ha3 := alloc_below w3 (.cells #[.slice none 0 0, .slice none 0 0] 27)
  have hs3 := below_tail (below_tail ((Below.refl v2.heap.size v2).alloc (Nat.le_refl _) (.cells #[.int .u8 37, .int .u8 37, .int .u8 32, .int .u8 101, .int .u8 32, .int .u8 58, .int .u8 32] 5 (7, 8))) hb3) ha3
  have hB3 := below_tail hB2 hs3
  go_upto_region 4 with fail
  generalize w3.alloc (.cells #[.slice none 0 0, .slice none 0 0] 27) = v3 at *
  go_wp2_with fail
  have hc := yc_Parse (some ⟨v3.heap.size, 0, none⟩) 12 12 ytext4 _ (mark_sl v3 5 (12, 13) (nums .u8 ytext4) 12 #[.int .u8 37, .int .u8 37, .int .u8 32, .int .u8 101, .int .u8 32, .int .u8 58, .int .u8 32, .int .u8 59, .int .u8 32, .int .u8 37, .int .u8 37, .int .u8 32] rfl rfl (by decide)) (fun h => by cases h) (by decide) (by decide) ((hM.below hB3).below ((Below.refl _ _).alloc (Nat.le_refl _) _))
  rw [parse4] at hc
  unfold RetOf at hc
  simp only [] at hc
  (with_reducible refine hc.mono ?_)
  rintro e w4 ⟨A3, c3, A4, c4, zs3, zs4, rfl, m3, m4, F3, I3, F4, I4, L3, L4, hb4⟩
  clear hc
  have ha4 := alloc_below w4 (.cells #[.slice A3 0 c3, .slice A4 1 c4] 27)
  have hs4 := below_tail (below_tail ((Below.refl v3.heap.size v3).alloc (Nat.le_refl _) (.cells #[.int .u8 37, .int .u8 37, .int .u8 32, .int .u8 101, .int .u8 32, .int .u8 58, .int .u8 32, .int .u8 59, .int .u8 32, .int .u8 37, .int .u8 37, .int .u8 32] 5 (12, 13))) hb4) ha4
  have hB4 := below_tail hB3 hs4
  go_upto_region 5 with fail
  generalize w4.alloc (.cells #[.slice A3 0 c3, .slice A4 1 c4] 27) = v4 at *
  obtain ⟨z1, rfl, hz1⟩ := map_oneY m1
  obtain ⟨z2, z3, rfl, hz2, hz3⟩ := map_twoY m2
  have h14 := below_tail ha1 (below_tail (below_tail hs2 hs3) hs4)
  have hK4 := hK.ext (below_tail (below_tail hs2 hs3) hs4)
  have F1' := F1.below h14
  have F2' := F2.below h14
  have I1' : InY DclY.names v4 (fun _ => True) [z1] := I1.keep h14.size fun k hk _ => ⟨h14.block k hk, trivial⟩
  have I2' : InY PrdY.right v4 (fun _ => True) [z2, z3] := I2.keep h14.size fun k hk _ => ⟨h14.block k hk, trivial⟩
  have CS := Lib.hid fun (w : World) (hw : Below v4.heap.size v4 w) => ys_Same (bs := ytext1) A1 1 c1 [z1] A2 2 c2 [z2, z3] w ((F1'.below hw).wide (Nat.le_refl _)) (I1'.keep hw.size fun k hk _ => ⟨hw.block k hk, trivial⟩) ((F2'.below hw).wide (Nat.le_refl _)) (I2'.keep hw.size fun k hk _ => ⟨hw.block k hk, trivial⟩)
    (fun z hz => by rw [List.mem_singleton.1 hz, hz1]; exact good_all (by decide +kernel))
    (fun z hz => by
      rcases List.mem_cons.1 hz with rfl | hz
      · rw [hz2]; exact ⟨good_iff (by decide +kernel), good_all (by decide +kernel)⟩
      · rw [List.mem_singleton.1 hz, hz3]; exact ⟨good_iff (by decide +kernel), good_all (by decide +kernel)⟩) (by decide)
  have k10 : v4.cell? ⟨w1.heap.size, 0, none⟩ = some (.slice A1 1 c1) := hK4.cell 0
  have k11 : v4.cell? ⟨w1.heap.size, 1, none⟩ = some (.slice A2 2 c2) := hK4.cell 1
  have kl := hK4.lt
  obtain ⟨b1, o1, rfl⟩ := flat_some F1' (by decide)
  obtain ⟨b2, o2, rfl⟩ := flat_some F2' (by decide)
  have hl2 : z2.val.right.length = 3 := by rw [hz2]; rfl
  have hl3 : z3.val.right.length = 1 := by rw [hz3]; rfl
  have d1 : dclCells z1 = [.int .i64 3, .slice z1.A 1 z1.c] := by unfold dclCells; rw [hz1]; rfl
  have d2 : prdCells z2 = [.string ⟨#[101]⟩, .complex .f64 4607182418800017408 4623507967449235456, .slice z2.A 3 z2.c, .string ⟨#[]⟩, .complex .f64 0 0] := by unfold prdCells; rw [hz2]; have hpe : PA yp1.left.2 = .complex .f64 4607182418800017408 4623507967449235456 := PA_e; rw [hpe]; rfl
  obtain ⟨u3, v3, huv⟩ := PA_form yp2.left.2
  obtain ⟨u5, v5, huv5⟩ := PA_form [37, 116, 111, 107, 101, 110, 32, 78, 32, 37, 37, 32, 101, 32, 58, 32, 101, 32, 39, 43, 39, 32, 101, 32, 124, 32, 78, 32, 37, 112, 114, 101, 99, 32]
  have d3 : prdCells z3 = [.string ⟨#[101]⟩, .complex .f64 u3 v3, .slice z3.A 1 z3.c, .string ⟨#[39, 43, 39]⟩, .complex .f64 u5 v5] := by unfold prdCells; rw [hz3]; rw [← huv, ← huv5]; rfl
  have k0 : v4.cell? ⟨b1, o1, none⟩ = some (.int .i64 3) := (flat_cell F1' 0 0 rfl (by rw [d1]; rfl)).1
  have p0 : v4.cell? ⟨b2, o2, none⟩ = some (.string ⟨#[101]⟩) := (flat_cell F2' 0 0 rfl (by rw [d2]; rfl)).1
  have p1 : v4.cell? ⟨b2, o2 + 1, none⟩ = some (.complex .f64 4607182418800017408 4623507967449235456) := (flat_cell F2' 0 1 rfl (by rw [d2]; rfl)).1
  have p2 : v4.cell? ⟨b2, o2 + 2, none⟩ = some (.slice z2.A 3 z2.c) := (flat_cell F2' 0 2 rfl (by rw [d2]; rfl)).1
  have p3 : v4.cell? ⟨b2, o2 + 1 * 5 + 3, none⟩ = some (.string ⟨#[39, 43, 39]⟩) := (flat_cell F2' 1 3 rfl (by rw [d3]; rfl)).1
  have lb1 : b1 < v4.heap.size := (flat_cell F1' 0 0 rfl (by rw [d1]; rfl)).2
  have lb2 : b2 < v4.heap.size := (flat_cell F2' 0 0 rfl (by rw [d2]; rfl)).2
  have q1 := eqy_e
  have q2 := eqy_0
  have q3 := eqy_8
  have Hfin := Lib.hid hB4
  clear hK hK4 ha1 ha2 ha3 ha4 F1 F2 F1' F2' I1 I2 I1' I2' F3 F4 I3 I4 L1 L2 L3 L4 hs1 hs2 hs3 hs4 hb1 hb2 hb3 hb4 hB0 hB1 hB2 hB3 hB4 h14 hz1 hz2 hz3 hl2 hl3 d1 d2 d3 huv huv5 m3 m4 hM
  go_wp2_with (go_at_call 9; (with_reducible refine (CS.out _ (Below.refl _ _)).mono ?_); rintro e w5 ⟨rfl, hb5⟩)
  go_ret
  exact ⟨rfl, below_tail Hfin.out hb5⟩
end Go.Proofs.Ytdeiipbnaknedaa
/- yacc, plainly: why there is no source; how long one may be; names and literals among tokens, one by one. -/
namespace Go.Proofs.Ytdeiipbnaknedaa
set_option linter.unusedVariables false
set_option linter.unusedSimpArgs false

/-- a reason that is one -/
def ResY.why {α : Type} : ResY α → Prop
  | .ok _ _ => True
  | .bad _ e => e ≠ 0
theorem ResY.why_bind {α β : Type} {x : ResY α} {f : α → List Tok → ResY β} (h : x.why) (hf : ∀ a r, (f a r).why) : (x.bind f).why := by
  cases x with
  | ok a r => exact hf a r
  | bad p e => exact h
theorem takeY_why (e ks : List Nat) (l : List Tok) : (takeY e ks l).why := by
  cases l with
  | nil => exact (by decide : (4 : Nat) ≠ 0)
  | cons t l =>
    simp only [takeY]
    split
    · trivial
    · exact (by decide : (3 : Nat) ≠ 0)
theorem declY_why (e : List Nat) (l : List Tok) : (declY e l).why := by
  cases l with
  | nil => exact (by decide : (4 : Nat) ≠ 0)
  | cons t l =>
    simp only [declY]
    split
    · split
      · exact ResY.why_bind (takeY_why _ _ _) fun _ _ => trivial
      · exact ResY.why_bind (takeY_why _ _ _) fun _ _ => trivial
    · exact (by decide : (3 : Nat) ≠ 0)
theorem precY_why (e : List Nat) (l : List Tok) : (precY e l).why := by
  unfold precY
  split
  · exact ResY.why_bind (takeY_why _ _ _) fun _ _ => ResY.why_bind (takeY_why _ _ _) fun _ _ => trivial
  · trivial
theorem altsY_why (e : List Nat) (left : RefY) : ∀ (q : Nat) (l : List Tok) (acc : List PrdY), (altsY e left q l acc).why
  | 0, _, _ => (by decide : (99 : Nat) ≠ 0)
  | q + 1, l, acc => by
    unfold altsY
    refine ResY.why_bind (precY_why _ _) fun pr r => ?_
    split
    · exact ResY.why_bind (takeY_why _ _ _) fun _ r' => altsY_why e left q r' _
    · exact ResY.why_bind (takeY_why _ _ _) fun _ _ => trivial
theorem groupY_why (e : List Nat) (l : List Tok) : (groupY e l).why :=
  ResY.why_bind (takeY_why _ _ _) fun _ _ => ResY.why_bind (takeY_why _ _ _) fun _ _ => altsY_why _ _ _ _ _
theorem declsY_why (e : List Nat) : ∀ (q : Nat) (l : List Tok) (acc : List DclY), (declsY e q l acc).why
  | 0, _, _ => (by decide : (99 : Nat) ≠ 0)
  | q + 1, l, acc => by
    unfold declsY
    split
    · trivial
    · exact ResY.why_bind (declY_why _ _) fun _ r => declsY_why e q r _
theorem groupsY_why (e : List Nat) : ∀ (q : Nat) (l : List Tok) (acc : List PrdY), (groupsY e q l acc).why
  | 0, _, _ => (by decide : (99 : Nat) ≠ 0)
  | q + 1, l, acc => by
    unfold groupsY
    split
    · trivial
    · exact ResY.why_bind (groupY_why _ _) fun _ r => groupsY_why e q r _
theorem endY_why (e : List Nat) (l : List Tok) : (endY e l).why := by
  unfold endY
  refine ResY.why_bind ?_ fun _ r => ?_
  · split
    · exact ResY.why_bind (takeY_why _ _ _) fun _ _ => trivial
    · trivial
  · cases r with
    | nil => trivial
    | cons t r => exact (by decide : (3 : Nat) ≠ 0)
theorem srcY_why (e : List Nat) (l : List Tok) : (srcY e l).why :=
  ResY.why_bind (declsY_why _ _ _ _) fun _ _ => ResY.why_bind (takeY_why _ _ _) fun _ _ => ResY.why_bind (groupY_why _ _) fun _ _ => ResY.why_bind (groupsY_why _ _ _ _) fun _ _ => ResY.why_bind (endY_why _ _) fun _ _ => trivial

/-! ### lengths -/
theorem takeY_lenC {e ks : List Nat} {l r : List Tok} {v : RefY} (h : takeY e ks l = .ok v r) : r.length + 1 = l.length := by
  obtain ⟨t, rfl, _⟩ := takeY_ok h
  rfl
theorem altsY_lenC {e : List Nat} {left : RefY} : ∀ {q : Nat} {l r : List Tok} {acc ps : List PrdY}, altsY e left q l acc = .ok ps r → ps.length + r.length ≤ acc.length + l.length
  | 0, l, r, acc, ps, h => by cases h
  | q + 1, l, r, acc, ps, h => by
    unfold altsY at h
    obtain ⟨pr, r1, h1, h2⟩ := ResY.bind_ok h
    have ht := ((precY_ok h1).2.trans (refsY_tail l)).len
    split at h2
    · obtain ⟨_, r2, h3, h4⟩ := ResY.bind_ok h2
      have h5 := altsY_lenC h4
      have h6 := takeY_lenC h3
      rw [List.length_append] at h5
      simp only [List.length_cons, List.length_nil] at h5
      omega
    · obtain ⟨_, r2, h3, h4⟩ := ResY.bind_ok h2
      injection h4 with h4 h5
      subst h4 h5
      have h6 := takeY_lenC h3
      rw [List.length_append]
      simp only [List.length_cons, List.length_nil]
      omega
theorem groupY_lenC {e : List Nat} {l r : List Tok} {ps : List PrdY} (h : groupY e l = .ok ps r) : ps.length + r.length ≤ l.length := by
  unfold groupY at h
  obtain ⟨left, r1, h1, h2⟩ := ResY.bind_ok h
  obtain ⟨_, r2, h3, h4⟩ := ResY.bind_ok h2
  have h5 := altsY_lenC h4
  have h6 := takeY_lenC h1
  have h7 := takeY_lenC h3
  simp only [List.length_nil] at h5
  omega
theorem declsY_lenC {e : List Nat} : ∀ {q : Nat} {l r : List Tok} {acc ds : List DclY}, declsY e q l acc = .ok ds r → ds.length + r.length ≤ acc.length + l.length
  | 0, l, r, acc, ds, h => by cases h
  | q + 1, l, r, acc, ds, h => by
    unfold declsY at h
    split at h
    · injection h with h1 h2
      subst h1 h2
      exact Nat.le_refl _
    · obtain ⟨d, r1, h1, h2⟩ := ResY.bind_ok h
      have h3 := (declY_ok h1).2.2
      have h4 := declsY_lenC h2
      rw [List.length_append] at h4
      simp only [List.length_cons, List.length_nil] at h4
      omega
theorem groupsY_lenC {e : List Nat} : ∀ {q : Nat} {l r : List Tok} {acc ps : List PrdY}, groupsY e q l acc = .ok ps r → ps.length + r.length ≤ acc.length + l.length
  | 0, l, r, acc, ps, h => by cases h
  | q + 1, l, r, acc, ps, h => by
    unfold groupsY at h
    split at h
    · injection h with h1 h2
      subst h1 h2
      exact Nat.le_refl _
    · obtain ⟨g, r1, h1, h2⟩ := ResY.bind_ok h
      have h3 := groupY_lenC h1
      have h4 := groupsY_lenC h2
      rw [List.length_append] at h4
      omega
theorem srcY_lenC {e : List Nat} {l r : List Tok} {ds : List DclY} {ps : List PrdY} (h : srcY e l = .ok (ds, ps) r) : ds.length ≤ l.length ∧ ps.length ≤ l.length := by
  unfold srcY at h
  obtain ⟨ds', r1, h1, h⟩ := ResY.bind_ok h
  obtain ⟨_, r2, h2, h⟩ := ResY.bind_ok h
  obtain ⟨g, r3, h3, h⟩ := ResY.bind_ok h
  obtain ⟨ps', r4, h4, h⟩ := ResY.bind_ok h
  obtain ⟨_, r5, h5, h⟩ := ResY.bind_ok h
  injection h with h6 h7
  injection h6 with h6 h8
  subst h6 h8
  have a1 := declsY_lenC h1
  have a2 := takeY_lenC h2
  have a3 := groupY_lenC h3
  have a4 := groupsY_lenC h4
  simp only [List.length_nil] at a1
  omega

/-! ### the symbols among tokens -/
theorem symsY_app (a b : List Tok) : symsY (a ++ b) = symsY a ++ symsY b := by
  unfold symsY
  rw [List.filter_append, List.map_append]
theorem symsY_le (l : List Tok) : (symsY l).length ≤ l.length := by
  unfold symsY
  rw [List.length_map]
  exact List.length_filter_le _ _
theorem symsY_step {ts : List Tok} {i : Nat} {t : Tok} (h : ts[i]? = some t) : symsY (ts.take (i + 1)) = symsY (ts.take i) ++ (if isSymY t.1 then [t.2] else []) := by
  rw [List.take_add_one, h, symsY_app]
  show _ ++ symsY (t :: []) = _
  rw [symsY_cons]
  rw [show symsY ([] : List Tok) = [] from rfl, List.append_nil]
theorem symsY_at {ts : List Tok} {i : Nat} {t : Tok} (h : ts[i]? = some t) (hs : isSymY t.1 = true) : (symsY ts)[(symsY (ts.take i)).length]? = some t.2 ∧ (symsY (ts.take i)).length < (symsY ts).length := by
  have e : symsY ts = symsY (ts.take (i + 1)) ++ symsY (ts.drop (i + 1)) := by rw [← symsY_app, List.take_append_drop]
  rw [symsY_step h, if_pos hs] at e
  rw [e]
  constructor
  · rw [List.append_assoc, List.getElem?_append_right (Nat.le_refl _), Nat.sub_self]
    rfl
  · simp only [List.length_append, List.length_cons, List.length_nil]
    omega
theorem symsY_prev {ts : List Tok} (hr : RiseY ts) {i : Nat} {t : Tok} (h : ts[i]? = some t) {j : Nat} (hj : j + 1 = (symsY (ts.take i)).length) : ∃ r, (symsY ts)[j]? = some r ∧ r.2.length < t.2.2.length := by
  have e : symsY ts = symsY (ts.take i) ++ symsY (ts.drop i) := by rw [← symsY_app, List.take_append_drop]
  have hlt : j < (symsY (ts.take i)).length := by omega
  refine ⟨(symsY (ts.take i))[j]'hlt, by rw [e, List.getElem?_append_left hlt]; exact List.getElem?_eq_getElem hlt, ?_⟩
  have hm : (symsY (ts.take i))[j]'hlt ∈ symsY (ts.take i) := List.getElem_mem hlt
  generalize (symsY (ts.take i))[j]'hlt = r at *
  unfold symsY at hm
  obtain ⟨u, hu, rfl⟩ := List.mem_map.1 hm
  have hu := (List.mem_filter.1 hu).1
  obtain ⟨k, hk, rfl⟩ := List.getElem_of_mem hu
  have hki : k < i := by rw [List.length_take] at hk; omega
  have hi : i < ts.length := (List.getElem?_eq_some_iff.1 h).1
  have ht : ts[i] = t := (List.getElem?_eq_some_iff.1 h).2
  have := List.pairwise_iff_getElem.1 hr k i (by omega) hi hki
  rw [ht] at this
  rw [List.getElem_take]
  exact this
end Go.Proofs.Ytdeiipbnaknedaa
/- the reference's reading: one token: the mark between the parts. -/
namespace Go.Proofs.Ytdeiipbnaknedaa
open Go.RowKit
set_option linter.unusedVariables false
set_option linter.unusedSimpArgs false

set_option maxRecDepth 100000 in
set_option maxHeartbeats 2000000 in
theorem rf_one_cut (A : Option Addr) (n c i : Nat) (xs : List Nat) (w : World) (h : Nums .u8 w A n c xs) (hb : ∀ x ∈ xs, x < 256) (hn : n ≤ 100000) (hi : i < n) (h1 : letterB (xs.getD i 0) = false) (h2 : xs.getD i 0 ≠ 39) (h3 : hasP xs i [37, 37] = true) :
    Calls Try.prog 14 #[.slice A n c, .int .i64 (i : Int)] w fun e w' => e = .returned (.tuple #[TkV 9 [] (atP xs i), .int .i64 ((i + 2 : Nat) : Int), .int .i64 0]) ∧ Below w.heap.size w w' := by
  obtain rfl := h.len
  have hcap := h.cap
  obtain ⟨b, off, x, rfl, hbl, Hx, hc⟩ := h.get hi
  have hx : xs.getD i 0 = x := by rw [List.getD_eq_getElem?_getD, Hx.out]; rfl
  rw [hx] at h1 h2
  have H := Lib.hid h
  have CT := Lib.hid fun W (hW : Below w.heap.size w W) => ref_at (some ⟨b, off, none⟩) xs.length c xs (i : Int) W (h.below hW) hn
  have CH := Lib.hid fun W (hW : Below w.heap.size w W) => (rf_has7 (some ⟨b, off, none⟩) xs.length c i xs [37, 37] W (h.below hW) hb (by decide) hn (by omega) (by decide))
  rw [h3, show str [37, 37] = ⟨#[37, 37]⟩ from rfl] at CH
  have hx256 : x < 256 := hb x (List.mem_of_getElem? Hx.out)
  have CF := Lib.hid fun W => lx_first x W hx256
  rw [h1] at CF
  obtain ⟨ca, cb, hat⟩ : ∃ a b, atP xs (i : Int) = .complex .f64 a b := by
    unfold atP PV
    split
    · exact ⟨_, _, rfl⟩
    · exact ⟨_, _, rfl⟩
  rw [hat] at CT ⊢
  have d2 : ((x : Int) == 39) = false := by rw [beq_eq_false_iff_ne]; omega
  clear h hb h1 h2 h3 hx hat
  have hB1 := alloc_below w (.cells #[.int .i64 0, .string ⟨#[]⟩, .complex .f64 0 0] 38)
  have ksc : ∀ (w : World) (a : Addr) (k : FloatKind) (x y : Nat) (m : Mode), (store a (.complex k x y) m).run Try.prog w = stored Try.prog w a (.complex k x y) m := fun w a k x y m => run_store Try.prog w a _ m rfl
  go_enter Try.func14, Try.ntmps14
  go_wp2_with (first
    | (go_at_call 13; (with_reducible refine (CT.out _ hB1).mono ?_); rintro e w2 ⟨rfl, rfl⟩)
    | (go_at_call 33; (with_reducible refine (CF.out _).mono ?_); rintro e w3 ⟨rfl, rfl⟩)
    | (go_at_call 28; (with_reducible refine (CH.out _ (below_alloc hB1 _)).mono ?_); rintro e w4 ⟨rfl, rfl⟩))
  refine bodyPost_ret (results_cell2 (p := 4) (u := 5) (v := 6) (by kernel_rfl) _ _ w.heap.size 38 #[.int .i64 9, .string ⟨#[]⟩, .complex .f64 ca cb] (0, 0) _ rfl (Blk.ext (Blk.new w _ _) (alloc_below _ _)) Try.underlying38 rfl (by kernel_rfl)) rfl ?_
  exact ⟨rfl, below_alloc (alloc_below _ _) _⟩
end Go.Proofs.Ytdeiipbnaknedaa
