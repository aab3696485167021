/- lex: the example. -/
import Derived.Test.YtcmfflfgegadjaaLxL0
namespace Go.Proofs.Ytcmfflfgegadjaa
open Go.RowKit
set_option linter.unusedVariables false
set_option linter.unusedSimpArgs false

theorem fN_7 : fN 7 = 4619567317775286272 := by decide
theorem fN_23 : fN 23 = 4627167142146473984 := by decide
theorem fN_2' : fN 2 = 4611686018427387904 := by decide
theorem fN_3' : fN 3 = 4613937818241073152 := by decide
theorem PA_1 : PA text1 = .complex .f64 4607182418800017408 4627167142146473984 := by rw [← fN_1, ← fN_23]; rfl
theorem PA_3 : PA [97, 10, 32] = .complex .f64 4611686018427387904 4611686018427387904 := by rw [← fN_2']; rfl
theorem PA_4 : PA [97, 32] = .complex .f64 4607182418800017408 4613937818241073152 := by rw [← fN_1, ← fN_3']; rfl
theorem PA_5 : PA [101, 32, 58, 32, 101, 32] = .complex .f64 4607182418800017408 4619567317775286272 := by rw [← fN_1, ← fN_7]; rfl
theorem PA_6 : PA [37, 116, 111, 107, 101, 110, 32, 65, 10] = .complex .f64 4611686018427387904 4607182418800017408 := by rw [← fN_1, ← fN_2']; rfl
theorem str_1 : str [39, 43, 39] = ⟨#[39, 43, 39]⟩ := rfl
theorem str_2 : str [] = ⟨#[]⟩ := rfl
theorem str_3 : str [39, 92, 110, 39] = ⟨#[39, 92, 110, 39]⟩ := rfl
theorem eql_tok1 (w : World) : (binOp .eql 32 (.agg #[.int .i64 2, .string ⟨#[39, 43, 39]⟩, .complex .f64 4607182418800017408 4619567317775286272]) (.agg #[.int .i64 2, .string ⟨#[39, 43, 39]⟩, .complex .f64 4607182418800017408 4619567317775286272])).run Try.prog w = .ok (.bool true) w := by kernel_rfl
theorem eql_tok2 (w : World) : (binOp .eql 32 (.agg #[.int .i64 9, .string ⟨#[]⟩, .complex .f64 4611686018427387904 4607182418800017408]) (.agg #[.int .i64 9, .string ⟨#[]⟩, .complex .f64 4611686018427387904 4607182418800017408])).run Try.prog w = .ok (.bool true) w := by kernel_rfl
theorem eql_c1 (w : World) : (binOp .eql 26 (.complex .f64 4607182418800017408 4627167142146473984) (.complex .f64 4607182418800017408 4627167142146473984)).run Try.prog w = .ok (.bool true) w := by kernel_rfl
theorem eql_c2 (w : World) : (binOp .eql 26 (.complex .f64 4611686018427387904 4611686018427387904) (.complex .f64 4611686018427387904 4611686018427387904)).run Try.prog w = .ok (.bool true) w := by kernel_rfl
theorem eql_c3 (w : World) : (binOp .eql 26 (.complex .f64 4607182418800017408 4613937818241073152) (.complex .f64 4607182418800017408 4613937818241073152)).run Try.prog w = .ok (.bool true) w := by kernel_rfl
/-- the cells of a row of structs -/
theorem own_cellsS {w : World} {base e size n c : Nat} {A : Option Addr} {xs : List Value} (h : w.ownsRow base e size (.slice A n c) n xs) (h0 : 0 < n) :
    ∃ g, A = some ⟨g, 0, none⟩ ∧ base ≤ g ∧ g < w.heap.size ∧ n ≤ c ∧ ∀ j, j < n * size → w.cell? ⟨g, j, none⟩ = xs[j]? := by
  rcases h.2 with ⟨_, h1⟩ | ⟨g, cap, cur, hv, hb, hg, hnc, hcm, hcs, htake⟩
  · omega
  · injection hv with h1 h2 h3
    subst h1; subst h3
    refine ⟨g, rfl, hb, ?_, hnc, fun j hj => ?_⟩
    · rcases Nat.lt_or_ge g w.heap.size with hlt | hge
      · exact hlt
      · rw [Array.getElem?_eq_none hge] at hg; cases hg
    · rw [← htake, List.getElem?_take, if_pos hj]
      simp [World.cell?, hg]

set_option maxRecDepth 4000 in
set_option maxHeartbeats 2000000 in
theorem alive07 (W : World) (hM : MaxAt W) : Calls Try.prog 7 #[] W fun e w' => e = .returned (.bool true) ∧ Below W.heap.size W w' := by
  have kc := fun (w : World) (C : Array Value) (n c : Nat) => Lib.run_convert_bytes_const (P := Try.prog) w 24 5 C n c Try.underlying24 Try.underlying5
  go_enter Try.func7, Try.ntmps7
  have hB0 := Below.refl W.heap.size W
  go_wp2_with fail
  have hc := lx_tokens (some ⟨W.heap.size, 0, none⟩) 22 22 text1 _ (mark_sl W 5 (22, 23) (nums .u8 text1) 22 #[.int .u8 101, .int .u8 32, .int .u8 58, .int .u8 32, .int .u8 101, .int .u8 32, .int .u8 39, .int .u8 43, .int .u8 39, .int .u8 32, .int .u8 116, .int .u8 32, .int .u8 123, .int .u8 32, .int .u8 102, .int .u8 40, .int .u8 41, .int .u8 59, .int .u8 32, .int .u8 125, .int .u8 32, .int .u8 59] rfl rfl (by decide)) (fun h => by cases h) (by decide) (by decide) ((hM.below hB0).below ((Below.refl _ _).alloc (Nat.le_refl _) _))
  rw [lex1] at hc
  (with_reducible refine hc.mono ?_)
  rintro e w1 ⟨LA1, lc1, rfl, ho1, hb1⟩
  clear hc
  have hB1 := below_tail (hB0.alloc hB0.size (.cells #[.int .u8 101, .int .u8 32, .int .u8 58, .int .u8 32, .int .u8 101, .int .u8 32, .int .u8 39, .int .u8 43, .int .u8 39, .int .u8 32, .int .u8 116, .int .u8 32, .int .u8 123, .int .u8 32, .int .u8 102, .int .u8 40, .int .u8 41, .int .u8 59, .int .u8 32, .int .u8 125, .int .u8 32, .int .u8 59] 5 (22, 23))) hb1
  go_wp2_with fail
  have hc := lx_tokens (some ⟨w1.heap.size, 0, none⟩) 35 35 text2 _ (mark_sl w1 5 (35, 36) (nums .u8 text2) 35 #[.int .u8 37, .int .u8 116, .int .u8 111, .int .u8 107, .int .u8 101, .int .u8 110, .int .u8 32, .int .u8 65, .int .u8 10, .int .u8 37, .int .u8 37, .int .u8 10, .int .u8 97, .int .u8 58, .int .u8 32, .int .u8 65, .int .u8 32, .int .u8 37, .int .u8 112, .int .u8 114, .int .u8 101, .int .u8 99, .int .u8 32, .int .u8 39, .int .u8 92, .int .u8 110, .int .u8 39, .int .u8 59, .int .u8 10, .int .u8 37, .int .u8 37, .int .u8 10, .int .u8 63, .int .u8 32, .int .u8 123] rfl rfl (by decide)) (fun h => by cases h) (by decide) (by decide) ((hM.below hB1).below ((Below.refl _ _).alloc (Nat.le_refl _) _))
  rw [lex2] at hc
  (with_reducible refine hc.mono ?_)
  rintro e w2 ⟨LA2, lc2, rfl, ho2, hb2⟩
  clear hc
  have hB2 := below_tail (hB1.alloc hB1.size (.cells #[.int .u8 37, .int .u8 116, .int .u8 111, .int .u8 107, .int .u8 101, .int .u8 110, .int .u8 32, .int .u8 65, .int .u8 10, .int .u8 37, .int .u8 37, .int .u8 10, .int .u8 97, .int .u8 58, .int .u8 32, .int .u8 65, .int .u8 32, .int .u8 37, .int .u8 112, .int .u8 114, .int .u8 101, .int .u8 99, .int .u8 32, .int .u8 39, .int .u8 92, .int .u8 110, .int .u8 39, .int .u8 59, .int .u8 10, .int .u8 37, .int .u8 37, .int .u8 10, .int .u8 63, .int .u8 32, .int .u8 123] 5 (35, 36))) hb2
  go_wp2_with fail
  have hc := lx_tokens (some ⟨w2.heap.size, 0, none⟩) 6 6 text3 _ (mark_sl w2 5 (6, 7) (nums .u8 text3) 6 #[.int .u8 97, .int .u8 10, .int .u8 32, .int .u8 47, .int .u8 42, .int .u8 32] rfl rfl (by decide)) (fun h => by cases h) (by decide) (by decide) ((hM.below hB2).below ((Below.refl _ _).alloc (Nat.le_refl _) _))
  rw [lex3] at hc
  (with_reducible refine hc.mono ?_)
  rintro e w3 ⟨LA3, lc3, rfl, ho3, hb3⟩
  clear hc
  have hB3 := below_tail (hB2.alloc hB2.size (.cells #[.int .u8 97, .int .u8 10, .int .u8 32, .int .u8 47, .int .u8 42, .int .u8 32] 5 (6, 7))) hb3
  go_wp2_with fail
  have hc := lx_tokens (some ⟨w3.heap.size, 0, none⟩) 3 3 text4 _ (mark_sl w3 5 (3, 4) (nums .u8 text4) 3 #[.int .u8 97, .int .u8 32, .int .u8 63] rfl rfl (by decide)) (fun h => by cases h) (by decide) (by decide) ((hM.below hB3).below ((Below.refl _ _).alloc (Nat.le_refl _) _))
  rw [lex4] at hc
  (with_reducible refine hc.mono ?_)
  rintro e w4 ⟨LA4, lc4, rfl, ho4, hb4⟩
  clear hc
  have hB4 := below_tail (hB3.alloc hB3.size (.cells #[.int .u8 97, .int .u8 32, .int .u8 63] 5 (3, 4))) hb4
  have s2 := below_tail ((Below.refl w1.heap.size w1).alloc (Nat.le_refl _) (.cells #[.int .u8 37, .int .u8 116, .int .u8 111, .int .u8 107, .int .u8 101, .int .u8 110, .int .u8 32, .int .u8 65, .int .u8 10, .int .u8 37, .int .u8 37, .int .u8 10, .int .u8 97, .int .u8 58, .int .u8 32, .int .u8 65, .int .u8 32, .int .u8 37, .int .u8 112, .int .u8 114, .int .u8 101, .int .u8 99, .int .u8 32, .int .u8 39, .int .u8 92, .int .u8 110, .int .u8 39, .int .u8 59, .int .u8 10, .int .u8 37, .int .u8 37, .int .u8 10, .int .u8 63, .int .u8 32, .int .u8 123] 5 (35, 36))) hb2
  have s3 := below_tail ((Below.refl w2.heap.size w2).alloc (Nat.le_refl _) (.cells #[.int .u8 97, .int .u8 10, .int .u8 32, .int .u8 47, .int .u8 42, .int .u8 32] 5 (6, 7))) hb3
  have s4 := below_tail ((Below.refl w3.heap.size w3).alloc (Nat.le_refl _) (.cells #[.int .u8 97, .int .u8 32, .int .u8 63] 5 (3, 4))) hb4
  obtain ⟨g1, rfl, _, hg1, _, hc1⟩ := own_cellsS ho1 (by decide)
  obtain ⟨g2, rfl, _, hg2, _, hc2⟩ := own_cellsS ho2 (by decide)
  have f1 : ∀ j, j < 18 → w4.cell? ⟨g1, j, none⟩ = w1.cell? ⟨g1, j, none⟩ := fun j hj => (below_tail (below_tail s2 s3) s4).cell hg1
  have f2 : ∀ j, j < 30 → w4.cell? ⟨g2, j, none⟩ = w2.cell? ⟨g2, j, none⟩ := fun j hj => (below_tail s3 s4).cell hg2
  have k9 : w4.cell? ⟨g1, 9, none⟩ = some (.int .i64 2) := (f1 9 (by decide)).trans ((hc1 9 (by decide)).trans rfl)
  have k10 : w4.cell? ⟨g1, 10, none⟩ = some (.string ⟨#[39, 43, 39]⟩) := (f1 10 (by decide)).trans ((hc1 10 (by decide)).trans (congrArg (fun x => some (Value.string x)) str_1))
  have k11 : w4.cell? ⟨g1, 11, none⟩ = some (.complex .f64 4607182418800017408 4619567317775286272) := (f1 11 (by decide)).trans ((hc1 11 (by decide)).trans (congrArg some PA_5))
  have k15 : w4.cell? ⟨g1, 15, none⟩ = some (.int .i64 12) := (f1 15 (by decide)).trans ((hc1 15 (by decide)).trans rfl)
  have m0 : w4.cell? ⟨g2, 0, none⟩ = some (.int .i64 3) := (f2 0 (by decide)).trans ((hc2 0 (by decide)).trans rfl)
  have m6 : w4.cell? ⟨g2, 6, none⟩ = some (.int .i64 9) := (f2 6 (by decide)).trans ((hc2 6 (by decide)).trans rfl)
  have m7 : w4.cell? ⟨g2, 7, none⟩ = some (.string ⟨#[]⟩) := (f2 7 (by decide)).trans ((hc2 7 (by decide)).trans (congrArg (fun x => some (Value.string x)) str_2))
  have m8 : w4.cell? ⟨g2, 8, none⟩ = some (.complex .f64 4611686018427387904 4607182418800017408) := (f2 8 (by decide)).trans ((hc2 8 (by decide)).trans (congrArg some PA_6))
  have m22 : w4.cell? ⟨g2, 22, none⟩ = some (.string ⟨#[39, 92, 110, 39]⟩) := (f2 22 (by decide)).trans ((hc2 22 (by decide)).trans (congrArg (fun x => some (Value.string x)) str_3))
  have n1 := fun w => lx_name (str [97, 46, 98]) w
  have hfin : Below W.heap.size W w4 := hB4
  clear hM ho1 ho2 ho3 ho4 f1 f2 hc1 hc2 s2 s3 s4 hB0 hB1 hB2 hB3 hB4 hb1 hb2 hb3 hb4
  rw [PA_1, PA_3, PA_4]
  have Hfin := Lib.hid hfin
  clear hfin n1
  have q1 := eql_tok1
  have q2 := eql_tok2
  have q3 := eql_c1
  have q4 := eql_c2
  have q5 := eql_c3
  have c1 := fun w => lx_name ⟨#[97, 46, 98]⟩ w
  have c2 := fun w => lx_name ⟨#[49, 97]⟩ w
  have c3 := fun w => lx_Literal ⟨#[39, 39, 39]⟩ w (by decide)
  have c4 := fun w => lx_Literal ⟨#[39, 97, 39]⟩ w (by decide)
  rw [show nameB (bytesOf ⟨#[97, 46, 98]⟩) = true from by decide +kernel] at c1
  rw [show nameB (bytesOf ⟨#[49, 97]⟩) = false from by decide +kernel] at c2
  rw [show litB (bytesOf ⟨#[39, 39, 39]⟩) = false from by decide +kernel] at c3
  rw [show litB (bytesOf ⟨#[39, 97, 39]⟩) = true from by decide +kernel] at c4
  have C1 := Lib.hid c1
  have C2 := Lib.hid c2
  have C3 := Lib.hid c3
  have C4 := Lib.hid c4
  clear c1 c2 c3 c4
  go_wp2_with fail
  (with_reducible refine (C1.out _).mono ?_)
  rintro e w5 ⟨rfl, rfl⟩
  go_wp2_with fail
  (with_reducible refine (C2.out _).mono ?_)
  rintro e w5 ⟨rfl, rfl⟩
  go_wp2_with fail
  (with_reducible refine (C3.out _).mono ?_)
  rintro e w5 ⟨rfl, hb5⟩
  go_wp2_with fail
  (with_reducible refine (C4.out _).mono ?_)
  rintro e w6 ⟨rfl, hb6⟩
  go_wp2_with fail
  go_ret
  exact ⟨rfl, below_tail (below_tail Hfin.out hb5) hb6⟩
end Go.Proofs.Ytcmfflfgegadjaa
