/- yacc: Of: what is deferred, and what a panic comes to. -/
import Derived.Tactics
import Derived.Tactics2
import Derived.Defers
import Derived.Recover
import Derived.Laws.Pointers
import Derived.Test.YtdeiipbnaknedaaYQ21
namespace Go.Proofs.Ytdeiipbnaknedaa
open Go.RowKit
set_option linter.unusedVariables false
set_option linter.unusedSimpArgs false

-- a panic is recovered, and the named results say where and why
set_option maxRecDepth 20000 in
set_option maxHeartbeats 4000000 in
theorem of_caught (g x y : Nat) (er : Int) (older : List PanicEntry) (w : World) (h4 : Blk w g 27 #[.slice none 0 0, .slice none 0 0]) (h5 : Blk w (g + 1) 28 #[.complex .f64 0 0]) (h6 : Blk w (g + 2) 29 #[.int .i64 0]) :
    CallsD Try.prog 26 #[.pointer (some ⟨g, 0, none⟩), .pointer (some ⟨g + 1, 0, none⟩), .pointer (some ⟨g + 2, 0, none⟩)] (.panicking ({ v := .iface 68 (.agg #[.complex .f64 x y, .int .i64 er]), recovered := false } :: older)) w fun e u' w' =>
      e = .returned (.tuple #[]) ∧ u' = .panicking ({ v := .iface 68 (.agg #[.complex .f64 x y, .int .i64 er]), recovered := true } :: older) ∧
      Blk w' g 27 #[.slice none 0 0, .slice none 0 0] ∧ Blk w' (g + 1) 28 #[.complex .f64 x y] ∧ Blk w' (g + 2) 29 #[.int .i64 er] ∧ Below g w w' := by
  have f0 := h4.frozen 0
  have f1 := h4.frozen 1
  have f2 := h5.frozen 0
  have f3 := h6.frozen 0
  have c0 : w.cell? ⟨g, 0, none⟩ = some (.slice none 0 0) := h4.cell 0
  have c1 : w.cell? ⟨g, 1, none⟩ = some (.slice none 0 0) := h4.cell 1
  have c2 : w.cell? ⟨g + 1, 0, none⟩ = some (.complex .f64 0 0) := h5.cell 0
  have c3 : w.cell? ⟨g + 2, 0, none⟩ = some (.int .i64 0) := h6.cell 0
  have l4 := h4.lt
  have l5 := h5.lt
  have l6 := h6.lt
  have ksc : ∀ (w : World) (a : Addr) (k : FloatKind) (x y : Nat) (m : Mode), (store a (.complex k x y) m).run Try.prog w = stored Try.prog w a (.complex k x y) m := fun w a k x y m => run_store Try.prog w a _ m rfl
  have hta : ∀ (v : Value) (xT : TypeId) (w : World), (Instr.typeAssert (.iface 68 v) xT 68 true).run Try.prog w = .ok (.tuple #[v, .bool true]) w   := fun v xT w => by
    simp [Instr.typeAssert, run_underlying Try.underlying68, go_sem, Result.andThen]
  refine callsD_of_wpS Try.func26 rfl fun cc cs hu => ?_
  apply wpS_seq
  apply wpS_region
  simp only [Try.ntmps26, List.size_toArray, List.length_cons, List.length_nil, Nat.reduceAdd, Nat.reduceSub, Array.replicate_succ, Array.replicate_zero, List.push_toArray, List.append_toArray, List.nil_append, List.cons_append]
  generalize hQ : Exit.thenS _ _ = Q0
  simp [wpOpsS, go_sem, recoverD, hu]
  subst hQ
  simp only [Exit.thenS]
  refine wpS_of_wp ?_
  go_wp2_with fail
  go_region_with (fail)
  all_goals
    have e4 := (((((h4.set 0 (.slice none 0 0)).set 1 (.slice none 0 0)).other (g + 1) 0 (.complex .f64 x y) (by omega)).other (g + 2) 0 (.int .i64 er) (by omega)).ext (alloc_below _ (.cells #[.complex .f64 x y, .int .i64 er] 68))).drew
    have e5 := (((((h5.other g 0 (.slice none 0 0) (by omega)).other g 1 (.slice none 0 0) (by omega)).set 0 (.complex .f64 x y)).other (g + 2) 0 (.int .i64 er) (by omega)).ext (alloc_below _ (.cells #[.complex .f64 x y, .int .i64 er] 68))).drew
    have e6 := (((((h6.other g 0 (.slice none 0 0) (by omega)).other g 1 (.slice none 0 0) (by omega)).other (g + 1) 0 (.complex .f64 x y) (by omega)).set 0 (.int .i64 er)).ext (alloc_below _ (.cells #[.complex .f64 x y, .int .i64 er] 68))).drew
    have hb : Below g w (((((w.setCell ⟨g, 0, none⟩ (.slice none 0 0)).setCell ⟨g, 1, none⟩ (.slice none 0 0)).setCell ⟨g + 1, 0, none⟩ (.complex .f64 x y)).setCell ⟨g + 2, 0, none⟩ (.int .i64 er)).alloc (.cells #[.complex .f64 x y, .int .i64 er] 68)) :=
      Below.alloc (below_setB (below_setB (below_setB (below_setB (Below.refl _ _) _ _ _ (by omega) (by omega)) _ _ _ (by simp; omega) (by omega)) _ _ _ (by simp; omega) (by omega)) _ _ _ (by simp; omega) (by omega)) (by simp; omega) _
    exact ⟨rfl, _, rfl, _, results_none rfl _ _ _, rfl, rfl, e4, e5, e6, hb.drew⟩
set_option maxHeartbeats 4000000 in
theorem of_idle (g : Nat) (w : World) :
    CallsD Try.prog 26 #[.pointer (some ⟨g, 0, none⟩), .pointer (some ⟨g + 1, 0, none⟩), .pointer (some ⟨g + 2, 0, none⟩)] .returning w fun e u' w' => e = .returned (.tuple #[]) ∧ u' = .returning ∧ w' = w := by
  refine callsD_of_wpS Try.func26 rfl fun cc cs hu => ?_
  apply wpS_seq
  apply wpS_region
  simp only [Try.ntmps26, List.size_toArray, List.length_cons, List.length_nil, Nat.reduceAdd, Nat.reduceSub, Array.replicate_succ, Array.replicate_zero, List.push_toArray, List.append_toArray, List.nil_append, List.cons_append]
  generalize hQ : Exit.thenS _ _ = Q0
  simp [wpOpsS, go_sem, recoverD, hu]
  subst hQ
  simp only [Exit.thenS]
  refine wpS_of_wp ?_
  go_wp2_with fail
  cases cc
  simp_all [bodyPostS, results, Try.results26]
end Go.Proofs.Ytdeiipbnaknedaa
/- yacc: Of: of tokens. -/
namespace Go.Proofs.Ytdeiipbnaknedaa
open Go.RowKit
set_option linter.unusedVariables false
set_option linter.unusedSimpArgs false

theorem flat_wide3 {w : World} {B B' n c : Nat} {A : Option Addr} {xs : List Tok} (h : Flat 3 tokCells w B A n c xs) (hb : B ≤ B') : Flat 3 tokCells w B' A n c xs := by
  refine ⟨h.1, h.2.1, h.2.2.1, fun hn => ?_⟩
  obtain ⟨b, off, e, hB, hlt, hc⟩ := h.2.2.2 hn
  exact ⟨b, off, e, by omega, hlt, hc⟩
theorem of_results (w : World) (g : Nat) (tmps : Array Value) (cs : Array Value) (v2 v3 : Value) (h4 : Blk w g 27 cs) (h5 : Blk w (g + 1) 28 #[v2]) (h6 : Blk w (g + 2) 29 #[v3]) (hc : cs.size = 2)
    (p4 : tmps.getD 4 undef = .pointer (some ⟨g, 0, none⟩)) (p5 : tmps.getD 5 undef = .pointer (some ⟨g + 1, 0, none⟩)) (p6 : tmps.getD 6 undef = .pointer (some ⟨g + 2, 0, none⟩)) :
    (results Try.f11 tmps).run Try.prog w = .ok (.tuple #[.agg cs, v2, v3]) w := by
  have l4 : (loadVar 27 ⟨g, 0, none⟩).run Try.prog w = .ok (.agg cs) w := run_loadVar_row w g _ _ cs (0, 0) _ h4 Try.underlying27 rfl (by rw [hc]; kernel_rfl)
  have c5 : w.cell? ⟨g + 1, 0, none⟩ = some v2 := h5.cell 0
  have c6 : w.cell? ⟨g + 2, 0, none⟩ = some v3 := h6.cell 0
  have l5 : (loadVar 28 ⟨g + 1, 0, none⟩).run Try.prog w = .ok v2 w := by simp [loadVar, go_sem, c5]
  have l6 : (loadVar 29 ⟨g + 2, 0, none⟩).run Try.prog w = .ok v3 w := by simp [loadVar, go_sem, c6]
  have q4 : tmps[4]?.getD undef = .pointer (some ⟨g, 0, none⟩) := by simpa using p4
  have q5 : tmps[5]?.getD undef = .pointer (some ⟨g + 1, 0, none⟩) := by simpa using p5
  have q6 : tmps[6]?.getD undef = .pointer (some ⟨g + 2, 0, none⟩) := by simpa using p6
  simp [results, Try.results11, q4, q5, q6, asAddr, l4, l5, l6]
/-- a source that comes back, or where and why there is none -/
def RetOf (w : World) (r : ResY (List DclY × List PrdY)) (e : Ending) (w' : World) : Prop :=
  match r with
  | .ok s _ => ∃ A1 c1 A2 c2 zs1 zs2, e = .returned (.tuple #[.agg #[.slice A1 s.1.length c1, .slice A2 s.2.length c2], .complex .f64 0 0, .int .i64 0]) ∧ zs1.map WithY.val = s.1 ∧ zs2.map WithY.val = s.2 ∧
      Flat 2 dclCells w' w'.heap.size A1 s.1.length c1 zs1 ∧ InY DclY.names w' (fun b => w.heap.size ≤ b) zs1 ∧ Flat 5 prdCells w' w'.heap.size A2 s.2.length c2 zs2 ∧ InY PrdY.right w' (fun b => w.heap.size ≤ b) zs2 ∧
      (∀ b off, A1 = some ⟨b, off, none⟩ → w.heap.size ≤ b) ∧ (∀ b off, A2 = some ⟨b, off, none⟩ → w.heap.size ≤ b) ∧ Below w.heap.size w w'
  | .bad pre er => e = .returned (.tuple #[.agg #[.slice none 0 0, .slice none 0 0], PA pre, .int .i64 (er : Int)]) ∧ Below w.heap.size w w'
set_option maxRecDepth 20000 in
set_option maxHeartbeats 2000000 in
theorem yc_Of (A : Option Addr) (n c : Nat) (en : List Nat) (ts : List Tok) (w : World) (h : Flat 3 tokCells w w.heap.size A n c ts) (hn : n ≤ 4000) :
    Calls Try.prog 11 #[.slice A n c, PA en] w (RetOf w (srcY en ts)) := by
  obtain rfl := h.1
  obtain ⟨ex, ey, hen⟩ := PA_form en
  have hmf : ∀ (fn : Fn) (first cap : Array Value) (w : World), (Instr.makeFunc fn first cap).run Try.prog w = .ok (.func fn first cap) w := fun _ _ _ _ => rfl
  have ksc : ∀ (w : World) (a : Addr) (k : FloatKind) (x y : Nat) (m : Mode), (store a (.complex k x y) m).run Try.prog w = stored Try.prog w a (.complex k x y) m := fun w a k x y m => run_store Try.prog w a _ m rfl
  have hB1 := below_alloc (below_alloc (alloc_below w (.cells #[.slice none 0 0, .slice none 0 0] 27)) (.cells #[.complex .f64 0 0] 28)) (.cells #[.int .i64 0] 29)
  have hB2 := below_alloc hB1 (.cells #[.slice A ts.length c, .complex .f64 ex ey] 72)
  have hz1 : (w.alloc (.cells #[.slice none 0 0, .slice none 0 0] 27)).heap.size = w.heap.size + 1 := alloc_size _ _
  have hz2 : ((w.alloc (.cells #[.slice none 0 0, .slice none 0 0] 27)).alloc (.cells #[.complex .f64 0 0] 28)).heap.size = w.heap.size + 2 := by rw [alloc_size, hz1]
  have hz3 : (((w.alloc (.cells #[.slice none 0 0, .slice none 0 0] 27)).alloc (.cells #[.complex .f64 0 0] 28)).alloc (.cells #[.int .i64 0] 29)).heap.size = w.heap.size + 3 := by rw [alloc_size, hz2]
  have b4 := (((Blk.new w 27 #[.slice none 0 0, .slice none 0 0]).ext (alloc_below _ (.cells #[.complex .f64 0 0] 28))).ext (alloc_below _ (.cells #[.int .i64 0] 29))).ext (alloc_below _ (.cells #[.slice A ts.length c, .complex .f64 ex ey] 72))
  have b5 := ((Blk.new (w.alloc (.cells #[.slice none 0 0, .slice none 0 0] 27)) 28 #[.complex .f64 0 0]).ext (alloc_below _ (.cells #[.int .i64 0] 29))).ext (alloc_below _ (.cells #[.slice A ts.length c, .complex .f64 ex ey] 72))
  have b6 := (Blk.new ((w.alloc (.cells #[.slice none 0 0, .slice none 0 0] 27)).alloc (.cells #[.complex .f64 0 0] 28)) 29 #[.int .i64 0]).ext (alloc_below _ (.cells #[.slice A ts.length c, .complex .f64 ex ey] 72))
  have b7 := Blk.new (((w.alloc (.cells #[.slice none 0 0, .slice none 0 0] 27)).alloc (.cells #[.complex .f64 0 0] 28)).alloc (.cells #[.int .i64 0] 29)) 72 #[.slice A ts.length c, .complex .f64 ex ey]
  rw [hz1] at b5
  rw [hz2] at b6
  rw [hz3] at b7
  have hr : YrAt ((((w.alloc (.cells #[.slice none 0 0, .slice none 0 0] 27)).alloc (.cells #[.complex .f64 0 0] 28)).alloc (.cells #[.int .i64 0] 29)).alloc (.cells #[.slice A ts.length c, .complex .f64 ex ey] 72)) (w.heap.size + 3) en ts :=
    ⟨hn, A, c, by rw [hen]; exact b7, flat_wide3 (h.below hB2) (by omega)⟩
  have CS := Lib.hid (yc_source (w.heap.size + 3) en ts _ hr)
  rw [hen]
  have HB2 := Lib.hid hB2
  have Hb4 := Lib.hid b4
  have Hb5 := Lib.hid b5
  have Hb6 := Lib.hid b6
  obtain ⟨s, r0, hS⟩ | ⟨pre, er, hS⟩ := ResY.ways (srcY en ts)
  · rw [hS] at CS ⊢
    have hz4 : ((((w.alloc (.cells #[.slice none 0 0, .slice none 0 0] 27)).alloc (.cells #[.complex .f64 0 0] 28)).alloc (.cells #[.int .i64 0] 29)).alloc (.cells #[.slice A ts.length c, .complex .f64 ex ey] 72)).heap.size = w.heap.size + 4 := by rw [alloc_size, hz3]
    have Hz4 := Lib.hid hz4
    clear h hr hB1 hB2 b4 b5 b6 b7 hz1 hz2 hz3 hen hS hz4
    go_enter_defers Try.func11, Try.ntmps11
    go_wp2_with (first
      | (go_at_call 27; (with_reducible refine CS.out.mono ?_); rintro e w2 ⟨⟨A1, c1, A2, c2, zs1, zs2, rfl, m1, m2, F1, I1, F2, I2, L1, L2⟩, hr2, hg2⟩
         have b4 := Hb4.out.grown hg2 (by intro e; injection e with e; omega)
         have b5 := Hb5.out.grown hg2 (by intro e; injection e with e; omega)
         have b6 := Hb6.out.grown hg2 (by intro e; injection e with e; omega)
         have f0 := b4.frozen 0
         have f1 := b4.frozen 1
         have f2 := b5.frozen 0
         have f3 := b6.frozen 0
         have c40 : w2.cell? ⟨w.heap.size, 0, none⟩ = some (.slice none 0 0) := b4.cell 0
         have c41 : w2.cell? ⟨w.heap.size, 1, none⟩ = some (.slice none 0 0) := b4.cell 1
         have c50 : w2.cell? ⟨w.heap.size + 1, 0, none⟩ = some (.complex .f64 0 0) := b5.cell 0
         have c60 : w2.cell? ⟨w.heap.size + 2, 0, none⟩ = some (.int .i64 0) := b6.cell 0
         have c60' : w2.cell? ⟨w.heap.size + 1 + 1, 0, none⟩ = some (.int .i64 0) := b6.cell 0
         have f3' : w2.frozen? ⟨w.heap.size + 1 + 1, 0, none⟩ = false := f3))
    have l4 := b4.lt
    have l5 := b5.lt
    have l6 := b6.lt
    have hB3 : Below w.heap.size w w2 := HB2.out.trans (grown_is_below hg2 HB2.out.size (by omega))
    have hBw : Below w.heap.size w2 ((((w2.setCell ⟨w.heap.size, 0, none⟩ (.slice A1 s.1.length c1)).setCell ⟨w.heap.size, 1, none⟩ (.slice A2 s.2.length c2)).setCell ⟨w.heap.size + 1, 0, none⟩ (.complex .f64 0 0)).setCell ⟨w.heap.size + 2, 0, none⟩ (.int .i64 0)) :=
      below_setB (below_setB (below_setB (below_setB (Below.refl _ _) _ _ _ (by omega) (by omega)) _ _ _ (by simp; omega) (by omega)) _ _ _ (by simp; omega) (by omega)) _ _ _ (by simp; omega) (by omega)
    have hsame : ∀ b, w.heap.size + 4 ≤ b → ((((w2.setCell ⟨w.heap.size, 0, none⟩ (.slice A1 s.1.length c1)).setCell ⟨w.heap.size, 1, none⟩ (.slice A2 s.2.length c2)).setCell ⟨w.heap.size + 1, 0, none⟩ (.complex .f64 0 0)).setCell ⟨w.heap.size + 2, 0, none⟩ (.int .i64 0)).heap[b]? = w2.heap[b]? := fun b hb => by
      rw [Below.heap_setCell _ ⟨w.heap.size + 2, 0, none⟩ _ b (show b ≠ w.heap.size + 2 by omega), Below.heap_setCell _ ⟨w.heap.size + 1, 0, none⟩ _ b (show b ≠ w.heap.size + 1 by omega), Below.heap_setCell _ ⟨w.heap.size, 1, none⟩ _ b (show b ≠ w.heap.size by omega), Below.heap_setCell _ ⟨w.heap.size, 0, none⟩ _ b (show b ≠ w.heap.size by omega)]
    have hsz : ((((w2.setCell ⟨w.heap.size, 0, none⟩ (.slice A1 s.1.length c1)).setCell ⟨w.heap.size, 1, none⟩ (.slice A2 s.2.length c2)).setCell ⟨w.heap.size + 1, 0, none⟩ (.complex .f64 0 0)).setCell ⟨w.heap.size + 2, 0, none⟩ (.int .i64 0)).heap.size = w2.heap.size := by simp
    have e4 := ((((b4.set 0 (.slice A1 s.1.length c1)).set 1 (.slice A2 s.2.length c2)).other (w.heap.size + 1) 0 (.complex .f64 0 0) (by omega)).other (w.heap.size + 2) 0 (.int .i64 0) (by omega))
    have e5 := ((((b5.other w.heap.size 0 (.slice A1 s.1.length c1) (by omega)).other w.heap.size 1 (.slice A2 s.2.length c2) (by omega)).set 0 (.complex .f64 0 0)).other (w.heap.size + 2) 0 (.int .i64 0) (by omega))
    have e6 := ((((b6.other w.heap.size 0 (.slice A1 s.1.length c1) (by omega)).other w.heap.size 1 (.slice A2 s.2.length c2) (by omega)).other (w.heap.size + 1) 0 (.complex .f64 0 0) (by omega)).set 0 (.int .i64 0))
    have hz := Hz4.out
    refine leaves_cons (f := 26) (args := #[.pointer (some ⟨w.heap.size, 0, none⟩), .pointer (some ⟨w.heap.size + 1, 0, none⟩), .pointer (some ⟨w.heap.size + 2, 0, none⟩)]) (by simp) (by simp [go_sem]) ?_
    refine (of_idle w.heap.size _).mono ?_
    rintro e u' w3 ⟨rfl, rfl, rfl⟩
    refine ⟨_, of_results ((((w2.setCell ⟨w.heap.size, 0, none⟩ (.slice A1 s.1.length c1)).setCell ⟨w.heap.size, 1, none⟩ (.slice A2 s.2.length c2)).setCell ⟨w.heap.size + 1, 0, none⟩ (.complex .f64 0 0)).setCell ⟨w.heap.size + 2, 0, none⟩ (.int .i64 0)) w.heap.size _ _ _ _ e4 e5 e6 rfl rfl rfl rfl, A1, c1, A2, c2, zs1, zs2, rfl, m1, m2, ?_, ?_, ?_, ?_, fun b off e => by have := L1 b off e; omega, fun b off e => by have := L2 b off e; omega, hB3.trans hBw⟩
    · have F1' : Flat 2 dclCells ((((w2.setCell ⟨w.heap.size, 0, none⟩ (.slice A1 s.1.length c1)).setCell ⟨w.heap.size, 1, none⟩ (.slice A2 s.2.length c2)).setCell ⟨w.heap.size + 1, 0, none⟩ (.complex .f64 0 0)).setCell ⟨w.heap.size + 2, 0, none⟩ (.int .i64 0)) w2.heap.size A1 s.1.length c1 zs1 := F1.keep (by rw [hsz]; exact Nat.le_refl _) fun b off e _ _ => hsame b (by have := L1 b off e; omega)
      exact F1'.wide (by rw [hsz]; exact Nat.le_refl _)
    · exact I1.keep (by rw [hsz]; exact Nat.le_refl _) fun k _ hav => ⟨hsame k (by omega), by omega⟩
    · have F2' : Flat 5 prdCells ((((w2.setCell ⟨w.heap.size, 0, none⟩ (.slice A1 s.1.length c1)).setCell ⟨w.heap.size, 1, none⟩ (.slice A2 s.2.length c2)).setCell ⟨w.heap.size + 1, 0, none⟩ (.complex .f64 0 0)).setCell ⟨w.heap.size + 2, 0, none⟩ (.int .i64 0)) w2.heap.size A2 s.2.length c2 zs2 := F2.keep (by rw [hsz]; exact Nat.le_refl _) fun b off e _ _ => hsame b (by have := L2 b off e; omega)
      exact F2'.wide (by rw [hsz]; exact Nat.le_refl _)
    · exact I2.keep (by rw [hsz]; exact Nat.le_refl _) fun k _ hav => ⟨hsame k (by omega), by omega⟩
  · rw [hS] at CS ⊢
    obtain ⟨x, y, hxy⟩ := PA_form pre
    show Calls _ _ _ _ fun e w' => e = .returned (.tuple #[.agg #[.slice none 0 0, .slice none 0 0], PA pre, .int .i64 (er : Int)]) ∧ Below w.heap.size w w'
    rw [hxy]
    have hw : wrongY pre er = .panicked [{ v := .iface 68 (.agg #[.complex .f64 x y, .int .i64 (er : Int)]), recovered := false }] := by
      unfold wrongY
      rw [hxy]
    clear h hr hB1 hB2 b4 b5 b6 b7 hz1 hz2 hz3 hen hS hxy
    go_enter_defers Try.func11, Try.ntmps11
    go_wp2_with (go_at_call 27; (with_reducible refine CS.out.mono ?_); rintro e w2 ⟨rfl, hg2⟩; rw [hw])
    have b4 := Hb4.out.grown hg2 (by intro e; injection e with e; omega)
    have b5 := Hb5.out.grown hg2 (by intro e; injection e with e; omega)
    have b6 := Hb6.out.grown hg2 (by intro e; injection e with e; omega)
    have hB3 : Below w.heap.size w w2 := HB2.out.trans (grown_is_below hg2 HB2.out.size (by omega))
    refine leaves_cons (f := 26) (args := #[.pointer (some ⟨w.heap.size, 0, none⟩), .pointer (some ⟨w.heap.size + 1, 0, none⟩), .pointer (some ⟨w.heap.size + 2, 0, none⟩)]) (by simp) (by simp [go_sem]) ?_
    refine (of_caught w.heap.size x y (er : Int) [] w2 b4 b5 b6).mono ?_
    rintro e u' w3 ⟨rfl, rfl, e4, e5, e6, hb⟩
    exact ⟨_, of_results w3 w.heap.size _ _ _ _ e4 e5 e6 rfl rfl rfl rfl, rfl, hB3.trans hb⟩
end Go.Proofs.Ytdeiipbnaknedaa
