/- yacc: the program's reader: decl. -/
import Derived.Test.YtdeiipbnaknedaaYQ15
namespace Go.Proofs.Ytdeiipbnaknedaa
open Go.RowKit
set_option linter.unusedVariables false
set_option linter.unusedSimpArgs false

theorem below_setB {w w' : World} {B : Nat} (h : Below B w w') (g i : Nat) (v : Value) (hB : B ≤ w'.heap.size) (hg : B ≤ g) : Below B w (w'.setCell ⟨g, i, none⟩ v) := h.trans (grown_is_below (grown_set w' g i v) hB hg)
theorem YrAt.late {w w' : World} {p B : Nat} {en : List Nat} {ts : List Tok} (h : YrAt w p en ts) (hb : Below B w w') (hp : p < B) : YrAt w' p en ts := h.keep hb.size fun k h1 _ => hb.block k (by omega)
theorem grown_late {w w3 w' : World} {p : Nat} (h : w.grownBy w3 (some p)) (k : Below w.heap.size w3 w') : w.grownBy w' (some p) :=
  ⟨k.os.trans h.os, k.tape.trans h.tape, k.output.trans h.output, Nat.le_trans h.size k.size, fun b hb hne => (k.block b hb).trans (h.block b hb hne)⟩
theorem own_late {w w' : World} {B base e m n c : Nat} {A : Option Addr} {xs : List Value} (h : w.ownsRow base e m (.slice A n c) n xs) (hk : ∀ b, base ≤ b → b < w.heap.size → w'.heap[b]? = w.heap[b]?) (hB : B ≤ base) : w'.ownsRow B e m (.slice A n c) n xs := by
  have h2 := own_keepY h hk
  refine ⟨h2.1, ?_⟩
  rcases h2.2 with hn | ⟨g, cap, cur, hv, hbg, rest⟩
  · exact .inl hn
  · exact .inr ⟨g, cap, cur, hv, by omega, rest⟩
/-- one element in a block of its own -/
theorem own_lit1 (w : World) (B e : Nat) (news : List Value) (hB : B ≤ w.heap.size) (hl : 0 < news.length) : (w.alloc (.cells news.toArray e)).ownsRow B e news.length (.slice (some ⟨w.heap.size, 0, none⟩) 1 1) 1 news := by
  have h := World.ownsRow_lit (base := B) (e := e) (size := news.length) w news.toArray 1 hB (by simp [maxLen]) (by simp)
  simpa using h

/-- what 'decl' hands back -/
def DeclV (w : World) (d : DclY) (e : Ending) (w' : World) : Prop := ∃ A c, e = .returned (.agg #[.int .i64 (d.kind : Int), .slice A d.names.length c]) ∧ w'.ownsRow w.heap.size 40 2 (.slice A d.names.length c) d.names.length (refsCells d.names)
set_option maxRecDepth 20000 in
set_option maxHeartbeats 2000000 in
theorem yc_decl (p : Nat) (en : List Nat) (ts : List Tok) (w : World) (h : YrAt w p en ts) :
    Calls Try.prog 54 #[.pointer (some ⟨p, 0, none⟩)] w (RetY w p en (DeclV w) (declY en ts)) := by
  have hl := h.len
  have hp := h.lt
  have ksc : ∀ (w : World) (a : Addr) (k : FloatKind) (x y : Nat) (m : Mode), (store a (.complex k x y) m).run Try.prog w = stored Try.prog w a (.complex k x y) m := fun w a k x y m => run_store Try.prog w a _ m rfl
  cases ts with
  | nil =>
    obtain ⟨x, y, hxy⟩ := PA_form en
    have hB := below_alloc (alloc_below w (.cells #[.int .i64 0, .slice none 0 0] 46)) (.cells #[.int .i64 0, .slice none 0 0] 46)
    have CT := Lib.hid (yc_take_bad p en [] [3, 4, 5, 6, 7] 5 rfl (by decide) _ (h.below hB) #[.int .i64 3, .int .i64 4, .int .i64 5, .int .i64 6, .int .i64 7] rfl (w.heap.size + 2) (by simp) en 4 rfl x y hxy)
    obtain ⟨A, c, ht, _, _, q0, q1⟩ := h.parts
    show Calls _ _ _ _ fun e w' => e = wrongY en 4 ∧ w.grownBy w' (some p)
    unfold wrongY
    rw [hxy]
    have HG := Lib.hid (grown_below (some p) hB)
    clear h ht hxy hB
    go_enter Try.func54, Try.ntmps54
    go_wp2_with (go_at_call 55; (with_reducible refine CT.out.mono ?_); rintro e w2 ⟨rfl, hg2⟩)
    exact ⟨rfl, rfl, grown_trans HG.out hg2⟩
  | cons t ts =>
    have hk5 : ∀ (k : Int), Below w.heap.size w ((w.alloc (.cells #[.int .i64 0, .slice none 0 0] 46)).alloc (.cells #[.int .i64 k, .slice none 0 0] 46)) := fun k => below_alloc (alloc_below w _) _
    have hB := hk5 (t.1 : Int)
    obtain ⟨A, c, ht, _, _, q0, q1⟩ := h.parts
    obtain ⟨b, off, rfl, hbp, hlt, hc⟩ := ht.head
    have r0 := hc 0 _ rfl
    rw [Nat.add_zero] at r0
    have hnc := ht.2.1
    have hcc := ht.2.2.1
    have hn : (t :: ts).length = ts.length + 1 := rfl
    rw [hn] at q0 hl hnc
    have HG := Lib.hid (grown_below (some p) hB)
    have HW := Lib.hid (h.below hB)
    have hb2 : Blk ((w.alloc (.cells #[.int .i64 0, .slice none 0 0] 46)).alloc (.cells #[.int .i64 (t.1 : Int), .slice none 0 0] 46)) w.heap.size 46 #[.int .i64 0, .slice none 0 0] := (Blk.new w _ _).ext (alloc_below _ _)
    have hb3 : Blk ((w.alloc (.cells #[.int .i64 0, .slice none 0 0] 46)).alloc (.cells #[.int .i64 (t.1 : Int), .slice none 0 0] 46)) (w.heap.size + 1) 46 #[.int .i64 (t.1 : Int), .slice none 0 0] := by
      have := Blk.new (w.alloc (.cells #[.int .i64 0, .slice none 0 0] 46)) 46 #[.int .i64 (t.1 : Int), .slice none 0 0]
      rwa [alloc_size] at this
    have Hb2 := Lib.hid hb2
    have Hb3 := Lib.hid hb3
    cases hk : [3, 4, 5, 6, 7].contains t.1 with
    | false =>
      obtain ⟨x, y, hxy⟩ := PA_form t.2.2
      have CT := Lib.hid (yc_take_bad p en (t :: ts) [3, 4, 5, 6, 7] 5 rfl (by decide) _ HW.out #[.int .i64 3, .int .i64 4, .int .i64 5, .int .i64 6, .int .i64 7] rfl (w.heap.size + 2) (by simp) t.2.2 3 (by simp only [takeY, hk, Bool.false_eq_true, if_false]) x y hxy)
      have hR : declY en (t :: ts) = .bad t.2.2 3 := by simp only [declY, hk, Bool.false_eq_true, if_false]
      rw [hR]
      show Calls _ _ _ _ fun e w' => e = wrongY t.2.2 3 ∧ w.grownBy w' (some p)
      unfold wrongY
      rw [hxy]
      generalize t.1 = k at *
      clear h ht hxy hB hk5 hc hk hR HW hb2 hb3 Hb2 Hb3 hn
      go_enter Try.func54, Try.ntmps54
      go_wp2_with (go_at_call 55; (with_reducible refine CT.out.mono ?_); rintro e w2 ⟨rfl, hg2⟩)
      exact ⟨rfl, rfl, grown_trans HG.out hg2⟩
    | true =>
      obtain ⟨x0, y0, hxy0⟩ := PA_form t.2.2
      have CT := Lib.hid (yc_take_ok p en (t :: ts) [3, 4, 5, 6, 7] 5 rfl (by decide) _ HW.out #[.int .i64 3, .int .i64 4, .int .i64 5, .int .i64 6, .int .i64 7] rfl (w.heap.size + 2) (by simp) t.2 ts (by simp only [takeY, hk, if_true]) x0 y0 hxy0)
      have hR : declY en (t :: ts) = if t.1 = 7 then (takeY en [1] ts).bind fun n r' => .ok ⟨t.1, [n]⟩ r' else (takeY en [1, 2] ts).bind fun n r' => .ok ⟨t.1, n :: (refsY r').1⟩ (refsY r').2 := by simp only [declY, hk, if_true]
      rw [hR]
      clear hR hxy0 hk
      by_cases h7 : t.1 = 7
      · rw [if_pos h7]
        have e7 : ((t.1 : Int) == 7) = true := by rw [beq_iff_eq]; omega
        cases hT : takeY en [1] ts with
        | bad pre er =>
          obtain ⟨x, y, hxy⟩ := PA_form pre
          have CT2 := Lib.hid fun (W : World) (hW : YrAt W p en ts) => yc_take_bad p en ts [1] 1 rfl (by decide) W hW #[.int .i64 1] rfl _ rfl pre er hT x y hxy
          show Calls _ _ _ _ fun e w' => e = wrongY pre er ∧ w.grownBy w' (some p)
          unfold wrongY
          rw [hxy]
          generalize str t.2.1 = s0 at *
          generalize t.1 = k at *
          clear h ht hxy hB hk5 hc hT HW hb2 hb3 h7 hn
          go_enter Try.func54, Try.ntmps54
          go_wp2_with (first
            | (go_at_call 55; (with_reducible refine CT.out.mono ?_); rintro e w2 ⟨rfl, hr2, hg2⟩
               have hb3 := Hb3.out.grown hg2 (by intro e; injection e with e; omega)
               have z0 : w2.cell? ⟨w.heap.size + 1, 0, none⟩ = some (.int .i64 (k : Int)) := hb3.cell 0)
            | (go_at_call 55; (with_reducible refine (CT2.out _ hr2).mono ?_); rintro e w3 ⟨rfl, hg3⟩))
          exact ⟨rfl, rfl, grown_trans HG.out (grown_trans hg2 hg3)⟩
        | ok v r =>
          obtain ⟨x, y, hxy⟩ := PA_form v.2
          have CT2 := Lib.hid fun (W : World) (hW : YrAt W p en ts) => yc_take_ok p en ts [1] 1 rfl (by decide) W hW #[.int .i64 1] rfl _ rfl v r hT x y hxy
          show Calls _ _ _ _ fun e w' => DeclV w ⟨t.1, [v]⟩ e w' ∧ YrAt w' p en r ∧ w.grownBy w' (some p)
          have Hcs : Hid (refsCells [v] = [.string (str v.1), .complex .f64 x y]) := Lib.hid (by rw [← hxy]; rfl)
          have Hv : Hid (DeclV w ⟨t.1, [v]⟩ = fun e w' => ∃ A c, e = .returned (.agg #[.int .i64 (t.1 : Int), .slice A 1 c]) ∧ w'.ownsRow w.heap.size 40 2 (.slice A 1 c) 1 (refsCells [v])) := Lib.hid rfl
          generalize DeclV w ⟨t.1, [v]⟩ = D at *
          generalize str t.2.1 = s0 at *
          generalize str v.1 = s1 at *
          generalize t.1 = k at *
          clear h ht hxy hB hk5 hc hT HW hb2 hb3 h7 hn
          go_enter Try.func54, Try.ntmps54
          go_wp2_with (first
            | (go_at_call 55; (with_reducible refine CT.out.mono ?_); rintro e w2 ⟨rfl, hr2, hg2⟩
               have hb3 := Hb3.out.grown hg2 (by intro e; injection e with e; omega)
               have z0 : w2.cell? ⟨w.heap.size + 1, 0, none⟩ = some (.int .i64 (k : Int)) := hb3.cell 0)
            | (go_at_call 55; (with_reducible refine (CT2.out _ hr2).mono ?_); rintro e w3 ⟨rfl, hr3, hg3⟩
               have hg23 := grown_trans hg2 hg3
               have hc2 := Hb2.out.grown hg23 (by intro e; injection e with e; omega)
               have hc3 := Hb3.out.grown hg23 (by intro e; injection e with e; omega)
               have y0 : w3.cell? ⟨w.heap.size, 0, none⟩ = some (.int .i64 0) := hc2.cell 0
               have y1 : w3.cell? ⟨w.heap.size, 1, none⟩ = some (.slice none 0 0) := hc2.cell 1
               have y2 : w3.cell? ⟨w.heap.size + 1, 0, none⟩ = some (.int .i64 (k : Int)) := hc3.cell 0
               have y3 : w3.cell? ⟨w.heap.size + 1, 1, none⟩ = some (.slice none 0 0) := hc3.cell 1
               have x0 := hc2.frozen 0
               have x1 := hc2.frozen 1
               have x2 := hc3.frozen 0
               have x3 := hc3.frozen 1
               have l2 := hc2.lt
               have l3 := hc3.lt))
          have hBw : Below w.heap.size w3 ((((w3.setCell ⟨w.heap.size + 1, 1, none⟩ (.slice (some ⟨w3.heap.size, 0, none⟩) 1 1)).setCell ⟨w.heap.size, 0, none⟩ (.int .i64 (k : Int))).setCell ⟨w.heap.size, 1, none⟩ (.slice (some ⟨w3.heap.size, 0, none⟩) 1 1)).alloc (.cells #[.string s1, .complex .f64 x y] 40)) :=
            Below.alloc (below_setB (below_setB (below_setB (Below.refl _ _) _ _ _ (by omega) (by omega)) _ _ _ (by simp; omega) (by omega)) _ _ _ (by simp; omega) (by omega)) (by simp; omega) _
          have hF := (((hc2.other (w.heap.size + 1) 1 (.slice (some ⟨w3.heap.size, 0, none⟩) 1 1) (by omega)).set 0 (.int .i64 (k : Int))).set 1 (.slice (some ⟨w3.heap.size, 0, none⟩) 1 1)).ext (alloc_below _ (.cells #[.string s1, .complex .f64 x y] 40))
          refine bodyPost_ret (results_cell_row (p := 2) (by kernel_rfl) _ _ w.heap.size 46 #[.int .i64 (k : Int), .slice (some ⟨w3.heap.size, 0, none⟩) 1 1] (0, 0) _ rfl hF Try.underlying46 rfl (by kernel_rfl)) rfl ?_
          refine ⟨?_, hr3.late hBw (by omega), grown_late (grown_trans HG.out hg23) hBw⟩
          rw [Hv.out]
          refine ⟨_, _, rfl, ?_⟩
          rw [Hcs.out]
          have hlit := own_lit1 (((w3.setCell ⟨w.heap.size + 1, 1, none⟩ (.slice (some ⟨w3.heap.size, 0, none⟩) 1 1)).setCell ⟨w.heap.size, 0, none⟩ (.int .i64 (k : Int))).setCell ⟨w.heap.size, 1, none⟩ (.slice (some ⟨w3.heap.size, 0, none⟩) 1 1)) w.heap.size 40 [.string s1, .complex .f64 x y] (by simp; omega) (by simp)
          simpa using hlit
      · rw [if_neg h7]
        have e7 : ((t.1 : Int) == 7) = false := by rw [beq_eq_false_iff_ne]; omega
        cases hT : takeY en [1, 2] ts with
        | bad pre er =>
          obtain ⟨x, y, hxy⟩ := PA_form pre
          have CT2 := Lib.hid fun (W : World) (hW : YrAt W p en ts) => yc_take_bad p en ts [1, 2] 2 rfl (by decide) W hW #[.int .i64 1, .int .i64 2] rfl _ rfl pre er hT x y hxy
          show Calls _ _ _ _ fun e w' => e = wrongY pre er ∧ w.grownBy w' (some p)
          unfold wrongY
          rw [hxy]
          generalize str t.2.1 = s0 at *
          generalize t.1 = k at *
          clear h ht hxy hB hk5 hc hT HW hb2 hb3 h7 hn
          go_enter Try.func54, Try.ntmps54
          go_wp2_with (first
            | (go_at_call 55; (with_reducible refine CT.out.mono ?_); rintro e w2 ⟨rfl, hr2, hg2⟩
               have hb3 := Hb3.out.grown hg2 (by intro e; injection e with e; omega)
               have z0 : w2.cell? ⟨w.heap.size + 1, 0, none⟩ = some (.int .i64 (k : Int)) := hb3.cell 0)
            | (go_at_call 55; (with_reducible refine (CT2.out _ hr2).mono ?_); rintro e w3 ⟨rfl, hg3⟩))
          exact ⟨rfl, rfl, grown_trans HG.out (grown_trans hg2 hg3)⟩
        | ok v r =>
          obtain ⟨x, y, hxy⟩ := PA_form v.2
          have CT2 := Lib.hid fun (W : World) (hW : YrAt W p en ts) => yc_take_ok p en ts [1, 2] 2 rfl (by decide) W hW #[.int .i64 1, .int .i64 2] rfl _ rfl v r hT x y hxy
          have CR := Lib.hid fun (W : World) (hW : YrAt W p en r) => yc_refs p en r W hW
          have hi16 : (Try.prog.info? 40).map (fun i => (i.zero, i.size, i.bytes)) = some (some (.agg #[.string ⟨#[]⟩, .complex .f64 0 0]), 2, 32) := by kernel_rfl
          have Hi := Lib.hid hi16
          show Calls _ _ _ _ fun e w' => DeclV w ⟨t.1, v :: (refsY r).1⟩ e w' ∧ YrAt w' p en (refsY r).2 ∧ w.grownBy w' (some p)
          have Hrl : Hid ((refsY r).1.length ≤ 4000) := Lib.hid (by
            have h1 := (takeY_tail hT).len
            have h2 : ∀ l : List Tok, (refsY l).1.length ≤ l.length := fun l => by
              induction l with
              | nil => exact Nat.le_refl _
              | cons t l ih => rw [refsY]; split <;> simp; exact ih
            have := h2 r
            omega)
          have Hv : Hid (DeclV w ⟨t.1, v :: (refsY r).1⟩ = fun e w' => ∃ A c, e = .returned (.agg #[.int .i64 (t.1 : Int), .slice A (1 + (refsY r).1.length) c]) ∧ w'.ownsRow w.heap.size 40 2 (.slice A (1 + (refsY r).1.length) c) (1 + (refsY r).1.length) ([.string (str v.1), .complex .f64 x y] ++ refsCells (refsY r).1)) := Lib.hid (by
            rw [← hxy, Nat.add_comm 1]
            rfl)
          have hone : ∀ u ∈ refsCells (refsY r).1, u.oneCell' = true := fun u hu => by
            obtain ⟨rr, _, hu⟩ := List.mem_flatMap.1 hu
            obtain ⟨x, y, hx⟩ := PA_form rr.2
            unfold refCells at hu
            rw [hx] at hu
            rcases List.mem_cons.1 hu with rfl | hu
            · rfl
            · rw [List.mem_singleton.1 hu]; rfl
          have Hone := Lib.hid hone
          unfold RefsV at CR
          generalize DeclV w ⟨t.1, v :: (refsY r).1⟩ = D at *
          generalize (refsY r).1.length = m at *
          generalize refsCells (refsY r).1 = rcs at *
          generalize (refsY r).2 = rest at *
          generalize str t.2.1 = s0 at *
          generalize str v.1 = s1 at *
          generalize t.1 = k at *
          clear h ht hxy hB hk5 hc hT HW hb2 hb3 h7 hn hi16 hone
          go_enter Try.func54, Try.ntmps54
          go_wp2_with (first
            | (go_at_call 55; (with_reducible refine CT.out.mono ?_); rintro e w2 ⟨rfl, hr2, hg2⟩
               have hb3 := Hb3.out.grown hg2 (by intro e; injection e with e; omega)
               have z0 : w2.cell? ⟨w.heap.size + 1, 0, none⟩ = some (.int .i64 (k : Int)) := hb3.cell 0)
            | (go_at_call 55; (with_reducible refine (CT2.out _ hr2).mono ?_); rintro e w3 ⟨rfl, hr3, hg3⟩
               have hg23 := grown_trans hg2 hg3
               have hc2 := Hb2.out.grown hg23 (by intro e; injection e with e; omega)
               have hc3 := Hb3.out.grown hg23 (by intro e; injection e with e; omega)
               have y2 : w3.cell? ⟨w.heap.size + 1, 0, none⟩ = some (.int .i64 (k : Int)) := hc3.cell 0
               have y3 : w3.cell? ⟨w.heap.size + 1, 1, none⟩ = some (.slice none 0 0) := hc3.cell 1
               have x2 := hc3.frozen 0
               have x3 := hc3.frozen 1
               have l2 := hc2.lt
               have l3 := hc3.lt))
          have hsz4 : (w3.setCell ⟨w.heap.size + 1, 1, none⟩ (.slice (some ⟨w3.heap.size, 0, none⟩) 1 1)).heap.size = w3.heap.size := by simp
          have hBx : Below (w.heap.size + 1) w3 ((w3.setCell ⟨w.heap.size + 1, 1, none⟩ (.slice (some ⟨w3.heap.size, 0, none⟩) 1 1)).alloc (.cells #[.string s1, .complex .f64 x y] 40)) :=
            Below.alloc (below_setB (Below.refl _ _) _ _ _ (by omega) (by omega)) (by rw [hsz4]; omega) _
          have hr4 := hr3.late hBx (by omega)
          have hd2 := (hc2.other (w.heap.size + 1) 1 (.slice (some ⟨w3.heap.size, 0, none⟩) 1 1) (by omega)).ext (alloc_below _ (.cells #[.string s1, .complex .f64 x y] 40))
          have hd3 : Blk ((w3.setCell ⟨w.heap.size + 1, 1, none⟩ (.slice (some ⟨w3.heap.size, 0, none⟩) 1 1)).alloc (.cells #[.string s1, .complex .f64 x y] 40)) (w.heap.size + 1) 46 #[.int .i64 (k : Int), .slice (some ⟨w3.heap.size, 0, none⟩) 1 1] :=
            (hc3.set 1 (.slice (some ⟨w3.heap.size, 0, none⟩) 1 1)).ext (alloc_below _ (.cells #[.string s1, .complex .f64 x y] 40))
          have ho4 : ((w3.setCell ⟨w.heap.size + 1, 1, none⟩ (.slice (some ⟨w3.heap.size, 0, none⟩) 1 1)).alloc (.cells #[.string s1, .complex .f64 x y] 40)).ownsRow w3.heap.size 40 2 (.slice (some ⟨w3.heap.size, 0, none⟩) 1 1) 1 [.string s1, .complex .f64 x y] := by
            have hlit := own_lit1 (w3.setCell ⟨w.heap.size + 1, 1, none⟩ (.slice (some ⟨w3.heap.size, 0, none⟩) 1 1)) w3.heap.size 40 [.string s1, .complex .f64 x y] (by rw [hsz4]; omega) (by simp)
            rw [hsz4] at hlit
            simpa using hlit
          have hs4 : ((w3.setCell ⟨w.heap.size + 1, 1, none⟩ (.slice (some ⟨w3.heap.size, 0, none⟩) 1 1)).alloc (.cells #[.string s1, .complex .f64 x y] 40)).heap.size = w3.heap.size + 1 := by rw [alloc_size, hsz4]
          generalize (w3.setCell ⟨w.heap.size + 1, 1, none⟩ (.slice (some ⟨w3.heap.size, 0, none⟩) 1 1)).alloc (.cells #[.string s1, .complex .f64 x y] 40) = W4 at *
          have v3 : W4.cell? ⟨w.heap.size + 1, 1, none⟩ = some (.slice (some ⟨w3.heap.size, 0, none⟩) 1 1) := hd3.cell 1
          have HG3 := Lib.hid (grown_trans HG.out hg23)
          have Hd2 := Lib.hid hd2
          have Hd3 := Lib.hid hd3
          have Hr4 := Lib.hid hr4
          have Ho4 := Lib.hid ho4
          have HBx := Lib.hid hBx
          clear hr2 hg2 hb3 z0 hr3 hg3 hg23 hc2 hc3 y2 y3 x2 x3 hd2 hd3 hr4 ho4 hBx CT CT2 Hb2 Hb3 HG hsz4
          go_region_law (first
            | (go_simp; go_at_call 67; refine (CR.out _ (by exact Hr4.out)).mono ?_; rintro e w5 ⟨⟨A2, c2, rfl, ho5⟩, hr5, hg5'⟩
               have hg5 : W4.grownBy w5 (some p) := ⟨hg5'.os, hg5'.tape, hg5'.output, hg5'.size, hg5'.block⟩
               have hd5 := Hd3.out.grown hg5 (by intro e; injection e with e; omega)
               have z1 : w5.cell? ⟨w.heap.size + 1, 1, none⟩ = some (.slice (some ⟨w3.heap.size, 0, none⟩) 1 1) := hd5.cell 1
               have Ho5 := Lib.hid (own_grown Ho4.out hg5 (by omega))
               have Ho52 := Lib.hid ho5
               have hs5 : W4.heap.size ≤ w5.heap.size := hg5.size
               have Hr5 := Lib.hid hr5
               have Hd5 := Lib.hid hd5
               have Hg5 := Lib.hid hg5
               clear hr5 hd5 hg5 hg5' ho5)
            | (refine step_appendO rfl _ _ 35 rfl w3.heap.size 40 _ 2 32 Try.underlying35 Hi.out (by decide) (by decide) (some ⟨w3.heap.size, 0, none⟩) 1 1 [.string s1, .complex .f64 x y] (by simp [Act.eval, Act.put]) Ho5.out _ A2 m c2 rcs (by simp [Act.eval, Act.put]) Ho52.out Hone.out (by have := Hrl.out; omega) (by have := Hrl.out; omega) (by omega) ?_; intro A6 c6 w6 ho6 hgr6 ha6
               have b6 := Hd5.out.grown hgr6 (by intro e; have := (Ho5.out.lt _ e.symm).1; omega)
               have y0 : w6.cell? ⟨w.heap.size + 1, 0, none⟩ = some (.int .i64 (k : Int)) := b6.cell 0
               have y1 : w6.cell? ⟨w.heap.size + 1, 1, none⟩ = some (.slice (some ⟨w3.heap.size, 0, none⟩) 1 1) := b6.cell 1
               have v0 := b6.frozen 0
               have v1 := b6.frozen 1
               have c6' := (Hd2.out.grown Hg5.out (by intro e; injection e with e; omega)).grown hgr6 (by intro e; have := (Ho5.out.lt _ e.symm).1; omega)
               have u0 := c6'.frozen 0
               have u1 := c6'.frozen 1
               have y20 : w6.cell? ⟨w.heap.size, 0, none⟩ = some (.int .i64 0) := c6'.cell 0
               have y21 : w6.cell? ⟨w.heap.size, 1, none⟩ = some (.slice none 0 0) := c6'.cell 1
               have Hc6 := Lib.hid c6'
               have Hb6 := Lib.hid b6
               have Hgr6 := Lib.hid hgr6
               have Ha6 := Lib.hid ha6
               have Ho6 := Lib.hid ho6
               clear b6 c6' hgr6 ha6 ho6))
          all_goals
            go_wp2_with fail
            have hw6 : w5.heap.size ≤ w6.heap.size := Hgr6.out.size
            have hBw : Below w.heap.size w6 (((w6.setCell ⟨w.heap.size + 1, 1, none⟩ (.slice A6 (1 + m) c6)).setCell ⟨w.heap.size, 0, none⟩ (.int .i64 (k : Int))).setCell ⟨w.heap.size, 1, none⟩ (.slice A6 (1 + m) c6)) :=
              below_setB (below_setB (below_setB (Below.refl _ _) _ _ _ (by omega) (by omega)) _ _ _ (by simp; omega) (by omega)) _ _ _ (by simp; omega) (by omega)
            have hF := ((Hc6.out.other (w.heap.size + 1) 1 (.slice A6 (1 + m) c6) (by omega)).set 0 (.int .i64 (k : Int))).set 1 (.slice A6 (1 + m) c6)
            refine bodyPost_ret (results_cell_row (p := 2) (by kernel_rfl) _ _ w.heap.size 46 #[.int .i64 (k : Int), .slice A6 (1 + m) c6] (0, 0) _ rfl hF Try.underlying46 rfl (by kernel_rfl)) rfl ?_
            refine ⟨?_, (Hr5.out.app Hgr6.out Ho5.out (by omega)).late hBw (by omega), grown_late (grown_app (grown_trans (grown_late HG3.out (HBx.out.mono (by omega))) Hg5.out) Hgr6.out Ho5.out (by omega)) hBw⟩
            rw [Hv.out]
            refine ⟨_, _, rfl, own_late Ho6.out (fun b h1 h2 => ?_) (by omega)⟩
            rw [Below.heap_setCell _ ⟨w.heap.size, 1, none⟩ _ b (show b ≠ w.heap.size by omega), Below.heap_setCell _ ⟨w.heap.size, 0, none⟩ _ b (show b ≠ w.heap.size by omega), Below.heap_setCell _ ⟨w.heap.size + 1, 1, none⟩ _ b (show b ≠ w.heap.size + 1 by omega)]
end Go.Proofs.Ytdeiipbnaknedaa
