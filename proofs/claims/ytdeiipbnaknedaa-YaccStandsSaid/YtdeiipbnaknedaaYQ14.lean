/- yacc: the program's reader: next, take. -/
import Derived.Test.YtdeiipbnaknedaaYQ13
namespace Go.Proofs.Ytdeiipbnaknedaa
open Go.RowKit
set_option linter.unusedVariables false
set_option linter.unusedSimpArgs false

/-- a literal of kinds -/
def kindsV (ks : List Nat) : Array Value := (ks.map fun (k : Nat) => Value.int .i64 (k : Int)).toArray
theorem kinds_cell (W : World) (t : TypeId) (ks : List Nat) (j : Nat) (hj : j < (ks.map fun (x : Nat) => (x : Int)).length) : (W.alloc (.cells (kindsV ks) t)).cell? ⟨W.heap.size, 0 + j, none⟩ = some (.int .i64 ((ks.map fun (x : Nat) => (x : Int)).getD j 0)) := by
  rw [Nat.zero_add, World.cell?_alloc_mark]
  rw [List.length_map] at hj
  unfold kindsV
  simp [List.getD_eq_getElem?_getD, List.getElem?_eq_getElem hj]
theorem contains_kinds (W : World) (t : TypeId) (ks : List Nat) (k n : Nat) (hn : ks.length = n) (hn2 : n ≤ 100) :
    Calls Try.prog 66 #[.slice (some ⟨W.heap.size, 0, none⟩) n n, .int .i64 (k : Int)] (W.alloc (.cells (kindsV ks) t)) fun e w' => e = .returned (.bool (ks.contains k)) ∧ w' = W.alloc (.cells (kindsV ks) t) := by
  have h := Try.slices_Contains_int W.heap.size 0 n n (ks.map fun (x : Nat) => (x : Int)) (k : Int) (W.alloc (.cells (kindsV ks) t)) (by simp [hn]) (by omega) (kinds_cell W t ks)
  rw [List.take_of_length_le (by simp [hn]), contains_cast] at h
  exact h

set_option maxHeartbeats 400000 in
theorem yc_next (p : Nat) (en : List Nat) (ts : List Tok) (ks : List Nat) (n : Nat) (hn : ks.length = n) (hn2 : n ≤ 100) (W : World) (h : YrAt W p en ts) (arr : Array Value) (ha : arr = kindsV ks) (g : Nat) (hg : W.heap.size = g) :
    Calls Try.prog 53 #[.pointer (some ⟨p, 0, none⟩), .slice (some ⟨g, 0, none⟩) n n] (W.alloc (.cells arr 3)) fun e w' => e = .returned (.bool (nextY ks ts)) ∧ w' = W.alloc (.cells arr 3) := by
  subst ha hg
  have hl := h.len
  have hB := alloc_below W (.cells (kindsV ks) 3)
  obtain ⟨A, c, ht, hp, hk, q0, q1⟩ := (h.below hB).parts
  generalize hw : W.alloc (.cells (kindsV ks) 3) = w at *
  cases ts with
  | nil =>
    clear h ht hk
    go_enter Try.func53, Try.ntmps53
    go_wp2_with fail
    go_ret
    exact ⟨rfl, rfl⟩
  | cons t ts =>
    obtain ⟨b, off, rfl, hbp, hlt, hc⟩ := ht.head
    have r0 := hc 0 _ rfl
    rw [Nat.add_zero] at r0
    have CC := Lib.hid (contains_kinds W 3 ks t.1 n hn hn2)
    rw [hw] at CC
    have hnc := ht.2.1
    obtain ⟨m, hm⟩ : ∃ m, (t :: ts).length = m := ⟨_, rfl⟩
    have hm0 : 0 < m := by rw [← hm]; simp
    show Calls _ _ _ _ fun e w' => e = .returned (.bool (ks.contains t.1)) ∧ w' = w
    rw [hm] at q0 hl hnc
    have hcc := ht.2.2.1
    generalize ks.contains t.1 = r at *
    generalize t.1 = k at *
    clear h ht hk hm hc hw
    go_enter Try.func53, Try.ntmps53
    go_wp2_with (go_at_call 66; (with_reducible refine CC.out.mono ?_); rintro e w2 ⟨rfl, rfl⟩)
    go_ret
    exact ⟨rfl, rfl⟩

/-- what 'take' hands back -/
abbrev TakeV (v : RefY) (e : Ending) (_ : World) : Prop := e = .returned (.agg #[.string (str v.1), PA v.2])
set_option maxRecDepth 20000 in
set_option maxHeartbeats 1000000 in
theorem yc_take_at (p : Nat) (en : List Nat) (ts : List Tok) (ks : List Nat) (v : Value) (W w : World) (hB : Below W.heap.size W w) (h : YrAt W p en ts)
    (hC : ∀ (k : Nat) (w2 : World), Below w.heap.size w w2 → Calls Try.prog 66 #[v, .int .i64 (k : Int)] w2 fun e w' => e = .returned (.bool (ks.contains k)) ∧ w' = w2) :
    Calls Try.prog 55 #[.pointer (some ⟨p, 0, none⟩), v] w (RetY W p en TakeV (takeY en ks ts)) := by
  have hl := h.len
  have hW := h.below hB
  obtain ⟨A, c, ht, hp, hk, q0, q1⟩ := hW.parts
  have ksc : ∀ (w : World) (a : Addr) (k : FloatKind) (x y : Nat) (m : Mode), (store a (.complex k x y) m).run Try.prog w = stored Try.prog w a (.complex k x y) m := fun w a k x y m => run_store Try.prog w a _ m rfl
  obtain ⟨ex, ey, hen⟩ := PA_form en
  have hg0 : W.grownBy w (some p) := grown_below _ hB
  cases ts with
  | nil =>
    rw [hen] at q1
    show Calls _ _ _ _ fun e w' => e = wrongY en 4 ∧ W.grownBy w' (some p)
    unfold wrongY
    rw [hen]
    have HG := Lib.hid (grown_trans hg0 (grown_below (some p) (alloc_below w (.cells #[.string ⟨#[]⟩, .complex .f64 0 0] 40))))
    clear h ht hk hW hen hC
    go_enter Try.func55, Try.ntmps55
    go_wp2_with fail
    exact ⟨rfl, rfl, HG.out⟩
  | cons t ts =>
    obtain ⟨b, off, rfl, hbp, hlt, hc⟩ := ht.head
    obtain ⟨ax, ay, hat⟩ := PA_form t.2.2
    have r0 := hc 0 _ rfl
    have r1 := hc 1 _ rfl
    have r2 := hc 2 _ rfl
    rw [Nat.add_zero] at r0
    rw [hat] at r2
    have hn : (t :: ts).length = ts.length + 1 := rfl
    have hnc := ht.2.1
    have hcc := ht.2.2.1
    rw [hn] at q0 hl hnc
    have hbp2 : b ≠ p := by omega
    have hfz := hk.frozen 0
    have hB2 : Below w.heap.size w ((w.alloc (.cells #[.string ⟨#[]⟩, .complex .f64 0 0] 40)).alloc (.cells #[.int .i64 (t.1 : Int), .string (str t.2.1), .complex .f64 ax ay] 38)) := below_alloc (alloc_below _ _) _
    have CC := Lib.hid (hC t.1 _ hB2)
    have Hk := Lib.hid hk
    have Ht := Lib.hid ht
    cases hh : ks.contains t.1 with
    | false =>
      have hR : takeY en ks (t :: ts) = .bad t.2.2 3 := by simp only [takeY, hh, Bool.false_eq_true, if_false]
      rw [hR]
      show Calls _ _ _ _ fun e w' => e = wrongY t.2.2 3 ∧ W.grownBy w' (some p)
      unfold wrongY
      rw [hat]
      rw [hh] at CC
      have HG := Lib.hid (grown_trans hg0 (grown_below (some p) hB2))
      generalize str t.2.1 = tx at *
      generalize t.1 = k at *
      clear h ht hk hW hen hC hh hR hat hc Hk Ht
      go_enter Try.func55, Try.ntmps55
      go_wp2_with (go_at_call 66; (with_reducible refine CC.out.mono ?_); rintro e w2 ⟨rfl, rfl⟩)
      exact ⟨rfl, rfl, HG.out⟩
    | true =>
      have hR : takeY en ks (t :: ts) = .ok t.2 ts := by simp only [takeY, hh, if_true]
      rw [hR]
      show Calls _ _ _ _ fun e w' => e = .returned (.agg #[.string (str t.2.1), PA t.2.2]) ∧ YrAt w' p en ts ∧ W.grownBy w' (some p)
      rw [hat]
      rw [hh] at CC
      have fin : ∀ (S : Value) (A' : Option Addr), S = .slice A' ts.length (c - 1) → Flat 3 tokCells w p A' ts.length (c - 1) ts →
          YrAt (((w.setCell ⟨p, 0, none⟩ S).alloc (.cells #[.string (str t.2.1), .complex .f64 ax ay] 40)).alloc (.cells #[.int .i64 (t.1 : Int), .string (str t.2.1), .complex .f64 ax ay] 38)) p en ts ∧
          W.grownBy (((w.setCell ⟨p, 0, none⟩ S).alloc (.cells #[.string (str t.2.1), .complex .f64 ax ay] 40)).alloc (.cells #[.int .i64 (t.1 : Int), .string (str t.2.1), .complex .f64 ax ay] 38)) (some p) ∧
          Blk (((w.setCell ⟨p, 0, none⟩ S).alloc (.cells #[.string (str t.2.1), .complex .f64 ax ay] 40)).alloc (.cells #[.int .i64 (t.1 : Int), .string (str t.2.1), .complex .f64 ax ay] 38)) w.heap.size 40 #[.string (str t.2.1), .complex .f64 ax ay] := by
        intro S A' hS hT
        have hg : w.grownBy (((w.setCell ⟨p, 0, none⟩ S).alloc (.cells #[.string (str t.2.1), .complex .f64 ax ay] 40)).alloc (.cells #[.int .i64 (t.1 : Int), .string (str t.2.1), .complex .f64 ax ay] 38)) (some p) :=
          grown_trans (grown_set w p 0 S) (grown_below _ (below_alloc (alloc_below _ _) _))
        have hsz : (w.setCell ⟨p, 0, none⟩ S).heap.size = w.heap.size := by simp
        refine ⟨⟨by omega, A', c - 1, ?_, hT.grown hg (Nat.le_refl _)⟩, grown_trans hg0 hg, ?_⟩
        · have := ((Hk.out.set 0 S).ext (alloc_below _ (.cells #[.string (str t.2.1), .complex .f64 ax ay] 40))).ext (alloc_below _ (.cells #[.int .i64 (t.1 : Int), .string (str t.2.1), .complex .f64 ax ay] 38))
          rw [hS] at this ⊢
          exact this
        · have := (Blk.new (w.setCell ⟨p, 0, none⟩ S) 40 #[.string (str t.2.1), .complex .f64 ax ay]).ext (alloc_below _ (.cells #[.int .i64 (t.1 : Int), .string (str t.2.1), .complex .f64 ax ay] 38))
          rwa [hsz] at this
      have htl := Ht.out.tail
      rw [hn, Nat.add_sub_cancel] at htl
      have Fin := Lib.hid fin
      have Htl := Lib.hid htl
      have hci : c = 1 ∨ (¬ c = 1) := Classical.em _
      generalize str t.2.1 = tx at *
      generalize t.1 = k at *
      clear h ht hk hW hen hC hh hR hat hc Hk Ht fin htl hn
      rcases hci with rfl | hc1
      · have F := Lib.hid (Fin.out (.slice (some ⟨b, off, none⟩) ts.length 0) (some ⟨b, off, none⟩) rfl (by have := Htl.out; rwa [if_pos rfl] at this))
        rw [show ts.length = 0 by omega] at F
        go_enter Try.func55, Try.ntmps55
        go_wp2_with (go_at_call 66; (with_reducible refine CC.out.mono ?_); rintro e w2 ⟨rfl, rfl⟩)
        refine bodyPost_ret (results_cell_row (p := 4) (by kernel_rfl) _ _ w.heap.size 40 #[.string tx, .complex .f64 ax ay] (0, 0) _ rfl F.out.2.2 Try.underlying40 rfl (by kernel_rfl)) rfl ?_
        exact ⟨rfl, F.out.1, F.out.2.1⟩
      · have F := Lib.hid (Fin.out (.slice (some ⟨b, off + 3, none⟩) ts.length (c - 1)) (some ⟨b, off + 3, none⟩) rfl (by have := Htl.out; rwa [if_neg hc1] at this))
        go_enter Try.func55, Try.ntmps55
        go_wp2_with (go_at_call 66; (with_reducible refine CC.out.mono ?_); rintro e w2 ⟨rfl, rfl⟩)
        refine bodyPost_ret (results_cell_row (p := 4) (by kernel_rfl) _ _ w.heap.size 40 #[.string tx, .complex .f64 ax ay] (0, 0) _ rfl F.out.2.2 Try.underlying40 rfl (by kernel_rfl)) rfl ?_
        exact ⟨rfl, F.out.1, F.out.2.1⟩
/-- a token of one of some kinds, which stand in a literal -/
theorem yc_take (p : Nat) (en : List Nat) (ts : List Tok) (ks : List Nat) (n : Nat) (hn : ks.length = n) (hn2 : n ≤ 100) (W : World) (h : YrAt W p en ts) (arr : Array Value) (ha : arr = kindsV ks) (g : Nat) (hg : W.heap.size = g) :
    Calls Try.prog 55 #[.pointer (some ⟨p, 0, none⟩), .slice (some ⟨g, 0, none⟩) n n] (W.alloc (.cells arr 3)) (RetY W p en TakeV (takeY en ks ts)) := by
  subst ha hg
  refine yc_take_at p en ts ks _ W _ (alloc_below _ _) h fun k w2 hB => ?_
  have h2 := Try.slices_Contains_int W.heap.size 0 n n (ks.map fun (x : Nat) => (x : Int)) (k : Int) w2 (by simp [hn]) (by omega) fun j hj => by
    rw [hB.cell (p := ⟨W.heap.size, 0 + j, none⟩) (by simp)]
    exact kinds_cell W 3 ks j hj
  rw [List.take_of_length_le (by simp [hn]), contains_cast] at h2
  exact h2
/-- a token of no kind: there is none -/
theorem yc_take0 (p : Nat) (en : List Nat) (ts : List Tok) (W : World) (h : YrAt W p en ts) :
    Calls Try.prog 55 #[.pointer (some ⟨p, 0, none⟩), .slice none 0 0] W (RetY W p en TakeV (takeY en [] ts)) :=
  yc_take_at p en ts [] _ W W (Below.refl _ _) h fun k w2 _ => Try.slices_Contains_int_empty none 0 (k : Int) w2
end Go.Proofs.Ytdeiipbnaknedaa
/- yacc: the program's reader: refs. -/
namespace Go.Proofs.Ytdeiipbnaknedaa
open Go.RowKit
set_option linter.unusedVariables false
set_option linter.unusedSimpArgs false

theorem nextY_sym (t : Tok) (ts : List Tok) : nextY [1, 2] (t :: ts) = isSymY t.1 := by
  show [1, 2].contains t.1 = _
  unfold isSymY
  rw [Bool.eq_iff_iff]
  simp
/-- what 'refs' hands back -/
def RefsV (w : World) (rs : List RefY) (e : Ending) (w' : World) : Prop := ∃ A c, e = .returned (.slice A rs.length c) ∧ w'.ownsRow w.heap.size 40 2 (.slice A rs.length c) rs.length (refsCells rs)
set_option maxRecDepth 20000 in
set_option maxHeartbeats 1000000 in
theorem yc_refs (p : Nat) (en : List Nat) (ts : List Tok) (w : World) (h : YrAt w p en ts) :
    Calls Try.prog 67 #[.pointer (some ⟨p, 0, none⟩)] w fun e w' => RefsV w (refsY ts).1 e w' ∧ YrAt w' p en (refsY ts).2 ∧ w.grownBy w' (some p) := by
  have hl := h.len
  have hp := h.lt
  have Hh := Lib.hid h
  have hi16 : (Try.prog.info? 40).map (fun i => (i.zero, i.size, i.bytes)) = some (some (.agg #[.string ⟨#[]⟩, .complex .f64 0 0]), 2, 32) := by kernel_rfl
  have Hi := Lib.hid hi16
  clear h hi16
  go_enter Try.func67, Try.ntmps67
  go_wp2_with fail
  go_loopw [2] (fun o wr => ∃ (d c : Nat) (A : Option Addr) (done : List RefY) (us : List Tok), o = .slice A d c ∧ d + us.length ≤ 4000 ∧ Hid (d = done.length) ∧ Hid (done ++ (refsY us).1 = (refsY ts).1) ∧ Hid ((refsY us).2 = (refsY ts).2) ∧
      Hid (wr.ownsRow w.heap.size 40 2 (.slice A d c) d (refsCells done)) ∧ Hid (YrAt wr p en us) ∧ Hid (w.grownBy wr (some p))) (fun _ wr => remY wr p)
  case atStart => exact ⟨0, 0, none, [], ts, rfl, by omega, Lib.hid rfl, Lib.hid rfl, Lib.hid rfl, Lib.hid (World.ownsRow_nil _ _ _ _), Hh, Lib.hid (grown_refl _ _)⟩
  case round =>
    obtain ⟨d, c, A, done, us, rfl, hdu, Hd, Hs1, Hs2, Ho, Hr, Hg⟩ := hrel
    have CN := Lib.hid (yc_next p en us [1, 2] 2 rfl (by decide) wr Hr.out #[.int .i64 1, .int .i64 2] rfl _ rfl)
    have hAB := alloc_below wr (.cells #[.int .i64 1, .int .i64 2] 3)
    have Hr1 := Lib.hid (Hr.out.below hAB)
    have Hg1 := Lib.hid (grown_trans Hg.out (grown_below (some p) hAB))
    have Ho1 := Lib.hid (Ho.out.alloc (.cells #[.int .i64 1, .int .i64 2] 3))
    by_cases hsym : nextY [1, 2] us = true
    case neg =>
      have hsn : nextY [1, 2] us = false := by simpa using hsym
      have Hend : Hid (done = (refsY ts).1 ∧ us = (refsY ts).2) := Lib.hid (by
        have h1 := Hs1.out
        have h2 := Hs2.out
        have e : refsY us = ([], us) := by
          cases us with
          | nil => rfl
          | cons t us =>
            rw [nextY_sym] at hsn
            simp only [refsY, hsn, Bool.false_eq_true, if_false]
        rw [e] at h1 h2
        exact ⟨by simpa using h1, h2⟩)
      rw [hsn] at CN
      clear hsym hsn hAB
      go_wp2_with (go_at_call 53; (with_reducible refine CN.out.mono ?_); rintro e w2 ⟨rfl, rfl⟩)
      go_ret
      have hdl : d = (refsY ts).1.length := by rw [← Hend.out.1]; exact Hd.out
      refine ⟨⟨A, c, by rw [← hdl]; rfl, ?_⟩, ?_, Hg1.out⟩
      · rw [← hdl, ← Hend.out.1]; exact Ho1.out
      · rw [← Hend.out.2]; exact Hr1.out
    case pos =>
      cases us with
      | nil => cases hsym
      | cons t us =>
        rw [hsym] at CN
        rw [nextY_sym] at hsym
        have hsp : refsY (t :: us) = (t.2 :: (refsY us).1, (refsY us).2) := by simp only [refsY, hsym, if_true]
        obtain ⟨ax, ay, hat⟩ := PA_form t.2.2
        have CT := Lib.hid (yc_take p en (t :: us) [1, 2] 2 rfl (by decide) _ Hr1.out #[.int .i64 1, .int .i64 2] rfl (wr.heap.size + 1) (by simp))
        rw [show takeY en [1, 2] (t :: us) = .ok t.2 us by
          have h2 : [1, 2].contains t.1 = true := by rw [← hsym]; exact nextY_sym t us
          simp only [takeY, h2, if_true]] at CT
        have CT2 : Hid (Calls Try.prog 55 #[.pointer (some ⟨p, 0, none⟩), .slice (some ⟨wr.heap.size + 1, 0, none⟩) 2 2] ((wr.alloc (.cells #[.int .i64 1, .int .i64 2] 3)).alloc (.cells #[.int .i64 1, .int .i64 2] 3))
            fun e w' => e = .returned (.agg #[.string (str t.2.1), .complex .f64 ax ay]) ∧ YrAt w' p en us ∧ (wr.alloc (.cells #[.int .i64 1, .int .i64 2] 3)).grownBy w' (some p)) := Lib.hid (by
          have := CT.out
          rw [← hat]
          exact this)
        have Hs3 : Hid ((done ++ [t.2]) ++ (refsY us).1 = (refsY ts).1) := Lib.hid (by rw [← Hs1.out, hsp]; simp)
        have Hs4 : Hid ((refsY us).2 = (refsY ts).2) := Lib.hid (by rw [← Hs2.out, hsp])
        have Hrem : Hid (remY wr p = us.length + 1) := Lib.hid (by rw [Hr.out.rem]; rfl)
        have hdu2 : d + us.length + 1 ≤ 4000 := by simp only [List.length_cons] at hdu; omega
        have Hnew : Hid (refsCells done ++ [.string (str t.2.1), .complex .f64 ax ay] = refsCells (done ++ [t.2])) := Lib.hid (by rw [refsCells_snoc, ← hat]; rfl)
        clear hsym hsp Hs1 Hs2 hdu CT hat hAB
        generalize str t.2.1 = s at *
        generalize t.2 = tr at *
        go_wp2_with (first
          | (go_at_call 53; (with_reducible refine CN.out.mono ?_); rintro e w2 ⟨rfl, rfl⟩)
          | (go_at_call 55; (with_reducible refine CT2.out.mono ?_); rintro e w2 ⟨rfl, hr2, hg2⟩
             have Hr2 := Lib.hid hr2
             have Hg2 := Lib.hid (grown_trans Hg1.out hg2)
             have Ho2 := Lib.hid (own_grown Ho1.out hg2 hp)
             have hbs : w.heap.size ≤ w2.heap.size := Nat.le_trans Hg1.out.size hg2.size
             clear hr2 hg2)
          | (at_builtin; refine wpl_appendT rfl _ _ 35 rfl w.heap.size 40 _ 2 32 Try.underlying35 Hi.out (by decide) (by decide) A d c (refsCells done) rfl Ho2.out [.string s, .complex .f64 ax ay] rfl rfl (by simp [Value.oneCell']) (by omega) (by omega) hbs ?_; intro A4 c4 w4 ho hgr ha))
        have Hr4 := Lib.hid (Hr2.out.app hgr Ho2.out hp)
        have Hg4 := Lib.hid (grown_app Hg2.out hgr Ho2.out (Nat.le_refl _))
        have Hd2 : Hid (d + 1 = (done ++ [tr]).length) := Lib.hid (by rw [List.length_append, ← Hd.out]; rfl)
        have Hrem2 : Hid (remY w4 p = us.length) := Lib.hid Hr4.out.rem
        rw [Hnew.out] at ho
        go_roundw
        case rel => exact ⟨d + 1, c4, A4, done ++ [tr], us, rfl, by omega, Hd2, Hs3, Hs4, Lib.hid ho, Hr4, Hg4⟩
        case measure => rw [Hrem.out, Hrem2.out]; omega
end Go.Proofs.Ytdeiipbnaknedaa
