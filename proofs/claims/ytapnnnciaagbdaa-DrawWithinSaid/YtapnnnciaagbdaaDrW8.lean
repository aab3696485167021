/- draw: Below: the loop over the pieces. -/
import Derived.Test.YtapnnnciaagbdaaDrW7
namespace Go.Proofs.Ytapnnnciaagbdaa
open Go.RowKit Go.Shelf
set_option linter.unusedVariables false
set_option linter.unusedSimpArgs false
attribute [local go_sem] Oper.semAt_some

/-- between two rounds -/
structure IB (w w1 : World) (ws : List Nat) (v : Value) (V K N : Nat) (pre : List (Piece ws.length N)) (W : World) : Prop where
  vars : Vars w W v
  b7 : Boxed W w1.heap.size 3 (.int .i64 (N : Int))
  b8 : Boxed W (w1.heap.size + 1) 3 (.int .i64 ((N * pre.length : Nat) : Int))
  size : w1.heap.size + 1 + 1 + 1 + 1 ≤ W.heap.size
  fail : ∀ x ∈ pre, FailP V K ws x
def IBel (w w1 : World) (ws : List Nat) (v : Value) (V K N : Nat) (pre : List (Piece ws.length N)) (W : World) : Prop := IB w w1 ws v V K N pre W ∧ Below w.heap.size w W
/-- a round has left: it has drawn, or a piece is cut off -/
def XB (w w1 : World) (ws : List Nat) (V K N : Nat) (c : Code) (pre : List (Piece ws.length N)) (W : World) : Prop :=
  ∃ ini x, pre = ini ++ [x] ∧ (∀ y ∈ ini, FailP V K ws y) ∧
    ((c = .ret ∧ x.1.2 = N ∧ val (pieceW ws x) % 2 ^ K < V ∧ ∃ A c', Boxed W (w.heap.size + 1) 23 (.slice A (limbs (val (pieceW ws x) % 2 ^ K)).length c') ∧
        Boxed W (w.heap.size + 1 + 1) 3 (.int .i64 ((N * ini.length + N : Nat) : Int)) ∧ Boxed W (w.heap.size + 1 + 1 + 1) 25 (.int .i64 0) ∧
        Nums .u32 W A (limbs (val (pieceW ws x) % 2 ^ K)).length c' (limbs (val (pieceW ws x) % 2 ^ K))) ∨
     (c = .exit 1 ∧ x.1.2 < N ∧ ∃ v, Vars w W v))
def XBel (w w1 : World) (ws : List Nat) (V K N : Nat) (c : Code) (pre : List (Piece ws.length N)) (W : World) : Prop := XB w w1 ws V K N c pre W ∧ Below w.heap.size w W

theorem boxed_keeps {W W' : World} {row : Option Nat} {B : Nat} {t : TypeId} {v : Value} (h : Boxed W B t v) (hg : W.grownBy W' row) (hr : ∀ r, row = some r → ∃ o : Obj, W.heap[r]? = some o ∧ o.isCells = false) : Boxed W' B t v := by
  refine Boxed.kept h hg fun e => ?_
  obtain ⟨o, ho, hc⟩ := hr B e.symm
  rw [show W.heap[B]? = _ from h] at ho
  cases ho
  cases hc
theorem vars_keeps {w W W' : World} {row : Option Nat} {v : Value} (h : Vars w W v) (hg : W.grownBy W' row) (hr : ∀ r, row = some r → ∃ o : Obj, W.heap[r]? = some o ∧ o.isCells = false) : Vars w W' v :=
  ⟨boxed_keeps h.b hg hr, boxed_keeps h.r0 hg hr, boxed_keeps h.r1 hg hr, boxed_keeps h.r2 hg hr⟩
theorem nums_keeps {W W' : World} {row : Option Nat} {k : IntKind} {A : Option Addr} {n c : Nat} {xs : List Nat} (h : Nums k W A n c xs) (hg : W.grownBy W' row) (hr : ∀ r, row = some r → ∃ o : Obj, W.heap[r]? = some o ∧ o.isCells = false) : Nums k W' A n c xs := by
  refine ⟨h.1, h.2.1, h.2.2.1, fun hn => ?_⟩
  obtain ⟨b, off, e, hb, hc⟩ := h.2.2.2 hn
  exact ⟨b, off, e, Nat.lt_of_lt_of_le hb hg.size, fun j hj => by
    obtain ⟨v, hv⟩ : ∃ v, (nums k xs)[j]? = some v := ⟨_, List.getElem?_eq_getElem hj⟩
    rw [hv]
    exact cell_kept ((hc j hj).trans hv) hg hr⟩
theorem ib_own (w w1 : World) (ws : List Nat) (v : Value) (V K N : Nat) : _root_.Go.Own (fun pre W => IB w w1 ws v V K N pre W) := fun pre A B row h hg hr =>
  ⟨vars_keeps h.vars hg hr, boxed_keeps h.b7 hg hr, boxed_keeps h.b8 hg hr, Nat.le_trans h.size hg.size, h.fail⟩
theorem xb_own (w w1 : World) (ws : List Nat) (V K N : Nat) (c : Code) : _root_.Go.Own (fun pre W => XB w w1 ws V K N c pre W) := fun pre A B row h hg hr => by
  obtain ⟨ini, x, e, hf, h⟩ := h
  refine ⟨ini, x, e, hf, ?_⟩
  rcases h with ⟨hc, hx, hv, A', c', h1, h2, h3, h4⟩ | ⟨hc, hx, v, h⟩
  · exact .inl ⟨hc, hx, hv, A', c', boxed_keeps h1 hg hr, boxed_keeps h2 hg hr, boxed_keeps h3 hg hr, nums_keeps h4 hg hr⟩
  · exact .inr ⟨hc, hx, v, vars_keeps h hg hr⟩

theorem vars_far {w W : World} {v : Value} (h : Vars w W v) {b : Nat} (hb : w.heap.size + 1 + 1 + 1 < b) (u : Value) : Vars w (W.setCell ⟨b, 0, none⟩ u) v :=
  ⟨Boxed.far h.b (by omega) u, Boxed.far h.r0 (by omega) u, Boxed.far h.r1 (by omega) u, Boxed.far h.r2 (by omega) u⟩
theorem keeps_below {W W' : World} (h : Below W.heap.size W W') : KeepsOthers W W' := ⟨h.size, fun k o hk _ => (h.block k (Array.getElem?_eq_some_iff.1 hk).1).trans hk⟩
theorem keep2_far {a b c : Nat} (W : World) (ha : a ≠ c) (hb : b ≠ c) (u : Value) : Keep2 a b W (W.setCell ⟨c, 0, none⟩ u) := ⟨Below.heap_setCell _ _ _ _ ha, Below.heap_setCell _ _ _ _ hb⟩
theorem keep2_below {a b : Nat} {W W' : World} (h : Below W.heap.size W W') (ha : a < W.heap.size) (hb : b < W.heap.size) : Keep2 a b W W' := ⟨h.block a ha, h.block b hb⟩

theorem nums_far_box {W : World} {A : Option Addr} {n c : Nat} {xs : List Nat} {B : Nat} {t : TypeId} {v : Value} (h : Nums .u32 W A n c xs) (hb : Boxed W B t v) (hv : ∀ x, v ≠ .int .u32 x) (u : Value) :
    Nums .u32 (W.setCell ⟨B, 0, none⟩ u) A n c xs := by
  refine ⟨h.1, h.2.1, h.2.2.1, fun hn => ?_⟩
  obtain ⟨b, off, e, hlt, hc⟩ := h.2.2.2 hn
  refine ⟨b, off, e, by simpa [World.setCell] using hlt, fun j hj => ?_⟩
  have hcj := hc j hj
  have hne : b ≠ B := by
    rintro rfl
    have hb' : W.heap[b]? = _ := hb
    have hx : ∃ x, (nums .u32 xs)[j]? = some (.int .u32 x) := by
      simp only [nums, List.length_map] at hj
      exact ⟨((xs[j] : Nat) : Int), by simp [nums, List.getElem?_eq_getElem hj]⟩
    obtain ⟨x, hx⟩ := hx
    rw [hx] at hcj
    simp only [World.cell?, hb'] at hcj
    rcases Nat.eq_zero_or_pos (off + j) with h0 | h0
    · rw [h0] at hcj
      simp at hcj
      exact hv x hcj
    · rw [Array.getElem?_eq_none (by simp; omega)] at hcj
      cases hcj
  rw [← hcj]
  exact World.cell?_of_block (a := ⟨b, off + j, none⟩) (Below.heap_setCell W ⟨B, 0, none⟩ u b hne)
theorem nums_sets {w W : World} {v : Value} (h : Vars w W v) {A : Option Addr} {n c' : Nat} {xs : List Nat} (hx : Nums .u32 W A n c' xs) (a b c : Value) :
    Nums .u32 (((W.setCell ⟨w.heap.size + 1, 0, none⟩ a).setCell ⟨w.heap.size + 1 + 1, 0, none⟩ b).setCell ⟨w.heap.size + 1 + 1 + 1, 0, none⟩ c) A n c' xs := by
  have h1 := nums_far_box hx h.r0 (fun _ e => by cases e) a
  have h2 := nums_far_box h1 (Boxed.far h.r1 (by omega) a) (fun _ e => by cases e) b
  exact nums_far_box h2 (Boxed.far (Boxed.far h.r2 (by omega) a) (by omega) b) (fun _ e => by cases e) c

set_option maxRecDepth 100000 in
set_option maxHeartbeats 2000000 in
theorem draw_below_loop (A1 : Option Addr) (n c1 : Nat) (xs : List Nat) (A2 : Option Addr) (m c2 : Nat) (ws : List Nat) (w : World)
    (h1 : Nums .u32 w A1 n c1 xs) (h2 : Nums .u32 w A2 m c2 ws) (lx : Lim xs) (lw : Lim ws)
    (r1 : rightB xs = true) (hx0 : xs.length ≠ 0) (hw : ws.length ≤ 1000) (hn0 : needN xs ≠ 0) :
    Calls Try.prog 16 #[.slice A1 n c1, .slice A2 m c2] w (RetDraw w (belowN xs ws)) := by
  obtain rfl := h1.len
  obtain rfl := h2.len
  have hxi : ((xs.length : Int) == 0) = false := by rw [beq_eq_false_iff_ne]; omega
  have hni : ((needN xs : Int) == 0) = false := by rw [beq_eq_false_iff_ne]; omega
  have hfin : belowN xs ws = drawF (val xs) (sizeN xs) (needN xs) (ws.length + 1) 0 ws := by simp [belowN, r1, hx0, hn0]; omega
  have hsz := sizeN_le xs lx
  have hnb := need_bits xs hn0
  have hnl : needN xs ≤ 32 := by omega
  obtain ⟨N, HN⟩ : ∃ N, Hid (needN xs = N) := ⟨_, Lib.hid rfl⟩
  obtain ⟨K, HK⟩ : ∃ K, Hid (sizeN xs = K) := ⟨_, Lib.hid rfl⟩
  rw [HN.out, HK.out] at hfin
  rw [HN.out] at hni hn0 hnl
  rw [HK.out] at hsz
  rw [HN.out, HK.out] at hnb
  rw [hfin]
  clear hfin
  have hpos : 0 < N := by omega
  obtain ⟨b, off, hA⟩ : ∃ b off, 0 < ws.length → A2 = some ⟨b, off, none⟩ := by
    rcases Nat.eq_zero_or_pos ws.length with h | h
    · exact ⟨0, 0, fun h' => by omega⟩
    · obtain ⟨b, off, e, _⟩ := h2.at_ h
      exact ⟨b, off, fun _ => e⟩
  have hc2 := h2.cap
  refine (callsIn_wide (n := 5)).1 ?_
  refine callsIn_of_wp_marks Try.func16 rfl trivial ?_ rfl
  simp only [Try.ntmps16, List.size_toArray, List.length_cons, List.length_nil, Nat.reduceAdd, Nat.reduceSub, Array.replicate_succ, Array.replicate_zero, List.push_toArray, List.append_toArray, List.nil_append, List.cons_append]
  gi_wp2_with (first
    | (refine ⟨trivial, ?_⟩; gi_at_call 30; (with_reducible refine (callsIn_wide.2 (nat_right _ _ _ _ _ (h1.below (below_new _ _)))).mono ?_); rintro e w' ⟨rfl, rfl⟩)
    | (refine ⟨trivial, ?_⟩; gi_at_call 19; (with_reducible refine (callsIn_wide.2 (draw_need _ _ _ _ _ (h1.below (below_new _ _)) lx)).mono ?_); rintro e w1 ⟨rfl, hB1⟩; have hV := vars_below (vars_new w _) hB1; have hz := hB1.size; rw [size_new] at hz; have hBw := (below_new w (.slice A1 xs.length c1)).trans (hB1.mono (by rw [size_new]; omega)); clear hB1; rw [HN.out])
    | (refine ⟨trivial, ?_⟩; gi_at_call 45; (with_reducible refine (callsIn_wide.2 (chunk_in _ _ _ _ hpos _)).mono ?_); rintro e w2 ⟨rfl, rfl⟩))
  -- the boxes where the loop begins
  have b7 := Boxed.new w1 3 (.int .i64 (N : Int))
  have b8 := Boxed.new (w1.alloc (.cells #[.int .i64 (N : Int)] 3)) 3 (.int .i64 0)
  have bs := Boxed.new ((w1.alloc (.cells #[.int .i64 (N : Int)] 3)).alloc (.cells #[.int .i64 0] 3)) 22 (.slice A2 ws.length c2)
  have bn := Boxed.new (((w1.alloc (.cells #[.int .i64 (N : Int)] 3)).alloc (.cells #[.int .i64 0] 3)).alloc (.cells #[.slice A2 ws.length c2] 22)) 3 (.int .i64 (N : Int))
  simp only [World.size_alloc] at b8 bs bn
  have b7 := ((b7.alloc (.cells #[.int .i64 0] 3)).alloc (.cells #[.slice A2 ws.length c2] 22)).alloc (.cells #[.int .i64 (N : Int)] 3)
  have b8 := (b8.alloc (.cells #[.slice A2 ws.length c2] 22)).alloc (.cells #[.int .i64 (N : Int)] 3)
  have bs := bs.alloc (.cells #[.int .i64 (N : Int)] 3)
  have hU := vars_alloc (vars_alloc (vars_alloc (vars_alloc hV (.cells #[.int .i64 (N : Int)] 3)) (.cells #[.int .i64 0] 3)) (.cells #[.slice A2 ws.length c2] 22)) (.cells #[.int .i64 (N : Int)] 3)
  have hBS : Below w.heap.size w ((((w1.alloc (.cells #[.int .i64 (N : Int)] 3)).alloc (.cells #[.int .i64 0] 3)).alloc (.cells #[.slice A2 ws.length c2] 22)).alloc (.cells #[.int .i64 (N : Int)] 3)) :=
    ((((hBw.alloc (by omega) _).alloc (by simp <;> omega) _).alloc (by simp <;> omega) _).alloc (by simp <;> omega) _)
  have hsz0 : ((((w1.alloc (.cells #[.int .i64 (N : Int)] 3)).alloc (.cells #[.int .i64 0] 3)).alloc (.cells #[.slice A2 ws.length c2] 22)).alloc (.cells #[.int .i64 (N : Int)] 3)).heap.size = w1.heap.size + 1 + 1 + 1 + 1 := by simp
  generalize ((((w1.alloc (.cells #[.int .i64 (N : Int)] 3)).alloc (.cells #[.int .i64 0] 3)).alloc (.cells #[.slice A2 ws.length c2] 22)).alloc (.cells #[.int .i64 (N : Int)] 3)) = wS at *
  clear hV hBw
  refine' wpIn_rangeFunc_ownF (F := Fence.wide) (n := 5) rfl (by decide) (gf := 67) (lb := #[.pointer (some ⟨w1.heap.size + 1 + 1, 0, none⟩), .pointer (some ⟨w1.heap.size + 1 + 1 + 1, 0, none⟩)]) rfl trivial (enters_of Try.func67 (by kernel_rfl) rfl)
    (chunk_stops 4 (by decide) (w1.heap.size + 1 + 1) (w1.heap.size + 1 + 1 + 1) b off ws.length c2 N A2 hA hpos (by omega) hw hc2.1 hc2.2 wS (by omega) (by omega) bs.cell bn.cell)
    (fun h k => Keep2.t h k) (Keep2.b (by omega) (by omega)) (Below.refl _ _) (fun _ => rfl)
    (fun pre W => IBel w w1 ws (.slice A1 xs.length c1) (val xs) K N pre W)
    (fun c pre W => XBel w w1 ws (val xs) K N c pre W)
    (OwnFrom.and ((ib_own w w1 ws _ _ K N).from _) (ownFrom_below (Nat.le_refl _) (by omega)))
    (fun c => OwnFrom.and ((xb_own w w1 ws _ K N c).from _) (ownFrom_below (Nat.le_refl _) (by omega)))
    ⟨⟨hU, b7, by simpa using b8, by omega, fun x hx => by cases hx⟩, hBS⟩ _ ?_ ?_ ?_ ?_
  rotate_left
  · intro l x W Kx hK
    simp only [encP]
    gi_wp2
    exact hK
  · rintro l pre ⟨⟨px, pm⟩, hp1, hp2⟩ W ⟨⟨hV, hb7, hb8, hsz1, hfl⟩, hBW⟩ hlen
    have hnl2 : N * pre.length ≤ 1000000 := by
      have := Nat.mul_le_mul hnl (show pre.length ≤ 1000 by omega)
      omega
    obtain ⟨U, HU⟩ : ∃ U, Hid (N * pre.length = U) := ⟨_, Lib.hid rfl⟩
    rw [HU.out] at hnl2 hb8
    have k0 := Boxed.cell hV.b
    have k1 := Boxed.cell hV.r0
    have k2 := Boxed.cell hV.r1
    have k3 := Boxed.cell hV.r2
    have k7 := Boxed.cell hb7
    have k8 := Boxed.cell hb8
    have f8 := Boxed.frozen hb8
    by_cases hm : pm < N
    · gi_wp2
      exact ⟨KeepsOthers.setCell _ _ _, ⟨pre, _, rfl, hfl, .inr ⟨rfl, hm, _, vars_far hV (by omega) _⟩⟩, hBW.setCell (by simp <;> omega) _⟩
    · have hmN : pm = N := by simp at hp2; omega
      subst hmN
      have hp3 : px + pm ≤ ws.length := hp1
      have hA2 := hA (by omega)
      have h2' : Nums .u32 w (some ⟨b, off, none⟩) ws.length c2 ws := by rw [← hA2]; exact h2
      clear hA2 hm
      obtain ⟨ps, Hps⟩ : ∃ ps, Hid (pieceW ws (⟨(px, pm), hp1, hp2⟩ : Piece ws.length pm) = ps) := ⟨_, Lib.hid rfl⟩
      have Hps2 : Hid ((ws.drop px).take pm = ps) := Lib.hid Hps.out
      have hpl : ps.length = pm := by rw [← Hps2.out, List.length_take, List.length_drop]; omega
      have lp : Lim ps := by rw [← Hps2.out]; exact (lw.drop px).take pm
      have hBW2 := hBW.setCell (p := ⟨w1.heap.size + 1, 0, none⟩) (by simp <;> omega) (.int .i64 ((U : Int) + (pm : Int)))
      have hV2 := vars_far hV (b := w1.heap.size + 1) (by omega) (.int .i64 ((U : Int) + (pm : Int)))
      have hb72 := Boxed.far hb7 (b := w1.heap.size + 1) (by omega) (.int .i64 ((U : Int) + (pm : Int)))
      have hb82 := Boxed.set (.int .i64 ((U : Int) + (pm : Int))) hb8
      have hK1 := KeepsOthers.setCell W ⟨w1.heap.size + 1, 0, none⟩ (.int .i64 ((U : Int) + (pm : Int)))
      have hK2 := keep2_far (a := w1.heap.size + 1 + 1) (b := w1.heap.size + 1 + 1 + 1) (c := w1.heap.size + 1) W (by omega) (by omega) (.int .i64 ((U : Int) + (pm : Int)))
      have hz2 : (W.setCell ⟨w1.heap.size + 1, 0, none⟩ (.int .i64 ((U : Int) + (pm : Int)))).heap.size = W.heap.size := by simp
      have hpart : ∀ W', Below w.heap.size w W' → Nums .u32 W' (some ⟨b, off + px, none⟩) pm pm ps := fun W' hB' => by
        have := (h2'.below hB').part px pm pm hp3 (Nat.le_refl _) (by omega)
        rwa [Hps2.out] at this
      have Hpart := Lib.hid hpart
      clear hpart
      have k02 := Boxed.cell hV2.b
      have Hone : Hid (oneOf K ps = limbs (val ps % 2 ^ K)) := Lib.hid rfl
      have hbt := one_big K (val ps) hsz
      have Hcm := Lib.hid (one_cmp xs r1 _ hbt)
      obtain ⟨t, Ht⟩ : ∃ t, Hid (val ps % 2 ^ K = t) := ⟨_, Lib.hid rfl⟩
      rw [Ht.out] at Hone Hcm
      obtain ⟨cv, Hcv⟩ : ∃ cv, Hid (cmpN (limbs t) xs = cv) := ⟨_, Lib.hid rfl⟩
      rw [Hcv.out] at Hcm
      have hcm := Hcm.out
      rw [decide_eq_decide] at hcm
      replace Hcm := Lib.hid hcm
      have Hlt := Lib.hid (limbs_lim t)
      have Hpl := Lib.hid hpl
      clear hbt hpl
      have hnum : ∀ W', Below w.heap.size w W' → Calls Try.prog 46 #[.slice (some ⟨b, off + px, none⟩) pm pm, .int .i64 (K : Int)] W' (RetLimbs W' (limbs t)) := fun W' hB' => by
        have := draw_number _ _ _ ps K W' (Hpart.out W' hB') lp (by rw [Hpl.out]; omega) (by rw [Hpl.out]; omega) (by rw [Hpl.out]; omega) (by rw [Hpl.out]; omega)
        rwa [Hone.out] at this
      have Hnum := Lib.hid hnum
      have Hfl := Lib.hid hfl
      clear hnum hfl hcm
      by_cases hts : t < val xs
      · have hneg : cv < 0 := Hcm.out.2 hts
        have Hts := Lib.hid hts
        clear hts
        gi_wp2_with (first
          | (refine ⟨trivial, ?_⟩; gi_at_call 47; (with_reducible refine (CallsIn.inRound l (callsIn_wide.2 (draw_size _ _ _ _ _ (h1.below hBW2) lx))).mono ?_); rintro e W3 ⟨rfl, hB3⟩; rw [HK.out]; have hBW3 := hBW2.trans (hB3.mono hBW2.size); have hV3 := vars_below hV2 hB3; have hb83 := Boxed.below hb82 hB3; have hK3 := hK1.trans (keeps_below hB3); have hz3 := Nat.le_trans (Nat.le_of_eq hz2.symm) hB3.size)
          | (refine ⟨trivial, ?_⟩; gi_at_call 46; (with_reducible refine (CallsIn.inRound l (callsIn_wide.2 (Hnum.out _ hBW3))).mono ?_); rintro e W4 ⟨A4, c4, rfl, hx4, hB4⟩; have hBW4 := hBW3.trans (hB4.mono hBW3.size); have hV4 := vars_below hV3 hB4; have hb84 := Boxed.below hb83 hB4; have hK4 := hK3.trans (keeps_below hB4); have k04 := Boxed.cell hV4.b)
          | (refine ⟨trivial, ?_⟩; gi_at_call 29; (with_reducible refine (CallsIn.inRound l (callsIn_wide.2 (nat_cmp _ _ _ _ _ _ _ _ _ hx4 (h1.below hBW4) Hlt.out lx))).mono ?_); rintro e W5 ⟨rfl, hS⟩; rw [Hcv.out]; have hV5 := vars_below hV4 (hS.below _); have hb85 := Boxed.below hb84 (hS.below _); have hK5 := hK4.trans (keeps_below (hS.below _)); have hBW5 := hBW4.trans (hS.below _); have hx5 := hx4.same hS; have k15 := Boxed.cell hV5.r0; have k25 := Boxed.cell hV5.r1; have k35 := Boxed.cell hV5.r2; have f15 := Boxed.frozen hV5.r0; have f25 := Boxed.frozen hV5.r1; have f35 := Boxed.frozen hV5.r2; have k85 := Boxed.cell hb85))
        have hmix : Try.prog.follows .mixedOrders = true := by kernel_rfl
        gi_region_with_o (fail)
        all_goals gi_wp2
        all_goals
          have hS6 := vars_set hV5 (.slice A4 (limbs t).length c4) (.int .i64 ((U : Int) + (pm : Int))) (.int .i64 0)
          have hx6 := nums_sets hV5 hx5 (.slice A4 (limbs t).length c4) (.int .i64 ((U : Int) + (pm : Int))) (.int .i64 0)
          have hval : val (pieceW ws (⟨(px, pm), hp1, hp2⟩ : Piece ws.length pm)) % 2 ^ K = t := by rw [Hps.out]; exact Ht.out
          refine ⟨(((hK5.trans (KeepsOthers.setCell _ _ _)).trans (KeepsOthers.setCell _ _ _)).trans (KeepsOthers.setCell _ _ _)).trans (keeps_below ((Below.refl _ _).drew)), ⟨pre, _, rfl, Hfl.out, .inl ⟨rfl, rfl, by rw [hval]; exact Hts.out, A4, c4, ?_⟩⟩, (((hBW5.setCell (by simp <;> omega) _).setCell (by simp <;> omega) _).setCell (by simp <;> omega) _).drew⟩
          rw [hval]
          refine ⟨hS6.1, ?_, hS6.2.2, hx6⟩
          rw [HU.out]
          exact hS6.2.1
      · have hneg : 0 ≤ cv := by
          have := mt Hcm.out.1 hts
          omega
        have Hts := Lib.hid hts
        clear hts
        gi_wp2_with (first
          | (refine ⟨trivial, ?_⟩; gi_at_call 47; (with_reducible refine (CallsIn.inRound l (callsIn_wide.2 (draw_size _ _ _ _ _ (h1.below hBW2) lx))).mono ?_); rintro e W3 ⟨rfl, hB3⟩; rw [HK.out]; have hBW3 := hBW2.trans (hB3.mono hBW2.size); have hV3 := vars_below hV2 hB3; have hb83 := Boxed.below hb82 hB3; have hK3 := hK1.trans (keeps_below hB3); have hz3 := Nat.le_trans (Nat.le_of_eq hz2.symm) hB3.size)
          | (refine ⟨trivial, ?_⟩; gi_at_call 46; (with_reducible refine (CallsIn.inRound l (callsIn_wide.2 (Hnum.out _ hBW3))).mono ?_); rintro e W4 ⟨A4, c4, rfl, hx4, hB4⟩; have hBW4 := hBW3.trans (hB4.mono hBW3.size); have hV4 := vars_below hV3 hB4; have hb84 := Boxed.below hb83 hB4; have hK4 := hK3.trans (keeps_below hB4); have k04 := Boxed.cell hV4.b)
          | (refine ⟨trivial, ?_⟩; gi_at_call 29; (with_reducible refine (CallsIn.inRound l (callsIn_wide.2 (nat_cmp _ _ _ _ _ _ _ _ _ hx4 (h1.below hBW4) Hlt.out lx))).mono ?_); rintro e W5 ⟨rfl, hS⟩; rw [Hcv.out]; have hV5 := vars_below hV4 (hS.below _); have hb85 := Boxed.below hb84 (hS.below _); have hK5 := hK4.trans (keeps_below (hS.below _)); have hBW5 := hBW4.trans (hS.below _); have hx5 := hx4.same hS; have k15 := Boxed.cell hV5.r0; have k25 := Boxed.cell hV5.r1; have k35 := Boxed.cell hV5.r2; have f15 := Boxed.frozen hV5.r0; have f25 := Boxed.frozen hV5.r1; have f35 := Boxed.frozen hV5.r2; have k85 := Boxed.cell hb85))
        have hval : val (pieceW ws (⟨(px, pm), hp1, hp2⟩ : Piece ws.length pm)) % 2 ^ K = t := by rw [Hps.out]; exact Ht.out
        have hz5 : w1.heap.size + 1 + 1 + 1 + 1 ≤ W3.heap.size := Nat.le_trans hsz1 hz3
        have hz6 := Nat.le_trans hz5 hB4.size
        refine ⟨hK5, ?_, ⟨hV5, Boxed.below (Boxed.below (Boxed.below hb72 hB3) hB4) (hS.below _), ?_, Nat.le_trans hz6 (hS.below W4.heap.size).size, fun y hy => ?_⟩, hBW5⟩
        · exact Keep2.t (Keep2.t (Keep2.t hK2 (keep2_below hB3 (by omega) (by omega))) (keep2_below hB4 (by omega) (by omega))) (keep2_below (hS.below _) (by omega) (by omega))
        · have e : pm * (pre ++ [(⟨(px, pm), hp1, hp2⟩ : Piece ws.length pm)]).length = U + pm := by rw [List.length_append, List.length_singleton, Nat.mul_add, HU.out, Nat.mul_one]
          rw [e]
          exact hb85
        · rcases List.mem_append.1 hy with h | h
          · exact Hfl.out y h
          · obtain rfl := List.mem_singleton.1 h
            exact ⟨rfl, by rw [hval]; exact Hts.out⟩
  · rintro D ys W hD ⟨k, hk, rfl⟩ ⟨⟨hV, hb7, hb8, hsz1, hfl⟩, hBW⟩ hK
    have Hd := Lib.hid (drawF_done hpos rfl hk hfl)
    have Hfl := Lib.hid hfl
    have k1 := Boxed.cell hV.r0
    have k2 := Boxed.cell hV.r1
    have k3 := Boxed.cell hV.r2
    have f1 := Boxed.frozen hV.r0
    have f2 := Boxed.frozen hV.r1
    have f3 := Boxed.frozen hV.r2
    clear hfl hk
    gi_wp2
    have hS := vars_set hV (.slice none 0 0) (.int .i64 0) (.int .i64 12)
    have hK3 := (((KeepsOthers.setCell W ⟨w.heap.size + 1, 0, none⟩ (.slice none 0 0)).trans (KeepsOthers.setCell _ ⟨w.heap.size + 1 + 1, 0, none⟩ (.int .i64 0))).trans (KeepsOthers.setCell _ ⟨w.heap.size + 1 + 1 + 1, 0, none⟩ (.int .i64 12))).same D _ hK rfl
    have z0 := cell_kept (Boxed.cell hS.1) (grownBy_putObj' _ D (.deferred none)) (fun r e => by cases e; exact ⟨_, hK3, rfl⟩)
    have z1 := cell_kept (Boxed.cell hS.2.1) (grownBy_putObj' _ D (.deferred none)) (fun r e => by cases e; exact ⟨_, hK3, rfl⟩)
    have z2 := cell_kept (Boxed.cell hS.2.2) (grownBy_putObj' _ D (.deferred none)) (fun r e => by cases e; exact ⟨_, hK3, rfl⟩)
    refine ⟨by simp, .inl ⟨_, _, rfl, run_takeDeferred hK3, ?_⟩⟩
    refine ⟨.tuple #[.slice none 0 0, .int .i64 0, .int .i64 12], ?_, ?_⟩
    · simp [results, Try.f16, go_sem, z0, z1, z2]
    · unfold RetDraw
      rw [Hd.out]
      exact ⟨none, 0, rfl, Nums.nil _ _ _ 0 (by decide), (((hBW.setCell (p := ⟨w.heap.size + 1, 0, none⟩) (by show w.heap.size ≤ w.heap.size + 1; omega) (.slice none 0 0)).setCell (p := ⟨w.heap.size + 1 + 1, 0, none⟩) (by show w.heap.size ≤ w.heap.size + 1 + 1; omega) (.int .i64 0)).setCell (p := ⟨w.heap.size + 1 + 1 + 1, 0, none⟩) (by show w.heap.size ≤ w.heap.size + 1 + 1 + 1; omega) (.int .i64 12)).trans (belowK_b (w := w) (Nat.le_refl _) _ D _ _ (by omega) hK3 rfl rfl)⟩
  · rintro D c pre W hD ⟨k, rfl⟩ ⟨⟨ini, x, e1, hf, h⟩, hBW⟩ hK
    obtain ⟨k, rfl⟩ : ∃ k', k = k' + 1 := by
      cases k with
      | zero => simp [pieces] at e1
      | succ k' => exact ⟨k', rfl⟩
    rw [pieces_succ] at e1
    obtain ⟨rfl, e5⟩ := List.append_inj' e1 rfl
    obtain rfl : piece ws.length N k = x := by simpa using e5
    clear e1 e5
    rcases h with ⟨rfl, hx, hv, A', c', g1, g2, g3, g4⟩ | ⟨rfl, hx, v, hV⟩
    · have Hd := Lib.hid (drawF_drawn hpos rfl hf hx hv)
      rw [pieces_length] at g2
      generalize val (pieceW ws (piece ws.length N k)) % 2 ^ K = t at *
      have Hf := Lib.hid hf
      have Hx := Lib.hid hx
      clear hf hx
      gi_wp2
      have z0 := cell_kept (Boxed.cell g1) (grownBy_putObj' _ D (.deferred none)) (fun r e => by cases e; exact ⟨_, hK, rfl⟩)
      have z1 := cell_kept (Boxed.cell g2) (grownBy_putObj' _ D (.deferred none)) (fun r e => by cases e; exact ⟨_, hK, rfl⟩)
      have z2 := cell_kept (Boxed.cell g3) (grownBy_putObj' _ D (.deferred none)) (fun r e => by cases e; exact ⟨_, hK, rfl⟩)
      have z4 := nums_keeps g4 (grownBy_putObj' _ D (.deferred none)) (fun r e => by cases e; exact ⟨_, hK, rfl⟩)
      refine ⟨by simp, .inl ⟨_, _, rfl, run_takeDeferred hK, ?_⟩⟩
      refine ⟨.tuple #[.slice A' (limbs t).length c', .int .i64 ((N * k + N : Nat) : Int), .int .i64 0], ?_, ?_⟩
      · simp [results, Try.f16, go_sem, z0, z1, z2]
      · unfold RetDraw
        rw [Hd.out]
        exact ⟨A', c', rfl, z4, hBW.trans (belowK_b (w := w) (Nat.le_refl _) _ D _ _ (by omega) hK rfl rfl)⟩
    · have Hd := Lib.hid (drawF_cut hpos rfl hf hx)
      have Hf := Lib.hid hf
      have Hx := Lib.hid hx
      clear hf hx
      have k1 := Boxed.cell hV.r0
      have k2 := Boxed.cell hV.r1
      have k3 := Boxed.cell hV.r2
      have f1 := Boxed.frozen hV.r0
      have f2 := Boxed.frozen hV.r1
      have f3 := Boxed.frozen hV.r2
      gi_wp2
      have hS := vars_set hV (.slice none 0 0) (.int .i64 0) (.int .i64 12)
      have hK3 := (((KeepsOthers.setCell W ⟨w.heap.size + 1, 0, none⟩ (.slice none 0 0)).trans (KeepsOthers.setCell _ ⟨w.heap.size + 1 + 1, 0, none⟩ (.int .i64 0))).trans (KeepsOthers.setCell _ ⟨w.heap.size + 1 + 1 + 1, 0, none⟩ (.int .i64 12))).same D _ hK rfl
      have z0 := cell_kept (Boxed.cell hS.1) (grownBy_putObj' _ D (.deferred none)) (fun r e => by cases e; exact ⟨_, hK3, rfl⟩)
      have z1 := cell_kept (Boxed.cell hS.2.1) (grownBy_putObj' _ D (.deferred none)) (fun r e => by cases e; exact ⟨_, hK3, rfl⟩)
      have z2 := cell_kept (Boxed.cell hS.2.2) (grownBy_putObj' _ D (.deferred none)) (fun r e => by cases e; exact ⟨_, hK3, rfl⟩)
      refine ⟨by simp, .inl ⟨_, _, rfl, run_takeDeferred hK3, ?_⟩⟩
      refine ⟨.tuple #[.slice none 0 0, .int .i64 0, .int .i64 12], ?_, ?_⟩
      · simp [results, Try.f16, go_sem, z0, z1, z2]
      · unfold RetDraw
        rw [Hd.out]
        exact ⟨none, 0, rfl, Nums.nil _ _ _ 0 (by decide), (((hBW.setCell (p := ⟨w.heap.size + 1, 0, none⟩) (by show w.heap.size ≤ w.heap.size + 1; omega) (.slice none 0 0)).setCell (p := ⟨w.heap.size + 1 + 1, 0, none⟩) (by show w.heap.size ≤ w.heap.size + 1 + 1; omega) (.int .i64 0)).setCell (p := ⟨w.heap.size + 1 + 1 + 1, 0, none⟩) (by show w.heap.size ≤ w.heap.size + 1 + 1 + 1; omega) (.int .i64 12)).trans (belowK_b (w := w) (Nat.le_refl _) _ D _ _ (by omega) hK3 rfl rfl)⟩

theorem draw_below (A1 : Option Addr) (n c1 : Nat) (xs : List Nat) (A2 : Option Addr) (m c2 : Nat) (ws : List Nat) (w : World)
    (h1 : Nums .u32 w A1 n c1 xs) (h2 : Nums .u32 w A2 m c2 ws) (lx : Lim xs) (lw : Lim ws) :
    Calls Try.prog 16 #[.slice A1 n c1, .slice A2 m c2] w (RetDraw w (belowN xs ws)) := by
  by_cases he : rightB xs = false ∨ xs.length = 0 ∨ 1000 < ws.length ∨ needN xs = 0
  · exact draw_below_early A1 n c1 xs A2 m c2 ws w h1 h2 lx lw he
  · rw [not_or, not_or, not_or] at he
    exact draw_below_loop A1 n c1 xs A2 m c2 ws w h1 h2 lx lw (by simpa using he.1) he.2.1 (by omega) he.2.2.2
end Go.Proofs.Ytapnnnciaagbdaa
