/- draw: Below: plain words, and the ways that end early. -/
import Derived.Test.YtapnnnciaagbdaaDrW6
namespace Go.Proofs.Ytapnnnciaagbdaa
open Go.RowKit Go.Shelf
set_option linter.unusedVariables false
set_option linter.unusedSimpArgs false

theorem drawF_skip (v K N : Nat) (ws : List Nat) (hN : 0 < N) (k : Nat)
    (h : ∀ j, j < k → N * (j + 1) ≤ ws.length ∧ ¬ val ((ws.drop (N * j)).take N) % 2 ^ K < v) (f : Nat) :
    drawF v K N (f + k) 0 ws = drawF v K N f (N * k) (ws.drop (N * k)) := by
  induction k generalizing f with
  | zero => simp
  | succ k ih =>
    have e : f + (k + 1) = (f + 1) + k := by omega
    obtain ⟨h1, h2⟩ := h k (by omega)
    rw [e, ih (fun j hj => h j (by omega)), drawF, List.length_drop, if_pos (by rw [Nat.mul_add] at h1; omega), if_neg h2, List.drop_drop, Nat.mul_add, Nat.mul_one]

theorem piece_full {L N k : Nat} (hN : 0 < N) (h : (piece L N k).1.2 = N) : (piece L N k).1 = (N * k, N) ∧ N * (k + 1) ≤ L := by
  have h' : min N (L - N * k) = N := h
  rw [Nat.mul_add, Nat.mul_one]
  refine ⟨?_, by omega⟩
  show (min (N * k) L, min N (L - N * k)) = _
  rw [Nat.min_eq_left (by omega), h']

/-- a piece's words, and that they draw nothing -/
def pieceW (ws : List Nat) {L N : Nat} (x : Piece L N) : List Nat := (ws.drop x.1.1).take x.1.2
def FailP (v K : Nat) (ws : List Nat) {L N : Nat} (x : Piece L N) : Prop := x.1.2 = N ∧ ¬ val (pieceW ws x) % 2 ^ K < v

theorem pieces_mem {L N k j : Nat} (h : j < k) : piece L N j ∈ pieces L N k := List.mem_map.2 ⟨j, List.mem_range.2 h, rfl⟩

theorem fail_all {v K N : Nat} {ws : List Nat} {L k : Nat} (hN : 0 < N) (hL : ws.length = L) (h : ∀ x ∈ pieces L N k, FailP v K ws x) :
    ∀ j, j < k → N * (j + 1) ≤ ws.length ∧ ¬ val ((ws.drop (N * j)).take N) % 2 ^ K < v := by
  intro j hj
  obtain ⟨h1, h2⟩ := h _ (pieces_mem hj)
  obtain ⟨h3, h4⟩ := piece_full hN h1
  unfold pieceW at h2
  rw [h3] at h2
  exact ⟨by rw [hL]; exact h4, h2⟩

theorem fail_len {N L k : Nat} (hN : 0 < N) {ws : List Nat} {v K : Nat} (hL : ws.length = L) (h : ∀ x ∈ pieces L N k, FailP v K ws x) : N * k ≤ L ∧ k ≤ L := by
  rcases Nat.eq_zero_or_pos k with h0 | h0
  · subst h0; simp
  · have := (fail_all hN hL h (k - 1) (by omega)).1
    rw [show k - 1 + 1 = k from by omega, hL] at this
    exact ⟨this, Nat.le_trans (Nat.le_mul_of_pos_left k hN) this⟩

/-- all pieces have come, and none has drawn -/
theorem drawF_done {v K N L k : Nat} {ws : List Nat} (hN : 0 < N) (hL : ws.length = L) (hk : L ≤ N * k) (h : ∀ x ∈ pieces L N k, FailP v K ws x) :
    drawF v K N (ws.length + 1) 0 ws = ([], 0, 12) := by
  obtain ⟨h1, h2⟩ := fail_len hN hL h
  have := drawF_skip v K N ws hN k (fail_all hN hL h) (ws.length + 1 - k)
  rw [show ws.length + 1 - k + k = ws.length + 1 from by omega] at this
  rw [this, show ws.length + 1 - k = (ws.length - k) + 1 from by omega, drawF, List.length_drop, if_neg (by omega)]

/-- a piece is cut off -/
theorem drawF_cut {v K N L k : Nat} {ws : List Nat} (hN : 0 < N) (hL : ws.length = L) (h : ∀ x ∈ pieces L N k, FailP v K ws x) (hc : (piece L N k).1.2 < N) :
    drawF v K N (ws.length + 1) 0 ws = ([], 0, 12) := by
  obtain ⟨h1, h2⟩ := fail_len hN hL h
  have := drawF_skip v K N ws hN k (fail_all hN hL h) (ws.length + 1 - k)
  rw [show ws.length + 1 - k + k = ws.length + 1 from by omega] at this
  have hc' : min N (L - N * k) < N := hc
  rw [this, show ws.length + 1 - k = (ws.length - k) + 1 from by omega, drawF, List.length_drop, if_neg (by omega)]

/-- a piece draws -/
theorem drawF_drawn {v K N L k : Nat} {ws : List Nat} (hN : 0 < N) (hL : ws.length = L) (h : ∀ x ∈ pieces L N k, FailP v K ws x) (hc : (piece L N k).1.2 = N) (hv : val (pieceW ws (piece L N k)) % 2 ^ K < v) :
    drawF v K N (ws.length + 1) 0 ws = (limbs (val (pieceW ws (piece L N k)) % 2 ^ K), N * k + N, 0) := by
  obtain ⟨h1, h2⟩ := fail_len hN hL h
  have := drawF_skip v K N ws hN k (fail_all hN hL h) (ws.length + 1 - k)
  rw [show ws.length + 1 - k + k = ws.length + 1 from by omega] at this
  obtain ⟨h3, h4⟩ := piece_full hN hc
  unfold pieceW at hv ⊢
  rw [h3] at hv ⊢
  rw [Nat.mul_add, Nat.mul_one] at h4
  rw [this, show ws.length + 1 - k = (ws.length - k) + 1 from by omega, drawF, List.length_drop, if_pos (by omega), if_pos hv]

theorem Boxed.below {W W' : World} {B : Nat} {t : TypeId} {v : Value} (h : Boxed W B t v) (hb : Below W.heap.size W W') : Boxed W' B t v := (hb.block B h.lt).trans h

/-- the variables' boxes -/
structure Vars (w W : World) (v : Value) : Prop where
  b : Boxed W w.heap.size 23 v
  r0 : Boxed W (w.heap.size + 1) 23 (.slice none 0 0)
  r1 : Boxed W (w.heap.size + 1 + 1) 3 (.int .i64 0)
  r2 : Boxed W (w.heap.size + 1 + 1 + 1) 25 (.int .i64 0)
theorem vars_new (w : World) (v : Value) : Vars w ((((w.alloc (.cells #[v] 23)).alloc (.cells #[.slice none 0 0] 23)).alloc (.cells #[.int .i64 0] 3)).alloc (.cells #[.int .i64 0] 25)) v := by
  have h0 := Boxed.new w 23 v
  have h1 := Boxed.new (w.alloc (.cells #[v] 23)) 23 (.slice none 0 0)
  have h2 := Boxed.new ((w.alloc (.cells #[v] 23)).alloc (.cells #[.slice none 0 0] 23)) 3 (.int .i64 0)
  have h3 := Boxed.new (((w.alloc (.cells #[v] 23)).alloc (.cells #[.slice none 0 0] 23)).alloc (.cells #[.int .i64 0] 3)) 25 (.int .i64 0)
  simp only [World.size_alloc] at h1 h2 h3
  exact ⟨((h0.alloc _).alloc _).alloc _, (h1.alloc _).alloc _, h2.alloc _, h3⟩
theorem vars_below {w W W' : World} {v : Value} (h : Vars w W v) (hb : Below W.heap.size W W') : Vars w W' v := ⟨Boxed.below h.b hb, Boxed.below h.r0 hb, Boxed.below h.r1 hb, Boxed.below h.r2 hb⟩
theorem vars_alloc {w W : World} {v : Value} (h : Vars w W v) (o : Obj) : Vars w (W.alloc o) v := ⟨Boxed.alloc h.b o, Boxed.alloc h.r0 o, Boxed.alloc h.r1 o, Boxed.alloc h.r2 o⟩
theorem below_new (w : World) (v : Value) : Below w.heap.size w ((((w.alloc (.cells #[v] 23)).alloc (.cells #[.slice none 0 0] 23)).alloc (.cells #[.int .i64 0] 3)).alloc (.cells #[.int .i64 0] 25)) :=
  (((((Below.refl _ _).alloc (Nat.le_refl _) _).alloc (by simp) _).alloc (by simp; omega) _).alloc (by simp; omega) _)
theorem size_new (w : World) (v : Value) : ((((w.alloc (.cells #[v] 23)).alloc (.cells #[.slice none 0 0] 23)).alloc (.cells #[.int .i64 0] 3)).alloc (.cells #[.int .i64 0] 25)).heap.size = w.heap.size + 1 + 1 + 1 + 1 := by simp

theorem Boxed.far {W : World} {B b : Nat} {t : TypeId} {v : Value} (h : Boxed W B t v) (hne : B ≠ b) (u : Value) : Boxed (W.setCell ⟨b, 0, none⟩ u) B t v := Boxed.kept h (grownBy_setCell' W b u) (by simpa using hne)
/-- the three results are laid -/
theorem vars_set {w W : World} {v : Value} (h : Vars w W v) (a b c : Value) :
    Boxed (((W.setCell ⟨w.heap.size + 1, 0, none⟩ a).setCell ⟨w.heap.size + 1 + 1, 0, none⟩ b).setCell ⟨w.heap.size + 1 + 1 + 1, 0, none⟩ c) (w.heap.size + 1) 23 a ∧
    Boxed (((W.setCell ⟨w.heap.size + 1, 0, none⟩ a).setCell ⟨w.heap.size + 1 + 1, 0, none⟩ b).setCell ⟨w.heap.size + 1 + 1 + 1, 0, none⟩ c) (w.heap.size + 1 + 1) 3 b ∧
    Boxed (((W.setCell ⟨w.heap.size + 1, 0, none⟩ a).setCell ⟨w.heap.size + 1 + 1, 0, none⟩ b).setCell ⟨w.heap.size + 1 + 1 + 1, 0, none⟩ c) (w.heap.size + 1 + 1 + 1) 25 c := by
  refine ⟨?_, ?_, ?_⟩
  · exact Boxed.far (Boxed.far (Boxed.set a h.r0) (by omega) _) (by omega) _
  · exact Boxed.far (Boxed.set b (Boxed.far h.r1 (by omega) _)) (by omega) _
  · exact Boxed.set c (Boxed.far (Boxed.far h.r2 (by omega) _) (by omega) _)

set_option maxHeartbeats 1000000 in
theorem draw_below_early (A1 : Option Addr) (n c1 : Nat) (xs : List Nat) (A2 : Option Addr) (m c2 : Nat) (ws : List Nat) (w : World)
    (h1 : Nums .u32 w A1 n c1 xs) (h2 : Nums .u32 w A2 m c2 ws) (lx : Lim xs) (lw : Lim ws)
    (he : rightB xs = false ∨ xs.length = 0 ∨ 1000 < ws.length ∨ needN xs = 0) :
    Calls Try.prog 16 #[.slice A1 n c1, .slice A2 m c2] w (RetDraw w (belowN xs ws)) := by
  obtain rfl := h1.len
  obtain rfl := h2.len
  by_cases r1 : rightB xs = true
  case neg =>
    have r1' : rightB xs = false := by simpa using r1
    have hfin : belowN xs ws = ([], 0, 1) := by simp [belowN, r1']
    clear r1 he
    rw [hfin]
    clear hfin
    go_enter Try.func16, Try.ntmps16
    go_wp2_with ((go_at_call 30; (with_reducible refine (nat_right _ _ _ _ _ (h1.below (below_new _ _))).mono ?_); rintro e w' ⟨rfl, rfl⟩))
    refine bodyPost_ret (v := .tuple #[.slice none 0 0, .int .i64 0, .int .i64 1]) (by simp [results, Try.results16, go_sem]) rfl ?_
    unfold RetDraw
    exact ⟨none, 0, rfl, Nums.nil _ _ _ _ (by simp), (((((Below.refl _ _).alloc (Nat.le_refl _) _).alloc (by simp) _).alloc (by simp; omega) _).alloc (by simp; omega) _)⟩
  by_cases hx0 : xs.length = 0
  case pos =>
    have hfin : belowN xs ws = ([], 0, 1) := by simp [belowN, hx0]
    have hxi : ((xs.length : Int) == 0) = true := by simp [hx0]
    clear hx0 he
    rw [hfin]
    clear hfin
    go_enter Try.func16, Try.ntmps16
    go_wp2_with ((go_at_call 30; (with_reducible refine (nat_right _ _ _ _ _ (h1.below (below_new _ _))).mono ?_); rintro e w' ⟨rfl, rfl⟩))
    refine bodyPost_ret (v := .tuple #[.slice none 0 0, .int .i64 0, .int .i64 1]) (by simp [results, Try.results16, go_sem]) rfl ?_
    unfold RetDraw
    exact ⟨none, 0, rfl, Nums.nil _ _ _ _ (by simp), (((((Below.refl _ _).alloc (Nat.le_refl _) _).alloc (by simp) _).alloc (by simp; omega) _).alloc (by simp; omega) _)⟩
  have hxi : ((xs.length : Int) == 0) = false := by rw [beq_eq_false_iff_ne]; omega
  by_cases hw : 1000 < ws.length
  case pos =>
    have hfin : belowN xs ws = ([], 0, 5) := by simp [belowN, r1, hx0, hw]
    clear he
    rw [hfin]
    clear hfin
    go_enter Try.func16, Try.ntmps16
    go_wp2_with ((go_at_call 30; (with_reducible refine (nat_right _ _ _ _ _ (h1.below (below_new _ _))).mono ?_); rintro e w' ⟨rfl, rfl⟩))
    refine bodyPost_ret (v := .tuple #[.slice none 0 0, .int .i64 0, .int .i64 5]) (by simp [results, Try.results16, go_sem]) rfl ?_
    unfold RetDraw
    exact ⟨none, 0, rfl, Nums.nil _ _ _ _ (by simp), (((((Below.refl _ _).alloc (Nat.le_refl _) _).alloc (by simp) _).alloc (by simp; omega) _).alloc (by simp; omega) _)⟩
  have hn0 : needN xs = 0 := by
    rcases he with h | h | h | h
    · rw [r1] at h; cases h
    · omega
    · omega
    · exact h
  · have hfin : belowN xs ws = ([], 0, 0) := by simp [belowN, r1, hx0, hw, hn0]
    have hni : ((needN xs : Int) == 0) = true := by simp [hn0]
    clear he hn0
    rw [hfin]
    clear hfin
    go_enter Try.func16, Try.ntmps16
    go_wp2_with (first | (go_at_call 30; (with_reducible refine (nat_right _ _ _ _ _ (h1.below (below_new _ _))).mono ?_); rintro e w' ⟨rfl, rfl⟩) | (go_at_call 19; (with_reducible refine (draw_need _ _ _ _ _ (h1.below (below_new _ _)) lx).mono ?_); rintro e w1 ⟨rfl, hB1⟩; have hV := vars_below (vars_new w _) hB1; have hz := hB1.size; rw [size_new] at hz; have hBw := (below_new w (.slice A1 xs.length c1)).trans (hB1.mono (by rw [size_new]; omega)); clear hB1; have hU := vars_alloc hV (.cells #[.int .i64 ((needN xs : Nat) : Int)] 3); have k0 := Boxed.cell hU.r0; have k1 := Boxed.cell hU.r1; have k2 := Boxed.cell hU.r2; have f0 := Boxed.frozen hU.r0; have f1 := Boxed.frozen hU.r1; have f2 := Boxed.frozen hU.r2))
    have hS := vars_set hU (.slice none 0 0) (.int .i64 0) (.int .i64 0)
    have z0 := Boxed.cell hS.1
    have z1 := Boxed.cell hS.2.1
    have z2 := Boxed.cell hS.2.2
    refine bodyPost_ret (v := .tuple #[.slice none 0 0, .int .i64 0, .int .i64 0]) (by simp [results, Try.results16, go_sem, z0, z1, z2]) rfl ?_
    unfold RetDraw
    exact ⟨none, 0, rfl, Nums.nil _ _ _ _ (by simp), ((((hBw.alloc (by omega) _).setCell (by simp <;> omega) _).setCell (by simp <;> omega) _).setCell (by simp <;> omega) _)⟩
end Go.Proofs.Ytapnnnciaagbdaa
