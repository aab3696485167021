/- draw: the fixed fact. -/
import Derived.Test.YtapnnnciaagbdaaDrPlain2
import Derived.Test.YtapnnnciaagbdaaNatL3
namespace Go.Proofs.Ytapnnnciaagbdaa
open Go.RowKit
set_option linter.unusedVariables false
set_option linter.unusedSimpArgs false

theorem draw_out {f} {vs} {w : World} {p : List Nat × Nat × Nat} (h : Calls Try.prog f vs w (RetDraw w p)) :
    Calls Try.prog f vs w (fun e w' => ∃ A c, e = .returned (.tuple #[.slice A p.1.length c, .int .i64 (p.2.1 : Int), .int .i64 (p.2.2 : Int)]) ∧ Nums .u32 w' A p.1.length c p.1 ∧ Below w.heap.size w w') :=
  h.mono fun e w' h => by unfold RetDraw at h; exact h

theorem lit_nums (w : World) (t : TypeId) (zs : List Nat) (n : Nat) (arr : Array Value) (h : arr = (nums .u32 zs).toArray) (hn : zs.length = n) (hs : n ≤ 1000) : Nums .u32 (w.alloc (.cells arr t)) (some ⟨w.heap.size, 0, none⟩) n n zs := by
  subst h
  exact (Own.new w t .u32 zs).nums hn (Nat.le_refl _) (by omega)

theorem lit_two (w : World) (t t' : TypeId) (zs : List Nat) (n : Nat) (arr : Array Value) (o : Obj) (h : arr = (nums .u32 zs).toArray) (hn : zs.length = n) (hs : n ≤ 1000) : Nums .u32 ((w.alloc (.cells arr t)).alloc o) (some ⟨w.heap.size, 0, none⟩) n n zs :=
  (lit_nums w t zs n arr h hn hs).below ((Below.refl _ _).alloc (Nat.le_refl _) _)

theorem below_lit (A1 : Option Addr) (n c1 : Nat) (xs : List Nat) (A2 : Option Addr) (m c2 : Nat) (ws : List Nat) (w : World)
    (h1 : Nums .u32 w A1 n c1 xs) (h2 : Nums .u32 w A2 m c2 ws) (lx : Lim xs) (lw : Lim ws) (zs : List Nat) (l : Nat) (k e : Int) (hp : belowN xs ws = (zs, k.toNat, e.toNat)) (hl : zs.length = l) (hk : 0 ≤ k) (he : 0 ≤ e) :
    Calls Try.prog 16 #[.slice A1 n c1, .slice A2 m c2] w fun en w' => ∃ A c, en = .returned (.tuple #[.slice A l c, .int .i64 k, .int .i64 e]) ∧ Nums .u32 w' A l c zs ∧ Below w.heap.size w w' := by
  have h := draw_out (draw_below A1 n c1 xs A2 m c2 ws w h1 h2 lx lw)
  rw [hp] at h
  subst hl
  refine h.mono ?_
  rintro en w' ⟨A, c, rfl, hz, hB⟩
  simp only [Int.toNat_of_nonneg hk, Int.toNat_of_nonneg he]
  exact ⟨A, c, rfl, hz, hB⟩

theorem need_lit (A1 : Option Addr) (n c1 : Nat) (xs : List Nat) (w : World) (h1 : Nums .u32 w A1 n c1 xs) (lx : Lim xs) (k : Int) (hp : needN xs = k.toNat) (hk : 0 ≤ k) :
    Calls Try.prog 19 #[.slice A1 n c1] w fun e w' => e = .returned (.int .i64 k) ∧ Below w.heap.size w w' := by
  have h := draw_need A1 n c1 xs w h1 lx
  rw [hp, Int.toNat_of_nonneg hk] at h
  exact h

theorem same_yes (A1 : Option Addr) (n c1 : Nat) (xs : List Nat) (A2 : Option Addr) (m c2 : Nat) (w : World) (h1 : Nums .u32 w A1 n c1 xs) (h2 : Nums .u32 w A2 m c2 xs) :
    Calls Try.prog 18 #[.slice A1 n c1, .slice A2 m c2] w (Quiet w (.bool true)) := by
  have h := ref_same A1 n c1 xs A2 m c2 xs w h1 h2
  rwa [show (xs == xs) = true by simp] at h

theorem lim_all (zs : List Nat) (h : zs.all (fun x => decide (x < 4294967296)) = true) : Lim zs := fun x hx => by
  have := List.all_eq_true.1 h x hx
  simpa using this

theorem below_two (w : World) (t1 t2 : TypeId) (xs ws : List Nat) (a1 a2 : Array Value) (h1 : a1 = (nums .u32 xs).toArray) (h2 : a2 = (nums .u32 ws).toArray) (n m : Nat) (hn : xs.length = n) (hm : ws.length = m)
    (hn' : n ≤ 1000) (hm' : m ≤ 1000) (lx : Lim xs) (lw : Lim ws) (zs : List Nat) (l : Nat) (k e : Int) (hp : belowN xs ws = (zs, k.toNat, e.toNat)) (hl : zs.length = l) (hk : 0 ≤ k) (he : 0 ≤ e) :
    Calls Try.prog 16 #[.slice (some ⟨w.heap.size, 0, none⟩) n n, .slice (some ⟨w.heap.size + 1, 0, none⟩) m m] ((w.alloc (.cells a1 t1)).alloc (.cells a2 t2)) fun en w' =>
      ∃ A c, en = .returned (.tuple #[.slice A l c, .int .i64 k, .int .i64 e]) ∧ Nums .u32 w' A l c zs ∧ Below w.heap.size w w' := by
  have p2 := lit_nums (w.alloc (.cells a1 t1)) t2 ws m a2 h2 hm hm'
  rw [World.size_alloc] at p2
  refine (below_lit _ _ _ xs _ _ _ ws _ (lit_two w t1 t2 xs n a1 _ h1 hn hn') p2 lx lw zs l k e hp hl hk he).mono ?_
  rintro en w' ⟨A, c, rfl, hz, hB⟩
  exact ⟨A, c, rfl, hz, (((Below.refl w.heap.size w).alloc (Nat.le_refl _) _).alloc (by simp) _).trans (hB.mono (by simp; omega))⟩

theorem below_one (w : World) (t1 : TypeId) (xs : List Nat) (a1 : Array Value) (h1 : a1 = (nums .u32 xs).toArray) (n : Nat) (hn : xs.length = n)
    (hn' : n ≤ 1000) (lx : Lim xs) (zs : List Nat) (l : Nat) (k e : Int) (hp : belowN xs [] = (zs, k.toNat, e.toNat)) (hl : zs.length = l) (hk : 0 ≤ k) (he : 0 ≤ e) :
    Calls Try.prog 16 #[.slice (some ⟨w.heap.size, 0, none⟩) n n, .slice none 0 0] (w.alloc (.cells a1 t1)) fun en w' =>
      ∃ A c, en = .returned (.tuple #[.slice A l c, .int .i64 k, .int .i64 e]) ∧ Nums .u32 w' A l c zs ∧ Below w.heap.size w w' := by
  refine (below_lit _ _ _ xs _ _ _ [] _ (lit_nums w t1 xs n a1 h1 hn hn') (Nums.nil _ _ _ _ (by decide)) lx (lim_all _ rfl) zs l k e hp hl hk he).mono ?_
  rintro en w' ⟨A, c, rfl, hz, hB⟩
  exact ⟨A, c, rfl, hz, ((Below.refl w.heap.size w).alloc (Nat.le_refl _) _).trans (hB.mono (by simp))⟩

theorem same_lit (w : World) (t : TypeId) (A : Option Addr) (c : Nat) (xs : List Nat) (a : Array Value) (h : a = (nums .u32 xs).toArray) (n : Nat) (hn : xs.length = n) (hn' : n ≤ 1000) (hx : Nums .u32 w A n c xs) :
    Calls Try.prog 18 #[.slice A n c, .slice (some ⟨w.heap.size, 0, none⟩) n n] (w.alloc (.cells a t)) fun e w' => e = .returned (.bool true) ∧ Below w.heap.size w w' := by
  refine (same_yes _ _ _ xs _ _ _ _ (hx.below ((Below.refl _ _).alloc (Nat.le_refl _) _)) (lit_nums w t xs n a h hn hn')).mono ?_
  rintro e w' ⟨rfl, hS⟩
  exact ⟨rfl, ((Below.refl w.heap.size w).alloc (Nat.le_refl _) _).trans (hS.below _)⟩

theorem need_one (w : World) (t : TypeId) (xs : List Nat) (a : Array Value) (h : a = (nums .u32 xs).toArray) (n : Nat) (hn : xs.length = n) (hn' : n ≤ 1000) (lx : Lim xs) (k : Int) (hp : needN xs = k.toNat) (hk : 0 ≤ k) :
    Calls Try.prog 19 #[.slice (some ⟨w.heap.size, 0, none⟩) n n] (w.alloc (.cells a t)) fun e w' => e = .returned (.int .i64 k) ∧ Below w.heap.size w w' := by
  refine (need_lit _ _ _ xs _ (lit_nums w t xs n a h hn hn') lx k hp hk).mono ?_
  rintro e w' ⟨rfl, hB⟩
  exact ⟨rfl, ((Below.refl w.heap.size w).alloc (Nat.le_refl _) _).trans (hB.mono (by simp))⟩

set_option maxHeartbeats 1000000 in
theorem alive02 (W : World) : Calls Try.prog 15 #[] W fun e w' => e = .returned (.bool true) ∧ Below W.heap.size W w' := by
  go_enter Try.func15, Try.ntmps15
  go_wp2_with fail
  have hc := below_two W 34 34 [3] [7, 2, 5] #[.int .u32 3] #[.int .u32 7, .int .u32 2, .int .u32 5] rfl rfl 1 3 rfl rfl (by decide) (by decide) (lim_all _ rfl) (lim_all _ rfl) [2] 1 2 0 (by kernel_rfl) rfl (by decide) (by decide)
  (with_reducible refine hc.mono ?_)
  rintro e w1 ⟨A1, c1, rfl, h1, hB⟩
  clear hc
  go_wp2_with fail
  have hc := below_two w1 34 34 [0, 1] [9] #[.int .u32 0, .int .u32 1] #[.int .u32 9] rfl rfl 2 1 rfl rfl (by decide) (by decide) (lim_all _ rfl) (lim_all _ rfl) [9] 1 1 0 (by kernel_rfl) rfl (by decide) (by decide)
  (with_reducible refine hc.mono ?_)
  rintro e w2 ⟨A2, c2, rfl, h2, hb⟩
  clear hc
  replace hB := below_tail hB hb
  replace h1 := h1.below hb
  clear hb
  go_wp2_with fail
  have hc := below_two w2 34 34 [3] [7, 3] #[.int .u32 3] #[.int .u32 7, .int .u32 3] rfl rfl 1 2 rfl rfl (by decide) (by decide) (lim_all _ rfl) (lim_all _ rfl) [] 0 0 12 (by kernel_rfl) rfl (by decide) (by decide)
  (with_reducible refine hc.mono ?_)
  rintro e w3 ⟨A3, c3, rfl, h3, hb⟩
  clear hc h3
  replace hB := below_tail hB hb
  replace h1 := h1.below hb
  replace h2 := h2.below hb
  clear hb
  go_wp2_with fail
  have hc := below_one w3 34 [1] #[.int .u32 1] rfl 1 rfl (by decide) (lim_all _ rfl) [] 0 0 0 (by kernel_rfl) rfl (by decide) (by decide)
  (with_reducible refine hc.mono ?_)
  rintro e w4 ⟨A4, c4, rfl, h4, hb⟩
  clear hc h4
  replace hB := below_tail hB hb
  replace h1 := h1.below hb
  replace h2 := h2.below hb
  clear hb
  go_wp2_with fail
  have hc := below_lit none 0 0 [] none 0 0 [] w4 (Nums.nil _ _ _ _ (by decide)) (Nums.nil _ _ _ _ (by decide)) (lim_all _ rfl) (lim_all _ rfl) [] 0 0 1 (by kernel_rfl) rfl (by decide) (by decide)
  (with_reducible refine hc.mono ?_)
  rintro e w5 ⟨A5, c5, rfl, h5, hb⟩
  clear hc h5
  replace hB := below_tail hB hb
  replace h1 := h1.below hb
  replace h2 := h2.below hb
  clear hb
  go_wp2_with fail
  have hc := same_lit w5 34 A1 c1 [2] #[.int .u32 2] rfl 1 rfl (by decide) h1
  (with_reducible refine hc.mono ?_)
  rintro e w6 ⟨rfl, hb⟩
  clear hc
  replace hB := below_tail hB hb
  replace h2 := h2.below hb
  clear hb
  go_wp2_with fail
  have hc := same_lit w6 34 A2 c2 [9] #[.int .u32 9] rfl 1 rfl (by decide) h2
  (with_reducible refine hc.mono ?_)
  rintro e w7 ⟨rfl, hb⟩
  clear hc
  replace hB := below_tail hB hb
  clear hb
  go_wp2_with fail
  have hc := need_one w7 34 [1, 1] #[.int .u32 1, .int .u32 1] rfl 2 rfl (by decide) (lim_all _ rfl) 2 (by kernel_rfl) (by decide)
  (with_reducible refine hc.mono ?_)
  rintro e w8 ⟨rfl, hb⟩
  clear hc
  replace hB := below_tail hB hb
  clear hb
  go_wp2_with fail
  go_ret
  exact ⟨rfl, hB⟩
end Go.Proofs.Ytapnnnciaagbdaa
