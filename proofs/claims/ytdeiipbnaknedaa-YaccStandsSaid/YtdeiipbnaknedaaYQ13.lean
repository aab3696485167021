/- yacc: where tokens, references and a reader lie in memory. -/
import Derived.Test.YtdeiipbnaknedaaYQ11
import Derived.Test.YtdeiipbnaknedaaYQ12
namespace Go.Proofs.Ytdeiipbnaknedaa
open Go.RowKit
set_option linter.unusedVariables false
set_option linter.unusedSimpArgs false

/-! ### rows whose elements are some cells each -/
theorem flat_len {α : Type} {m : Nat} {f : α → List Value} (hf : ∀ x, (f x).length = m) : ∀ xs : List α, (xs.flatMap f).length = xs.length * m
  | [] => by simp
  | x :: xs => by rw [List.flatMap_cons, List.length_append, hf, flat_len hf xs, List.length_cons, Nat.succ_mul, Nat.add_comm]
theorem flat_at {α : Type} {m : Nat} {f : α → List Value} (hf : ∀ x, (f x).length = m) : ∀ (xs : List α) (j : Nat) (x : α), xs[j]? = some x → ∀ i v, (f x)[i]? = some v → (xs.flatMap f)[j * m + i]? = some v
  | [], j, x, h => by simp at h
  | y :: xs, 0, x, h => by
    intro i v hv
    simp at h
    subst h
    have hi : i < (f y).length := (List.getElem?_eq_some_iff.1 hv).1
    rw [List.flatMap_cons, Nat.zero_mul, Nat.zero_add, List.getElem?_append_left hi]
    exact hv
  | y :: xs, j + 1, x, h => by
    intro i v hv
    rw [List.flatMap_cons, List.getElem?_append_right (by rw [hf, Nat.succ_mul]; omega), hf, show (j + 1) * m + i - m = j * m + i by rw [Nat.succ_mul]; omega]
    exact flat_at hf xs j x (by simpa using h) i v hv
/-- a slice, ahead of block B, whose elements are some cells each -/
def Flat {α : Type} (m : Nat) (f : α → List Value) (w : World) (B : Nat) (A : Option Addr) (n c : Nat) (xs : List α) : Prop :=
  xs.length = n ∧ n ≤ c ∧ c ≤ 9223372036854775807 ∧ (0 < n → ∃ b off, A = some ⟨b, off, none⟩ ∧ b < B ∧ b < w.heap.size ∧ ∀ (j : Nat) (x : α), xs[j]? = some x → ∀ i v, (f x)[i]? = some v → w.cell? ⟨b, off + j * m + i, none⟩ = some v)
theorem Flat.keep {α : Type} {m : Nat} {f : α → List Value} {w w' : World} {B n c : Nat} {A : Option Addr} {xs : List α} (h : Flat m f w B A n c xs) (hs : w.heap.size ≤ w'.heap.size)
    (hk : ∀ b off, A = some ⟨b, off, none⟩ → b < B → b < w.heap.size → w'.heap[b]? = w.heap[b]?) : Flat m f w' B A n c xs := by
  refine ⟨h.1, h.2.1, h.2.2.1, fun hn => ?_⟩
  obtain ⟨b, off, e, hB, hlt, hc⟩ := h.2.2.2 hn
  refine ⟨b, off, e, hB, by omega, fun j x hx i v hv => ?_⟩
  rw [World.cell?_of_block (a := ⟨b, off + j * m + i, none⟩) (hk b off e hB hlt)]
  exact hc j x hx i v hv
theorem Flat.below {α : Type} {m : Nat} {f : α → List Value} {w w' : World} {B n c : Nat} {A : Option Addr} {xs : List α} (h : Flat m f w B A n c xs) (hb : Below w.heap.size w w') : Flat m f w' B A n c xs :=
  h.keep hb.size fun b _ _ _ hk => hb.block b hk
theorem Flat.grown {α : Type} {m : Nat} {f : α → List Value} {w w' : World} {B n c p : Nat} {A : Option Addr} {xs : List α} (h : Flat m f w B A n c xs) (hg : w.grownBy w' (some p)) (hp : B ≤ p) : Flat m f w' B A n c xs :=
  h.keep hg.size fun b _ _ hB hk => hg.block b hk (by intro h'; injection h' with h'; omega)
theorem Flat.wide {α : Type} {m : Nat} {f : α → List Value} {w : World} {B B' n c : Nat} {A : Option Addr} {xs : List α} (h : Flat m f w B A n c xs) (hb : w.heap.size ≤ B') : Flat m f w B' A n c xs := by
  refine ⟨h.1, h.2.1, h.2.2.1, fun hn => ?_⟩
  obtain ⟨b, off, e, hB, hlt, hc⟩ := h.2.2.2 hn
  exact ⟨b, off, e, by omega, hlt, hc⟩
theorem Flat.nil {α : Type} (m : Nat) (f : α → List Value) (w : World) (B : Nat) (A : Option Addr) (c : Nat) (h : c ≤ 9223372036854775807) : Flat m f w B A 0 c [] := ⟨rfl, Nat.zero_le _, h, fun h0 => absurd h0 (by omega)⟩
theorem Flat.get {α : Type} {m : Nat} {f : α → List Value} {w : World} {B n c : Nat} {A : Option Addr} {xs : List α} (h : Flat m f w B A n c xs) {j : Nat} (hj : j < n) :
    ∃ b off x, A = some ⟨b, off, none⟩ ∧ b < B ∧ b < w.heap.size ∧ Hid (xs[j]? = some x) ∧ ∀ i v, (f x)[i]? = some v → w.cell? ⟨b, off + j * m + i, none⟩ = some v := by
  obtain ⟨b, off, e, hB, hlt, hc⟩ := h.2.2.2 (by omega)
  have hl := h.1
  have ht : xs[j]? = some (xs[j]'(by omega)) := List.getElem?_eq_getElem (by omega)
  exact ⟨b, off, _, e, hB, hlt, Lib.hid ht, hc j _ ht⟩
theorem Flat.head {α : Type} {m : Nat} {f : α → List Value} {w : World} {B n c : Nat} {A : Option Addr} {x : α} {xs : List α} (h : Flat m f w B A n c (x :: xs)) :
    ∃ b off, A = some ⟨b, off, none⟩ ∧ b < B ∧ b < w.heap.size ∧ ∀ i v, (f x)[i]? = some v → w.cell? ⟨b, off + i, none⟩ = some v := by
  have hl := h.1
  simp only [List.length_cons] at hl
  obtain ⟨b, off, e, hB, hlt, hc⟩ := h.2.2.2 (by omega)
  refine ⟨b, off, e, hB, hlt, fun i v hv => ?_⟩
  have := hc 0 x rfl i v hv
  rwa [Nat.zero_mul, Nat.add_zero] at this
theorem Flat.tail {α : Type} {m : Nat} {f : α → List Value} {w : World} {B n c b off : Nat} {x : α} {xs : List α} (h : Flat m f w B (some ⟨b, off, none⟩) n c (x :: xs)) :
    Flat m f w B (if c = 1 then some ⟨b, off, none⟩ else some ⟨b, off + m, none⟩) (n - 1) (c - 1) xs := by
  have hl := h.1
  have h2 := h.2.1
  have h3 := h.2.2.1
  simp only [List.length_cons] at hl
  refine ⟨by omega, by omega, by omega, fun hn => ?_⟩
  obtain ⟨b', off', e, hB, hlt, hc⟩ := h.2.2.2 (by omega)
  injection e with e
  injection e with e1 e2
  subst e1; subst e2
  refine ⟨b, off + m, by rw [if_neg (by omega)], hB, hlt, fun j u hu i v hv => ?_⟩
  have := hc (j + 1) u (by simpa using hu) i v hv
  rwa [show off + (j + 1) * m + i = off + m + j * m + i by rw [Nat.succ_mul]; omega] at this
theorem own_flat {α : Type} {m : Nat} {f : α → List Value} (hf : ∀ x, (f x).length = m) {w : World} {base e n c : Nat} {A : Option Addr} {xs : List α} (hl : xs.length = n) (h : w.ownsRow base e m (.slice A n c) n (xs.flatMap f)) : Flat m f w w.heap.size A n c xs := by
  rcases h.2 with ⟨hv, rfl⟩ | ⟨g, cap, cur, hv, hb, hg, hnc, hcm, hcs, htake⟩
  · injection hv with h1 h2 h3
    subst h1; subst h3
    exact ⟨hl, Nat.le_refl _, by omega, fun h0 => absurd h0 (by omega)⟩
  · injection hv with h1 h2 h3
    subst h1; subst h3
    have hlt : g < w.heap.size := by
      rcases Nat.lt_or_ge g w.heap.size with hlt | hge
      · exact hlt
      · rw [Array.getElem?_eq_none hge] at hg; cases hg
    refine ⟨hl, hnc, by simpa [maxLen] using hcm, fun hn => ⟨g, 0, rfl, hlt, hlt, fun j x hx i v hv => ?_⟩⟩
    have hj : j < n := by rw [← hl]; exact (List.getElem?_eq_some_iff.1 hx).1
    have hi : i < m := by rw [← hf x]; exact (List.getElem?_eq_some_iff.1 hv).1
    have hjm : j * m + i < n * m := by
      calc j * m + i < j * m + m := by omega
        _ = (j + 1) * m := by rw [Nat.succ_mul]
        _ ≤ n * m := Nat.mul_le_mul_right _ hj
    rw [Nat.zero_add, h.cellAt (j * m + i) hjm]
    exact flat_at hf xs j x hx i v hv
theorem own_fresh {w : World} {base e m n c : Nat} {A : Option Addr} {zs : List Value} (h : w.ownsRow base e m (.slice A n c) n zs) {b off : Nat} (hA : A = some ⟨b, off, none⟩) (hb : off = 0) : base ≤ b ∧ b < w.heap.size :=
  h.lt b (by rw [hA, hb]; rfl)

/-! ### append of elements of some cells -/
section
variable {P : Program} {w : World}
/-- 'append' of some elements of some cells, that lie elsewhere -/
theorem wpl_appendM {ops : Array Oper} {rest : List Oper} {o : Oper} {a : Act} {Q : Exit → Act → World → Prop} (hgd : o.guard = none) (s x : Operand) (t : TypeId)
    (ho : o.op = .call { callee := .builtin .append, args := #[s, x], argTypes := #[t, t] })
    (base : Nat) (e : TypeId) (z : Value) (size bytes : Nat) (ht : P.underlying t = some (.slice e))
    (hi : (P.info? e).map (fun i => (i.zero, i.size, i.bytes)) = some (some z, size, bytes)) (hz1 : z.cells.size = size) (hsz0 : 0 < size)
    (A : Option Addr) (n c : Nat) (xs : List Value) (hs : a.eval s = .slice A n c) (hown : w.ownsRow base e size (.slice A n c) n xs)
    (ad : Addr) (m c2 : Nat) (news : List Value) (hl : news.length = m * size) (hx : a.eval x = .slice (some ad) m c2) (hcells : ∀ j u, news[j]? = some u → w.cell? (ad.add j) = some u) (h1 : ∀ u ∈ news, u.oneCell' = true)
    (h63 : n + m ≤ 9223372036854775807) (hbytes : (n + m) * bytes ≤ 140737488355328) (hbase : base ≤ w.heap.size)
    (h : ∀ A' c' w', w'.ownsRow base e size (.slice A' (n + m) c') (n + m) (xs ++ news) → w.grownBy w' (Value.slice A n c).ownBlock → (∀ b, (Value.slice A' (n + m) c').ownBlock = some b → b < w.heap.size → (Value.slice A n c).ownBlock = some b) →
      wpList P ops Q rest (a.put o.dst (.slice A' (n + m) c')) w') : wpList P ops Q (o :: rest) a w := by
  obtain ⟨i, hi', hz, hsz, hby⟩ := info_parts hi
  obtain ⟨v', w', hrun, h3, h4, _, h5⟩ := run_append_own_at (P := P) w base t o.type e i z size bytes ht hi' hz hsz hby hz1 hsz0 _ n xs hown ad m c2 news hl hcells h1 (by simpa [maxLen] using h63) hbytes hbase
  obtain ⟨A', c', rfl⟩ := own_formS h3
  have h5' : ∀ b, (Value.slice A' (n + m) c').ownBlock = some b → b < w.heap.size → (Value.slice A n c).ownBlock = some b := by
    intro b hb hlt
    rcases h5 with h5 | h5
    · rw [← h5]; exact hb
    · rw [h5] at hb; injection hb with hb; omega
  refine wpList_plain hgd fun K hK => ?_
  unfold Oper.wp execOp
  simp only [ho, resolve, invoke, builtin, Sem.run_bind, Sem.run_pure, Result.andThen_ok, List.map_toArray, List.map_cons, List.map_nil, hs, hx, hrun]
  exact hK _ _ (h A' c' w' h3 h4 h5')
/-- 'append' of one element of some cells: it has been laid in a block of its own -/
theorem wpl_appendT {ops : Array Oper} {rest : List Oper} {o : Oper} {a : Act} {Q : Exit → Act → World → Prop} (hgd : o.guard = none) (s x : Operand) (t : TypeId)
    (ho : o.op = .call { callee := .builtin .append, args := #[s, x], argTypes := #[t, t] })
    (base : Nat) (e : TypeId) (z : Value) (size bytes : Nat) (ht : P.underlying t = some (.slice e))
    (hi : (P.info? e).map (fun i => (i.zero, i.size, i.bytes)) = some (some z, size, bytes)) (hz1 : z.cells.size = size) (hsz0 : 0 < size)
    (A : Option Addr) (n c : Nat) (xs : List Value) (hs : a.eval s = .slice A n c) (hown : w.ownsRow base e size (.slice A n c) n xs)
    (news : List Value) (hl : news.length = size) (hx : a.eval x = .slice (some ⟨w.heap.size, 0, none⟩) 1 1) (h1 : ∀ u ∈ news, u.oneCell' = true)
    (h63 : n + 1 ≤ 9223372036854775807) (hbytes : (n + 1) * bytes ≤ 140737488355328) (hbase : base ≤ w.heap.size)
    (h : ∀ A' c' w', w'.ownsRow base e size (.slice A' (n + 1) c') (n + 1) (xs ++ news) → w.grownBy w' (Value.slice A n c).ownBlock → (∀ b, (Value.slice A' (n + 1) c').ownBlock = some b → b < w.heap.size → (Value.slice A n c).ownBlock = some b) →
      wpList P ops Q rest (a.put o.dst (.slice A' (n + 1) c')) w') : wpList P ops Q (o :: rest) a (w.alloc (.cells news.toArray e)) := by
  have hcells : ∀ j u, news[j]? = some u → (w.alloc (.cells news.toArray e)).cell? ((⟨w.heap.size, 0, none⟩ : Addr).add j) = some u := by
    intro j u hu
    have e1 : (⟨w.heap.size, 0, none⟩ : Addr).add j = ⟨w.heap.size, j, none⟩ := by
      unfold Addr.add
      split
      · rename_i h0; subst h0; rfl
      · simp
    rw [e1, World.cell?_alloc_mark]
    simpa using hu
  refine wpl_appendM hgd s x t ho base e z size bytes ht hi hz1 hsz0 A n c xs hs (hown.alloc _) _ 1 1 news (by rw [hl, Nat.one_mul]) hx hcells h1 h63 hbytes (by simp; omega) fun A' c' w' h2 h3 h4 => ?_
  have hg : w.grownBy (w.alloc (.cells news.toArray e)) (Value.slice A n c).ownBlock := World.grownBy_alloc _ _ _
  exact h A' c' w' h2 ⟨h3.os.trans hg.os, h3.tape.trans hg.tape, h3.output.trans hg.output, Nat.le_trans hg.size h3.size, fun k hk hne => (h3.block k (Nat.lt_of_lt_of_le hk hg.size) hne).trans (hg.block k hk hne)⟩ fun b hb hlt => h4 b hb (by simp; omega)
end

/-! ### tokens, references, the reader -/
theorem tokCells_len (t : Tok) : (tokCells t).length = 3 := rfl
def refCells (r : RefY) : List Value := [.string (str r.1), PA r.2]
theorem refCells_len (r : RefY) : (refCells r).length = 2 := rfl
def refsCells (rs : List RefY) : List Value := rs.flatMap refCells
theorem refsCells_snoc (rs : List RefY) (r : RefY) : refsCells (rs ++ [r]) = refsCells rs ++ refCells r := by simp [refsCells]
/-- a slice that reads as references -/
def RefsAt (w : World) (A : Option Addr) (n c : Nat) (rs : List RefY) : Prop := Flat 2 refCells w w.heap.size A n c rs
theorem RefsAt.keep {w w' : World} {n c : Nat} {A : Option Addr} {rs : List RefY} (h : RefsAt w A n c rs) (hs : w.heap.size ≤ w'.heap.size) (hk : ∀ b off, A = some ⟨b, off, none⟩ → b < w.heap.size → w'.heap[b]? = w.heap[b]?) : RefsAt w' A n c rs := by
  have h2 : Flat 2 refCells w' w.heap.size A n c rs := Flat.keep h hs fun b off e _ hk2 => hk b off e hk2
  refine ⟨h2.1, h2.2.1, h2.2.2.1, fun hn => ?_⟩
  obtain ⟨b, off, e, hB, hlt, hc⟩ := h2.2.2.2 hn
  exact ⟨b, off, e, hlt, hlt, hc⟩
theorem own_refs {w : World} {base e n c : Nat} {A : Option Addr} {rs : List RefY} (hl : rs.length = n) (h : w.ownsRow base e 2 (.slice A n c) n (refsCells rs)) : RefsAt w A n c rs := own_flat refCells_len hl h
/-- a place is a complex number -/
theorem PA_form (pre : List Nat) : ∃ x y, PA pre = .complex .f64 x y := by
  unfold PA PV
  exact ⟨_, _, rfl⟩
/-- a reader: the tokens that are left, and where the text ends -/
def YrAt (w : World) (p : Nat) (en : List Nat) (ts : List Tok) : Prop :=
  ts.length ≤ 4000 ∧ ∃ A c, Blk w p 72 #[.slice A ts.length c, PA en] ∧ Flat 3 tokCells w p A ts.length c ts
theorem YrAt.len {w : World} {p : Nat} {en : List Nat} {ts : List Tok} (h : YrAt w p en ts) : ts.length ≤ 4000 := h.1
theorem YrAt.lt {w : World} {p : Nat} {en : List Nat} {ts : List Tok} (h : YrAt w p en ts) : p < w.heap.size := by
  obtain ⟨_, A, c, hb, _⟩ := h
  exact hb.lt
theorem YrAt.below {w w' : World} {p : Nat} {en : List Nat} {ts : List Tok} (h : YrAt w p en ts) (hb : Below w.heap.size w w') : YrAt w' p en ts := by
  obtain ⟨hl, A, c, hk, ht⟩ := h
  exact ⟨hl, A, c, hk.ext hb, ht.below hb⟩
theorem YrAt.keep {w w' : World} {p : Nat} {en : List Nat} {ts : List Tok} (h : YrAt w p en ts) (hs : w.heap.size ≤ w'.heap.size) (hk : ∀ k, k ≤ p → k < w.heap.size → w'.heap[k]? = w.heap[k]?) : YrAt w' p en ts := by
  obtain ⟨hl, A, c, hb, ht⟩ := h
  exact ⟨hl, A, c, (hk p (Nat.le_refl _) hb.lt).trans hb, ht.keep hs fun b _ _ h1 h2 => hk b (Nat.le_of_lt h1) h2⟩
theorem YrAt.parts {w : World} {p : Nat} {en : List Nat} {ts : List Tok} (h : YrAt w p en ts) : ∃ A c, Flat 3 tokCells w p A ts.length c ts ∧ p < w.heap.size ∧ Blk w p 72 #[.slice A ts.length c, PA en] ∧
    w.cell? ⟨p, 0, none⟩ = some (.slice A ts.length c) ∧ w.cell? ⟨p, 1, none⟩ = some (PA en) := by
  obtain ⟨hl, A, c, hb, ht⟩ := h
  exact ⟨A, c, ht, hb.lt, hb, by rw [hb.cell]; rfl, by rw [hb.cell]; rfl⟩
/-- how many tokens a reader has left -/
def remY (w : World) (p : Nat) : Nat := match w.cell? ⟨p, 0, none⟩ with
  | some (.slice _ n _) => n
  | _ => 0
theorem YrAt.rem {w : World} {p : Nat} {en : List Nat} {ts : List Tok} (h : YrAt w p en ts) : remY w p = ts.length := by
  obtain ⟨A, c, ht, hp, hk, q0, q1⟩ := h.parts
  unfold remY
  rw [q0]
theorem own_keepY {w w' : World} {base e m n c : Nat} {A : Option Addr} {xs : List Value} (h : w.ownsRow base e m (.slice A n c) n xs) (hk : ∀ b, base ≤ b → b < w.heap.size → w'.heap[b]? = w.heap[b]?) : w'.ownsRow base e m (.slice A n c) n xs := by
  refine ⟨h.1, ?_⟩
  rcases h.2 with hn | ⟨g, cap, cur, hv, hbg, hg, rest⟩
  · exact .inl hn
  · refine .inr ⟨g, cap, cur, hv, hbg, ?_, rest⟩
    have hlt : g < w.heap.size := by
      rcases Nat.lt_or_ge g w.heap.size with hlt | hge
      · exact hlt
      · rw [Array.getElem?_eq_none hge] at hg; cases hg
    exact (hk g hbg hlt).trans hg
theorem YrAt.app {w w' : World} {p base e m n c : Nat} {A : Option Addr} {xs : List Value} {en : List Nat} {ts : List Tok} (h : YrAt w p en ts) (hg : w.grownBy w' (Value.slice A n c).ownBlock) (ho : w.ownsRow base e m (.slice A n c) n xs) (hb : p < base) : YrAt w' p en ts :=
  h.keep hg.size fun k h1 h2 => hg.block k h2 fun e => by have := (ho.lt k e.symm).1; omega
theorem own_grown {w w' : World} {p base e m n c : Nat} {A : Option Addr} {xs : List Value} (ho : w.ownsRow base e m (.slice A n c) n xs) (hg : w.grownBy w' (some p)) (hb : p < base) : w'.ownsRow base e m (.slice A n c) n xs :=
  own_keepY ho fun b h1 h2 => hg.block b h2 fun e => by injection e with e; omega
theorem grown_app {w w1 w' : World} {p base e m n c : Nat} {A : Option Addr} {xs : List Value} (h : w.grownBy w1 (some p)) (hg : w1.grownBy w' (Value.slice A n c).ownBlock) (ho : w1.ownsRow base e m (.slice A n c) n xs) (hb : w.heap.size ≤ base) : w.grownBy w' (some p) :=
  ⟨hg.os.trans h.os, hg.tape.trans h.tape, hg.output.trans h.output, Nat.le_trans h.size hg.size, fun k hk hne => (hg.block k (Nat.lt_of_lt_of_le hk h.size) fun e => by have := (ho.lt k e.symm).1; omega).trans (h.block k hk hne)⟩

/-! ### how a reading ends -/
/-- the panic that a reading ends with -/
def wrongY (pre : List Nat) (er : Nat) : Ending := .panicked [{ v := .iface 68 (.agg #[PA pre, .int .i64 (er : Int)]), recovered := false }]
/-- what a call of a reader's comes to -/
def RetY {α : Type} (w : World) (p : Nat) (en : List Nat) (R : α → Ending → World → Prop) (r : ResY α) (e : Ending) (w' : World) : Prop :=
  match r with
  | .ok a rest => R a e w' ∧ YrAt w' p en rest ∧ w.grownBy w' (some p)
  | .bad pre er => e = wrongY pre er ∧ w.grownBy w' (some p)
/-- numbers among numbers -/
theorem contains_cast (ks : List Nat) (k : Nat) : (ks.map fun (x : Nat) => (x : Int)).contains (k : Int) = ks.contains k := by
  induction ks with
  | nil => rfl
  | cons a ks ih =>
    rw [List.map_cons, List.contains_cons, List.contains_cons, ih]
    congr 1
    rw [Bool.eq_iff_iff, beq_iff_eq, beq_iff_eq]
    omega
end Go.Proofs.Ytdeiipbnaknedaa
