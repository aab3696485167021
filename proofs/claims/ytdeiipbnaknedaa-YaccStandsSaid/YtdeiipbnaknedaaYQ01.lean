/- append onto a slice that the call owns; stores into it: in the words of Kit. -/
import Derived.Test.YtdeiipbnaknedaaYQ00
import Derived.Maps.AppendAt
import Derived.Lib.SliceRun
import Derived.Test.YtdeiipbnaknedaaProg
import Derived.Laws.Cover3
import Derived.Laws.StandIn
import Derived.Laws.ComplexArith
import Derived.Deep.QuietTactic
import Derived.BigQuiet
namespace Go.Proofs.Ytdeiipbnaknedaa
open Go.RowKit
set_option linter.unusedVariables false
set_option linter.unusedSimpArgs false

section
variable {P : Program} {w : World}

theorem run_append_nil' (base : Nat) (t ty e : TypeId) (i : TypeInfo) (ht : P.underlying t = some (.slice e)) (hi : P.info? e = some i)
    (A : Option Addr) (n c : Nat) (xs : List Value) (hown : w.ownsRow base e 1 (.slice A n c) n xs) (c2 : Nat) :
    (Builtin.append_ #[t, t] ty #[.slice A n c, .slice none 0 c2]).run P w = .ok (.slice A n c) w := by
  rcases hown.2 with ⟨hv, rfl⟩ | ⟨g, cap, cur, hv, _, _, hnc, _⟩
  · rw [hv]
    simp [Builtin.append_, run_underlying ht, sizeOf, typeInfo, hi, Builtin.lenOf, Builtin.firstCells]
  · rw [hv]
    simp [Builtin.append_, run_underlying ht, sizeOf, typeInfo, hi, Builtin.lenOf, Builtin.firstCells, hnc, storeCells]

/-- what comes back of an owned row is a slice -/
theorem own_form {base e : Nat} {v : Value} {n : Nat} {xs : List Value} (h : w.ownsRow base e 1 v n xs) : ∃ A c, v = .slice A n c := by
  rcases h.2 with ⟨rfl, rfl⟩ | ⟨g, cap, cur, rfl, _⟩
  · exact ⟨_, _, rfl⟩
  · exact ⟨_, _, rfl⟩

theorem own_sl {base e : Nat} {A : Option Addr} {n c : Nat} {xs : List Value} (h : w.ownsRow base e 1 (.slice A n c) n xs) : Sl w A n c xs := by
  have hl : xs.length = n := by simpa using h.1
  rcases h.2 with ⟨hv, rfl⟩ | ⟨g, cap, cur, hv, hb, hg, hnc, hcm, hcs, htake⟩
  · simp at hv
    obtain ⟨rfl, rfl⟩ := hv
    obtain rfl := List.eq_nil_of_length_eq_zero hl
    exact Sl.nil _ _ _ (by simp)
  · injection hv with h1 h2 h3
    subst h1; subst h3
    refine ⟨hl, hnc, by simpa [maxLen] using hcm, fun hn => ⟨g, 0, rfl, ?_, fun j hj => ?_⟩⟩
    · rcases Nat.lt_or_ge g w.heap.size with hlt | hge
      · exact hlt
      · rw [Array.getElem?_eq_none hge] at hg; cases hg
    · have := h.cellAt (e := e) (size := 1) j (by omega)
      simpa using this

/-- a slice that the call owns, with an element: where it lies, and that it may be written -/
theorem own_at {base e : Nat} {A : Option Addr} {n c : Nat} {xs : List Value} (h : w.ownsRow base e 1 (.slice A n c) n xs) {j : Nat} (hj : j < n) :
    ∃ g u, A = some ⟨g, 0, none⟩ ∧ base ≤ g ∧ g < w.heap.size ∧ Hid (xs[j]? = some u) ∧ w.cell? ⟨g, j, none⟩ = some u ∧ w.frozen? ⟨g, j, none⟩ = false := by
  have hl : xs.length = n := by simpa using h.1
  rcases h.2 with ⟨hv, rfl⟩ | ⟨g, cap, cur, hv, hb, hg, _⟩
  · omega
  · injection hv with h1 h2 h3
    subst h1; subst h3
    have hx : xs[j]? = some (xs[j]'(by omega)) := List.getElem?_eq_getElem (by omega)
    refine ⟨g, xs[j]'(by omega), rfl, hb, ?_, Lib.hid hx, ?_, h.frozenAt j⟩
    · rcases Nat.lt_or_ge g w.heap.size with hlt | hge
      · exact hlt
      · rw [Array.getElem?_eq_none hge] at hg; cases hg
    · rw [h.cellAt j (by omega), hx]

theorem own_set {base e : Nat} {g n c : Nat} {xs : List Value} (h : w.ownsRow base e 1 (.slice (some ⟨g, 0, none⟩) n c) n xs) (j : Nat) (u : Value) :
    (w.setCell ⟨g, j, none⟩ u).ownsRow base e 1 (.slice (some ⟨g, 0, none⟩) n c) n (xs.set j u) := (h.stored j u).1

theorem own_below {w' : World} {base e : Nat} {A : Option Addr} {n c : Nat} {xs : List Value} (h : w.ownsRow base e 1 (.slice A n c) n xs) (hb : Below w.heap.size w w') :
    w'.ownsRow base e 1 (.slice A n c) n xs := by
  refine ⟨h.1, ?_⟩
  rcases h.2 with hn | ⟨g, cap, cur, hv, hbg, hg, rest⟩
  · exact .inl hn
  · refine .inr ⟨g, cap, cur, hv, hbg, ?_, rest⟩
    have hlt : g < w.heap.size := by
      rcases Nat.lt_or_ge g w.heap.size with hlt | hge
      · exact hlt
      · rw [Array.getElem?_eq_none hge] at hg; cases hg
    exact (hb.block g hlt).trans hg

theorem own_mono {base base' e : Nat} {v : Value} {n : Nat} {xs : List Value} (h : w.ownsRow base e 1 v n xs) (hb : base' ≤ base) : w.ownsRow base' e 1 v n xs := by
  refine ⟨h.1, ?_⟩
  rcases h.2 with hn | ⟨g, cap, cur, hv, hbg, rest⟩
  · exact .inl hn
  · exact .inr ⟨g, cap, cur, hv, by omega, rest⟩

theorem own_made (w : World) (e : TypeId) (n : Nat) (xs : List Value) (hl : xs.length = n) (hn : n ≤ 9223372036854775807) :
    (w.alloc (.cells xs.toArray e)).ownsRow w.heap.size e 1 (.slice (some ⟨w.heap.size, 0, none⟩) n n) n xs := by
  have := World.ownsRow_lit (base := w.heap.size) (e := e) (size := 1) w xs.toArray n (Nat.le_refl _) (by simpa [maxLen] using hn) (by simp [hl])
  simpa using this

/-- 'append' of another slice's elements, whatever it is -/
theorem wpl_append {ops : Array Oper} {rest : List Oper} {o : Oper} {a : Act} {Q : Exit → Act → World → Prop} (hgd : o.guard = none) (s x : Operand) (t : TypeId)
    (ho : o.op = .call { callee := .builtin .append, args := #[s, x], argTypes := #[t, t] })
    (base : Nat) (e : TypeId) (z : Value) (bytes : Nat) (ht : P.underlying t = some (.slice e))
    (hi : (P.info? e).map (fun i => (i.zero, i.size, i.bytes)) = some (some z, 1, bytes)) (hz1 : z.cells.size = 1)
    (A : Option Addr) (n c : Nat) (xs : List Value) (hs : a.eval s = .slice A n c) (hown : w.ownsRow base e 1 (.slice A n c) n xs)
    (A2 : Option Addr) (m c2 : Nat) (news : List Value) (hx : a.eval x = .slice A2 m c2) (hr : Sl w A2 m c2 news) (h1 : ∀ u ∈ news, u.oneCell' = true)
    (h63 : n + m ≤ 9223372036854775807) (hbytes : (n + m) * bytes ≤ 140737488355328) (hbase : base ≤ w.heap.size)
    (h : ∀ A' c' w', w'.ownsRow base e 1 (.slice A' (n + m) c') (n + m) (xs ++ news) → w.grownBy w' (Value.slice A n c).ownBlock →
      wpList P ops Q rest (a.put o.dst (.slice A' (n + m) c')) w') : wpList P ops Q (o :: rest) a w := by
  obtain ⟨i, hi', hz, hsz, hby⟩ := info_parts hi
  have key : ∃ v' w', (Builtin.append_ #[t, t] o.type #[.slice A n c, .slice A2 m c2]).run P w = .ok v' w' ∧ w'.ownsRow base e 1 v' (n + m) (xs ++ news) ∧ w.grownBy w' (Value.slice A n c).ownBlock := by
    rcases A2 with _ | ad
    · have hm : m = 0 := by
        rcases Nat.eq_zero_or_pos m with h0 | h0
        · exact h0
        · obtain ⟨b, off, he, _⟩ := hr.2.2.2 (by rw [hr.1]; exact h0)
          cases he
      subst hm
      have hn : news = [] := List.eq_nil_of_length_eq_zero hr.1
      subst hn
      exact ⟨_, w, run_append_nil' base t o.type e i ht hi' A n c xs hown c2, by simpa using hown, ⟨rfl, rfl, rfl, Nat.le_refl _, fun _ _ _ => rfl⟩⟩
    · have hcells : ∀ j u, news[j]? = some u → w.cell? (ad.add j) = some u := by
        intro j u hu
        have hjl : j < news.length := (List.getElem?_eq_some_iff.1 hu).1
        obtain ⟨b, off, he, _, hc⟩ := hr.2.2.2 (by omega)
        injection he with he
        subst he
        have := hc j hjl
        rw [hu] at this
        unfold Addr.add
        split
        · rename_i h0; subst h0; simpa using this
        · exact this
      obtain ⟨v', w', h2, h3, h4, _⟩ := run_append_own (P := P) w base t o.type e i z 1 bytes ht hi' hz hsz hby hz1 (by decide) _ n xs hown ad m c2 news (by rw [hr.1, Nat.mul_one]) hcells h1 (by simpa [maxLen] using h63) hbytes hbase
      exact ⟨v', w', h2, h3, h4⟩
  obtain ⟨v', w', hrun, h2, h3⟩ := key
  obtain ⟨A', c', rfl⟩ := own_form h2
  refine wpList_plain hgd fun K hK => ?_
  unfold Oper.wp execOp
  simp only [ho, resolve, invoke, builtin, Sem.run_bind, Sem.run_pure, Result.andThen_ok, List.map_toArray, List.map_cons, List.map_nil, hs, hx, hrun]
  exact hK _ _ (h A' c' w' h2 h3)

/-- 'append' of one element: it has been laid in a block of its own -/
theorem wpl_append1 {ops : Array Oper} {rest : List Oper} {o : Oper} {a : Act} {Q : Exit → Act → World → Prop} (hgd : o.guard = none) (s x : Operand) (t : TypeId)
    (ho : o.op = .call { callee := .builtin .append, args := #[s, x], argTypes := #[t, t] })
    (base : Nat) (e : TypeId) (z : Value) (bytes : Nat) (ht : P.underlying t = some (.slice e))
    (hi : (P.info? e).map (fun i => (i.zero, i.size, i.bytes)) = some (some z, 1, bytes)) (hz1 : z.cells.size = 1)
    (A : Option Addr) (n c : Nat) (xs : List Value) (hs : a.eval s = .slice A n c) (hown : w.ownsRow base e 1 (.slice A n c) n xs)
    (u : Value) (hx : a.eval x = .slice (some ⟨w.heap.size, 0, none⟩) 1 1) (h1 : u.oneCell' = true)
    (h63 : n + 1 ≤ 9223372036854775807) (hbytes : (n + 1) * bytes ≤ 140737488355328) (hbase : base ≤ w.heap.size)
    (h : ∀ A' c' w', w'.ownsRow base e 1 (.slice A' (n + 1) c') (n + 1) (xs ++ [u]) → w.grownBy w' (Value.slice A n c).ownBlock →
      wpList P ops Q rest (a.put o.dst (.slice A' (n + 1) c')) w') : wpList P ops Q (o :: rest) a (w.alloc (.cells #[u] e)) := by
  have hnew := World.ownsRow_lit (base := w.heap.size) (e := e) (size := 1) w #[u] 1 (Nat.le_refl _) (by simp [maxLen]) (by simp)
  refine wpl_append hgd s x t ho base e z bytes ht hi hz1 A n c xs hs (hown.alloc _) _ 1 1 [u] hx (own_sl hnew) (by simpa using h1) h63 hbytes (by simp; omega) fun A' c' w' h2 h3 => ?_
  refine h A' c' w' h2 ?_
  have hg : w.grownBy (w.alloc (.cells #[u] e)) (Value.slice A n c).ownBlock := World.grownBy_alloc _ _ _
  refine ⟨h3.os.trans hg.os, h3.tape.trans hg.tape, h3.output.trans hg.output, Nat.le_trans hg.size h3.size, fun k hk hne => ?_⟩
  exact (h3.block k (Nat.lt_of_lt_of_le hk hg.size) hne).trans (hg.block k hk hne)

end

/-- a world that has grown by an append onto a slice of the call's own: what was there when the call began is as it was -/
theorem below_append {w wr w' : World} {base e : Nat} {A : Option Addr} {n c : Nat} {xs : List Value} (hb : Below base w wr) (hg : wr.grownBy w' (Value.slice A n c).ownBlock)
    (hown : wr.ownsRow base e 1 (.slice A n c) n xs) (hbase : base ≤ wr.heap.size) : Below base w w' :=
  hb.grown hg hbase fun k hk => (hown.lt k hk).1

theorem Nums.grown {k : IntKind} {w w' : World} {A : Option Addr} {n c : Nat} {xs : List Nat} (h : Nums k w A n c xs) {row : Option Nat} (hg : w.grownBy w' row)
    (hr : ∀ b off, A = some ⟨b, off, none⟩ → some b ≠ row) : Nums k w' A n c xs := by
  refine ⟨h.1, h.2.1, h.2.2.1, fun hn => ?_⟩
  obtain ⟨b, off, e, hb, hc⟩ := h.2.2.2 hn
  refine ⟨b, off, e, Nat.lt_of_lt_of_le hb hg.size, fun j hj => ?_⟩
  rw [World.cell?_of_block (a := ⟨b, off + j, none⟩) (hg.block b hb (hr b off e))]
  exact hc j hj

theorem nums_append (k : IntKind) (xs ys : List Nat) : nums k (xs ++ ys) = nums k xs ++ nums k ys := by simp [nums]
theorem nums_snoc (k : IntKind) (xs : List Nat) (x : Nat) : nums k (xs ++ [x]) = nums k xs ++ [.int k (x : Int)] := by simp [nums]
theorem nums_set (k : IntKind) (xs : List Nat) (j x : Nat) : nums k (xs.set j x) = (nums k xs).set j (.int k (x : Int)) := by simp [nums, List.map_set]
theorem nums_get (k : IntKind) (xs : List Nat) (j : Nat) (u : Value) (h : (nums k xs)[j]? = some u) : ∃ x, xs[j]? = some x ∧ u = .int k (x : Int) := by
  simp only [nums, List.getElem?_map, Option.map_eq_some_iff] at h
  obtain ⟨x, hx, rfl⟩ := h
  exact ⟨x, hx, rfl⟩
theorem nums_one (k : IntKind) (xs : List Nat) : ∀ u ∈ nums k xs, u.oneCell' = true := by
  intro u hu
  simp only [nums, List.mem_map] at hu
  obtain ⟨x, _, rfl⟩ := hu
  rfl

end Go.Proofs.Ytdeiipbnaknedaa
/- Words for slices that read as integers of a kind. -/
namespace Go.Proofs.Ytdeiipbnaknedaa
open Go.RowKit
set_option linter.unusedVariables false
set_option linter.unusedSimpArgs false

/-- integers as cells -/
def ints (k : IntKind) (zs : List Int) : List Value := zs.map (Value.int k)
theorem ints_length (k : IntKind) (zs : List Int) : (ints k zs).length = zs.length := by simp [ints]
/-- a slice that reads as integers of kind k -/
def Ints (k : IntKind) (w : World) (A : Option Addr) (n c : Nat) (zs : List Int) : Prop := Sl w A n c (ints k zs)
theorem Ints.len {k : IntKind} {w : World} {A : Option Addr} {n c : Nat} {zs : List Int} (h : Ints k w A n c zs) : zs.length = n := by
  have := h.1; rwa [ints_length] at this
theorem Ints.cap {k : IntKind} {w : World} {A : Option Addr} {n c : Nat} {zs : List Int} (h : Ints k w A n c zs) : n ≤ c ∧ c ≤ 9223372036854775807 := ⟨h.2.1, h.2.2.1⟩
theorem Ints.below {k : IntKind} {w w' : World} {A : Option Addr} {n c : Nat} {zs : List Int} (h : Ints k w A n c zs) (hb : Below w.heap.size w w') : Ints k w' A n c zs := Sl.below h hb
theorem Ints.same {k : IntKind} {w w' : World} {A : Option Addr} {n c : Nat} {zs : List Int} (h : Ints k w A n c zs) (hs : Same w w') : Ints k w' A n c zs := h.below (hs.below _)
theorem Ints.drew {k : IntKind} {w : World} {A : Option Addr} {n c : Nat} {zs : List Int} (h : Ints k w A n c zs) : Ints k w.drew A n c zs := h
theorem Ints.drewN {k : IntKind} {w : World} {A : Option Addr} {n c : Nat} {zs : List Int} (h : Ints k w A n c zs) (m : Nat) : Ints k (w.drewN m) A n c zs := h
theorem Ints.ext {k : IntKind} {w : World} {A : Option Addr} {n c : Nat} {zs : List Int} (h : Ints k w A n c zs) {B : Nat} {w' : World} (hB : w.heap.size ≤ B) (hb : Below B w w') : Ints k w' A n c zs := h.below (hb.mono hB)
theorem Ints.nil (k : IntKind) (w : World) (A : Option Addr) (c : Nat) (h : c ≤ 9223372036854775807) : Ints k w A 0 c [] := Sl.nil w A c h
theorem Ints.sl {k : IntKind} {w : World} {A : Option Addr} {n c : Nat} {zs : List Int} (h : Ints k w A n c zs) : Sl w A n c (ints k zs) := h
theorem Ints.get {k : IntKind} {w : World} {A : Option Addr} {n c : Nat} {zs : List Int} (h : Ints k w A n c zs) {j : Nat} (hj : j < n) :
    ∃ b off x, A = some ⟨b, off, none⟩ ∧ b < w.heap.size ∧ Hid (zs[j]? = some x) ∧ w.cell? ⟨b, off + j, none⟩ = some (.int k x) := by
  have hl := h.len
  obtain ⟨b, off, e, hb, hc⟩ := h.2.2.2 (by rw [ints_length]; omega)
  refine ⟨b, off, zs[j]'(by omega), e, hb, Lib.hid (List.getElem?_eq_getElem (by omega)), ?_⟩
  rw [hc j (by rw [ints_length]; omega)]
  simp [ints, List.getElem?_eq_getElem (show j < zs.length by omega)]
theorem Ints.part {k : IntKind} {w : World} {b off n c : Nat} {zs : List Int} (h : Ints k w (some ⟨b, off, none⟩) n c zs) (i m c' : Nat) (hm : i + m ≤ n) (hc : m ≤ c') (hc' : c' ≤ 9223372036854775807) :
    Ints k w (some ⟨b, off + i, none⟩) m c' ((zs.drop i).take m) := by
  have hl := h.len
  refine ⟨by simp [ints]; omega, hc, hc', fun hn => ?_⟩
  simp [ints] at hn
  obtain ⟨b', off', e, hb, hcell⟩ := h.2.2.2 (by rw [ints_length]; omega)
  injection e with e
  injection e with e1 e2
  subst e1; subst e2
  refine ⟨b, off + i, rfl, hb, fun j hj => ?_⟩
  simp [ints] at hj
  rw [Nat.add_assoc, hcell (i + j) (by rw [ints_length]; omega)]
  simp [ints, List.getElem?_take, List.getElem?_drop]
  intro; omega
theorem Ints.take {k : IntKind} {w : World} {A : Option Addr} {n c : Nat} {zs : List Int} (h : Ints k w A n c zs) (m c' : Nat) (hm : m ≤ n) (hc : m ≤ c') (hc' : c' ≤ 9223372036854775807) :
    Ints k w A m c' (zs.take m) := by
  have hl := h.len
  refine ⟨by simp [ints]; omega, hc, hc', fun hn => ?_⟩
  simp [ints] at hn
  obtain ⟨b, off, e, hb, hcell⟩ := h.2.2.2 (by rw [ints_length]; omega)
  refine ⟨b, off, e, hb, fun j hj => ?_⟩
  simp [ints] at hj
  rw [hcell j (by rw [ints_length]; omega)]
  simp [ints, List.getElem?_take]
  intro; omega
theorem ints_append (k : IntKind) (xs ys : List Int) : ints k (xs ++ ys) = ints k xs ++ ints k ys := by simp [ints]
theorem ints_snoc (k : IntKind) (xs : List Int) (x : Int) : ints k (xs ++ [x]) = ints k xs ++ [.int k x] := by simp [ints]
theorem ints_set (k : IntKind) (xs : List Int) (j : Nat) (x : Int) : ints k (xs.set j x) = (ints k xs).set j (.int k x) := by simp [ints, List.map_set]
theorem ints_get (k : IntKind) (xs : List Int) (j : Nat) (u : Value) (h : (ints k xs)[j]? = some u) : ∃ x, xs[j]? = some x ∧ u = .int k x := by
  simp only [ints, List.getElem?_map, Option.map_eq_some_iff] at h
  obtain ⟨x, hx, rfl⟩ := h
  exact ⟨x, hx, rfl⟩
theorem ints_one (k : IntKind) (xs : List Int) : ∀ u ∈ ints k xs, u.oneCell' = true := by
  intro u hu
  simp only [ints, List.mem_map] at hu
  obtain ⟨x, _, rfl⟩ := hu
  rfl
/-- a list of integers comes back -/
def RetInts (k : IntKind) (w : World) (zs : List Int) (e : Ending) (w' : World) : Prop :=
  ∃ A c, e = .returned (.slice A zs.length c) ∧ Ints k w' A zs.length c zs ∧ Below w.heap.size w w'

/-- a block that a literal has laid -/
theorem lit_sl (w : World) (t : TypeId) (vs : List Value) (n : Nat) (arr : Array Value) (h : arr = vs.toArray) (hn : vs.length = n) (hs : n ≤ 1000000) : Sl (w.alloc (.cells arr t)) (some ⟨w.heap.size, 0, none⟩) n n vs := by
  subst h
  have := World.ownsRow_lit (base := w.heap.size) (e := t) (size := 1) w vs.toArray n (Nat.le_refl _) (by simp [maxLen]; omega) (by simp [hn])
  simpa using own_sl this
end Go.Proofs.Ytdeiipbnaknedaa
/- place: walks over floats that are natural numbers. -/
namespace Go.Proofs.Ytdeiipbnaknedaa
open Go.RowKit
set_option linter.unusedVariables false
set_option linter.unusedSimpArgs false

theorem ordN (n m : Nat) (hn : n < 9007199254740992) (hm : m < 9007199254740992) : FloatKind.f64.format.order (fN n) (fN m) = some (compare n m) :=
  (read_fN n hn).order (read_fN m hm)
theorem fN_1 : fN 1 = 4607182418800017408 := by decide
theorem fN_top : fN 1073741824 = 4742290407621132288 := by decide
theorem ord1 (n : Nat) (hn : n < 9007199254740992) : FloatKind.f64.format.order (fN n) 4607182418800017408 = some (compare n 1) := by
  rw [← fN_1]; exact ordN n 1 hn (by decide)
theorem ordTop (n : Nat) (hn : n < 9007199254740992) : FloatKind.f64.format.order (fN n) 4742290407621132288 = some (compare n 1073741824) := by
  rw [← fN_top]; exact ordN n 1073741824 hn (by decide)

theorem run_trunc (n : Nat) (w : World) (hn : n < 9007199254740992) : (callFunc 75 #[.float .f64 (fN n)]).run Try.prog w = .ok (.value (.float .f64 (fN n))) w := by
  rw [run_callFunc_standIn Try.func75 (by kernel_rfl) (by kernel_rfl) (by kernel_rfl) (e := Extern.MathFloor.toIntegral (Try.f75.name) .zero) (by kernel_rfl)]
  obtain ⟨k, hk⟩ := read_fN n hn
  have hk' : FloatKind.f64.decode (fN n) = .number false (n * 2 ^ k) (-(k : Int)) := hk
  have hi : Ieee.Datum.integral .zero (.number false (n * 2 ^ k) (-(k : Int))) = .number false n 0 := by
    have hp := Nat.two_pow_pos k
    simp only [Ieee.Datum.integral]
    have e1 : (-(k : Int)).toNat = 0 := by omega
    have e2 : (- -(k : Int)).toNat = k := by omega
    rw [e1, e2, Nat.shiftLeft_zero]
    unfold Ieee.Toward.cut
    simp only [Bool.toNat_false, Nat.add_zero]
    rcases Nat.eq_zero_or_pos n with h0 | h0
    · subst h0; simp
    · rw [log2_mul_pow n k h0, Nat.min_eq_left (by omega), Nat.shiftLeft_eq, Nat.one_mul, Nat.mul_div_cancel _ hp]
  have key : ∀ (nm : String) (x : Nat) (d : Ieee.Datum), FloatKind.f64.decode x = d → (d = .number false (n * 2 ^ k) (-(k : Int))) → Extern.MathFloor.toIntegral nm .zero #[.float .f64 x] = pure (.float .f64 (FloatKind.f64.encode (d.integral .zero))) := by
    intro nm x d h1 h2
    show (match FloatKind.f64.decode x with | .nan s t => _ | d => pure (Value.float .f64 (FloatKind.f64.encode (d.integral .zero)))) = _
    rw [h1, h2]
  rw [key _ _ _ hk' rfl, hi]
  rfl

theorem trunc_fN (n : Nat) (w : World) (hn : n < 9007199254740992) :
    Calls Try.prog 74 #[.float .f64 (fN n)] w fun e w' => e = .returned (.float .f64 (fN n)) ∧ w = w' := by
  have hr := run_trunc n w hn
  go_enter Try.func74, Try.ntmps74
  go_wp2
  go_ret
  exact ⟨rfl, rfl⟩

theorem ord_self (n : Nat) (hn : n < 9007199254740992) : FloatKind.f64.format.order (fN n) (fN n) = some .eq := by
  rw [ordN n n hn hn]
  simp [compare, compareOfLessAndEq]

set_option maxHeartbeats 400000 in
theorem whole_fN (n : Nat) (w : World) (hn : n < 9007199254740992) :
    Calls Try.prog 71 #[.float .f64 (fN n)] w fun e w' => e = .returned (.bool (decide (1 ≤ n ∧ n ≤ 1073741824))) ∧ w = w' := by
  have o1 := ord1 n hn
  have o2 := ordTop n hn
  have o3 := ord_self n hn
  have ht := trunc_fN n w hn
  generalize fN n = x at *
  have Ht := Lib.hid ht
  clear ht
  by_cases h1 : 1 ≤ n
  · by_cases h2 : n ≤ 1073741824
    · have e1 : FloatKind.f64.format.order x 4607182418800017408 = some .gt ∨ FloatKind.f64.format.order x 4607182418800017408 = some .eq := by
        rw [o1]
        rcases Nat.lt_or_ge 1 n with h | h
        · rw [Nat.compare_eq_gt.2 h]; exact .inl rfl
        · rw [Nat.compare_eq_eq.2 (by omega)]; exact .inr rfl
      have e2 : FloatKind.f64.format.order x 4742290407621132288 = some .lt ∨ FloatKind.f64.format.order x 4742290407621132288 = some .eq := by
        rw [o2]
        rcases Nat.lt_or_ge n 1073741824 with h | h
        · rw [Nat.compare_eq_lt.2 h]; exact .inl rfl
        · rw [Nat.compare_eq_eq.2 (by omega)]; exact .inr rfl
      rw [show decide (1 ≤ n ∧ n ≤ 1073741824) = true from by simp [h1, h2]]
      clear o1 o2 h1 h2
      rcases e1 with e1 | e1
      all_goals
        rcases e2 with e2 | e2
        all_goals
          go_enter Try.func71, Try.ntmps71
          go_wp2_with (go_at_call 74; (with_reducible refine Ht.out.mono ?_); rintro e w' ⟨rfl, rfl⟩)
          go_ret
          exact ⟨by simp, rfl⟩
    · have e1 : FloatKind.f64.format.order x 4607182418800017408 = some .gt := by
        rw [o1, Nat.compare_eq_gt.2 (by omega)]
      have e2 : FloatKind.f64.format.order x 4742290407621132288 = some .gt := by
        rw [o2, Nat.compare_eq_gt.2 (by omega)]
      rw [show decide (1 ≤ n ∧ n ≤ 1073741824) = false from by simp [h2]]
      clear o1 o2 h1 h2
      go_enter Try.func71, Try.ntmps71
      go_wp2_with fail
      go_ret
      exact ⟨by simp, rfl⟩
  · have e1 : FloatKind.f64.format.order x 4607182418800017408 = some .lt := by
      rw [o1, Nat.compare_eq_lt.2 (by omega)]
    rw [show decide (1 ≤ n ∧ n ≤ 1073741824) = false from by simp [h1]]
    clear o1 o2 h1
    go_enter Try.func71, Try.ntmps71
    go_wp2_with fail
    go_ret
    exact ⟨by simp, rfl⟩
end Go.Proofs.Ytdeiipbnaknedaa
