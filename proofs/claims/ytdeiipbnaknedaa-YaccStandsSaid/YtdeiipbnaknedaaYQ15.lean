/- yacc: lists of what has references of its own; appends of such; a token that is taken, in its two cases. -/
import Derived.Test.YtdeiipbnaknedaaYQ14
namespace Go.Proofs.Ytdeiipbnaknedaa
open Go.RowKit
set_option linter.unusedVariables false
set_option linter.unusedSimpArgs false

/-- something, and where its references lie -/
structure WithY (β : Type) where
  val : β
  A : Option Addr
  c : Nat
/-- the references of all lie there; their blocks are such as av says -/
def InY {β : Type} (names : β → List RefY) (w : World) (av : Nat → Prop) (zs : List (WithY β)) : Prop :=
  ∀ z ∈ zs, RefsAt w z.A (names z.val).length z.c (names z.val) ∧ ∀ b off, z.A = some ⟨b, off, none⟩ → b < w.heap.size ∧ av b
theorem InY.nil {β : Type} (names : β → List RefY) (w : World) (av : Nat → Prop) : InY names w av [] := fun z h => by cases h
theorem InY.keep {β : Type} {names : β → List RefY} {w w' : World} {av av' : Nat → Prop} {zs : List (WithY β)} (h : InY names w av zs) (hs : w.heap.size ≤ w'.heap.size) (hk : ∀ k, k < w.heap.size → av k → w'.heap[k]? = w.heap[k]? ∧ av' k) : InY names w' av' zs := fun z hz => by
  obtain ⟨h1, h2⟩ := h z hz
  exact ⟨h1.keep hs fun b off e hb => (hk b hb (h2 b off e).2).1, fun b off e => ⟨Nat.lt_of_lt_of_le (h2 b off e).1 hs, (hk b (h2 b off e).1 (h2 b off e).2).2⟩⟩
theorem InY.app {β : Type} {names : β → List RefY} {w : World} {av : Nat → Prop} {zs zs' : List (WithY β)} (h : InY names w av zs) (h' : InY names w av zs') : InY names w av (zs ++ zs') := fun z hz => by
  rcases List.mem_append.1 hz with hz | hz
  · exact h z hz
  · exact h' z hz
theorem InY.one {β : Type} {names : β → List RefY} {w : World} {av : Nat → Prop} (v : β) {A : Option Addr} {c : Nat} (h : RefsAt w A (names v).length c (names v)) (ha : ∀ b off, A = some ⟨b, off, none⟩ → b < w.heap.size ∧ av b) : InY names w av [⟨v, A, c⟩] := fun z hz => by
  rw [List.mem_singleton.1 hz]
  exact ⟨h, ha⟩
theorem InY.grown {β : Type} {names : β → List RefY} {w w' : World} {B p : Nat} {v : Value} {zs : List (WithY β)} (h : InY names w (fun b => B ≤ b ∧ v.ownBlock ≠ some b) zs) (hg : w.grownBy w' (some p)) (hp : p < B) : InY names w' (fun b => B ≤ b ∧ v.ownBlock ≠ some b) zs :=
  h.keep hg.size fun k hk hav => ⟨hg.block k hk fun e => by injection e with e; have := hav.1; omega, hav⟩
/-- declarations, rules: as cells -/
def dclCells (z : WithY DclY) : List Value := [.int .i64 (z.val.kind : Int), .slice z.A z.val.names.length z.c]
def precCells : Option RefY → List Value
  | none => [.string ⟨#[]⟩, .complex .f64 0 0]
  | some r => refCells r
def prdCells (z : WithY PrdY) : List Value := .string (str z.val.left.1) :: PA z.val.left.2 :: .slice z.A z.val.right.length z.c :: precCells z.val.prec
theorem dclCells_len (z : WithY DclY) : (dclCells z).length = 2 := rfl
theorem precCells_len (o : Option RefY) : (precCells o).length = 2 := by cases o <;> rfl
theorem prdCells_len (z : WithY PrdY) : (prdCells z).length = 5 := by
  unfold prdCells
  simp [precCells_len]
theorem precCells_form (o : Option RefY) : ∃ s x y, precCells o = [.string s, .complex .f64 x y] := by
  cases o with
  | none => exact ⟨_, _, _, rfl⟩
  | some r =>
    obtain ⟨x, y, h⟩ := PA_form r.2
    exact ⟨str r.1, x, y, by rw [← h]; rfl⟩
theorem own_one {w : World} {base e n c : Nat} {A : Option Addr} {cs : List Value} {size : Nat} (h : w.ownsRow base e size (.slice A n c) n cs) (hn : 0 < n) : ∃ g, A = some ⟨g, 0, none⟩ ∧ base ≤ g ∧ g < w.heap.size ∧ ∀ j u, cs[j]? = some u → w.cell? ((⟨g, 0, none⟩ : Addr).add j) = some u := by
  rcases h.2 with ⟨hv, rfl⟩ | ⟨g, cap, cur, hv, hb, hg, hnc, hcm, hcs, htake⟩
  · omega
  · injection hv with h1 h2 h3
    subst h1
    have hlt := h.lt g rfl
    exact ⟨g, rfl, hb, hlt.2, h.cells rfl⟩
theorem own_at0 {w : World} {base e n c size : Nat} {A : Option Addr} {cs : List Value} (h : w.ownsRow base e size (.slice A n c) n cs) {b off : Nat} (hA : A = some ⟨b, off, none⟩) : base ≤ b ∧ b < w.heap.size := by
  rcases h.2 with ⟨hv, _⟩ | ⟨g, cap, cur, hv, _⟩
  · injection hv with h1
    rw [h1] at hA
    cases hA
  · injection hv with h1
    rw [h1] at hA
    injection hA with hA
    injection hA with h2 h3
    subst h2
    exact h.lt g (by rw [h1]; rfl)

/-! ### append of an owned row's elements -/
section
variable {P : Program} {w : World}
theorem run_append_nilM (base : Nat) (t ty e : TypeId) (i : TypeInfo) (size : Nat) (ht : P.underlying t = some (.slice e)) (hi : P.info? e = some i)
    (A : Option Addr) (n c : Nat) (xs : List Value) (hown : w.ownsRow base e size (.slice A n c) n xs) (c2 : Nat) :
    (Builtin.append_ #[t, t] ty #[.slice A n c, .slice none 0 c2]).run P w = .ok (.slice A n c) w := by
  rcases hown.2 with ⟨hv, rfl⟩ | ⟨g, cap, cur, hv, _, _, hnc, _⟩
  · rw [hv]
    simp [Builtin.append_, run_underlying ht, sizeOf, typeInfo, hi, Builtin.lenOf, Builtin.firstCells]
  · rw [hv]
    simp [Builtin.append_, run_underlying ht, sizeOf, typeInfo, hi, Builtin.lenOf, Builtin.firstCells, hnc, storeCells]
theorem run_append_both (base : Nat) (t ty e : TypeId) (z : Value) (size bytes : Nat) (ht : P.underlying t = some (.slice e))
    (hi : (P.info? e).map (fun i => (i.zero, i.size, i.bytes)) = some (some z, size, bytes)) (hz1 : z.cells.size = size) (hsz0 : 0 < size)
    (A : Option Addr) (n c : Nat) (xs : List Value) (hown : w.ownsRow base e size (.slice A n c) n xs)
    (base2 : Nat) (A2 : Option Addr) (m c2 : Nat) (news : List Value) (hown2 : w.ownsRow base2 e size (.slice A2 m c2) m news) (h1 : ∀ u ∈ news, u.oneCell' = true)
    (h63 : n + m ≤ 9223372036854775807) (hbytes : (n + m) * bytes ≤ 140737488355328) (hbase : base ≤ w.heap.size) :
    ∃ A' c' w', (Builtin.append_ #[t, t] ty #[.slice A n c, .slice A2 m c2]).run P w = .ok (.slice A' (n + m) c') w' ∧ w'.ownsRow base e size (.slice A' (n + m) c') (n + m) (xs ++ news) ∧ w.grownBy w' (Value.slice A n c).ownBlock ∧
      ∀ b, (Value.slice A' (n + m) c').ownBlock = some b → b < w.heap.size → (Value.slice A n c).ownBlock = some b := by
  obtain ⟨i, hi', hz, hsz, hby⟩ := info_parts hi
  rcases A2 with _ | ad
  · have hm : m = 0 := by
      rcases Nat.eq_zero_or_pos m with h0 | h0
      · exact h0
      · obtain ⟨g, hg, _⟩ := own_one hown2 h0
        cases hg
    subst hm
    have hn : news = [] := List.eq_nil_of_length_eq_zero (by have := hown2.1; omega)
    subst hn
    exact ⟨A, c, w, run_append_nilM base t ty e i size ht hi' A n c xs hown c2, by simpa using hown, ⟨rfl, rfl, rfl, Nat.le_refl _, fun _ _ _ => rfl⟩, fun b hb _ => hb⟩
  · have hcells : ∀ j u, news[j]? = some u → w.cell? (ad.add j) = some u := by
      rcases hown2.2 with ⟨hv, _⟩ | ⟨g, cap, cur, hv, _⟩
      · cases hv
      · injection hv with h1 h2 h3
        injection h1 with h1
        subst h1
        exact hown2.cells rfl
    obtain ⟨v', w', hrun, h3, h4, _, h5⟩ := run_append_own_at (P := P) w base t ty e i z size bytes ht hi' hz hsz hby hz1 hsz0 _ n xs hown ad m c2 news hown2.1 hcells h1 (by simpa [maxLen] using h63) hbytes hbase
    obtain ⟨A', c', rfl⟩ := own_formS h3
    refine ⟨A', c', w', hrun, h3, h4, fun b hb hlt => ?_⟩
    rcases h5 with h5 | h5
    · rw [← h5]; exact hb
    · rw [h5] at hb; injection hb with hb; omega
/-- in a region that draws -/
theorem step_appendO {ops : Array Oper} {o : Oper} {a : Act} {K : Act → World → Prop} {Q : Exit → Act → World → Prop} {E : Prop} (hgd : o.guard = none) (s x : Operand) (t : TypeId)
    (ho : o.op = .call { callee := .builtin .append, args := #[s, x], argTypes := #[t, t] })
    (base : Nat) (e : TypeId) (z : Value) (size bytes : Nat) (ht : P.underlying t = some (.slice e))
    (hi : (P.info? e).map (fun i => (i.zero, i.size, i.bytes)) = some (some z, size, bytes)) (hz1 : z.cells.size = size) (hsz0 : 0 < size)
    (A : Option Addr) (n c : Nat) (xs : List Value) (hs : a.eval s = .slice A n c) (hown : w.ownsRow base e size (.slice A n c) n xs)
    (base2 : Nat) (A2 : Option Addr) (m c2 : Nat) (news : List Value) (hx : a.eval x = .slice A2 m c2) (hown2 : w.ownsRow base2 e size (.slice A2 m c2) m news) (h1 : ∀ u ∈ news, u.oneCell' = true)
    (h63 : n + m ≤ 9223372036854775807) (hbytes : (n + m) * bytes ≤ 140737488355328) (hbase : base ≤ w.heap.size)
    (h : ∀ A' c' w', w'.ownsRow base e size (.slice A' (n + m) c') (n + m) (xs ++ news) → w.grownBy w' (Value.slice A n c).ownBlock → (∀ b, (Value.slice A' (n + m) c').ownBlock = some b → b < w.heap.size → (Value.slice A n c).ownBlock = some b) →
      K (a.put o.dst (.slice A' (n + m) c')) w') : if Region.wanted o (yielded ops a.tmps) = true then Oper.wp P o a w K Q else E := by
  have hw : Region.wanted o (yielded ops a.tmps) = true := by simp [Region.wanted, hgd]
  rw [if_pos hw]
  obtain ⟨A', c', w', hrun, h3, h4, h5⟩ := run_append_both (P := P) (w := w) base t o.type e z size bytes ht hi hz1 hsz0 A n c xs hown base2 A2 m c2 news hown2 h1 h63 hbytes hbase
  unfold Oper.wp execOp
  simp only [ho, resolve, invoke, builtin, Sem.run_bind, Sem.run_pure, Result.andThen_ok, List.map_toArray, List.map_cons, List.map_nil, hs, hx, hrun]
  exact h A' c' w' h3 h4 h5
end

/-! ### a token that is taken -/
theorem yc_take_ok (p : Nat) (en : List Nat) (ts : List Tok) (ks : List Nat) (n : Nat) (hn : ks.length = n) (hn2 : n ≤ 100) (W : World) (h : YrAt W p en ts) (arr : Array Value) (ha : arr = kindsV ks) (g : Nat) (hg : W.heap.size = g)
    (v : RefY) (r : List Tok) (hT : takeY en ks ts = .ok v r) (x y : Nat) (hxy : PA v.2 = .complex .f64 x y) :
    Calls Try.prog 55 #[.pointer (some ⟨p, 0, none⟩), .slice (some ⟨g, 0, none⟩) n n] (W.alloc (.cells arr 3)) fun e w' => e = .returned (.agg #[.string (str v.1), .complex .f64 x y]) ∧ YrAt w' p en r ∧ W.grownBy w' (some p) := by
  have := yc_take p en ts ks n hn hn2 W h arr ha g hg
  rw [hT] at this
  rw [← hxy]
  exact this
theorem yc_take_bad (p : Nat) (en : List Nat) (ts : List Tok) (ks : List Nat) (n : Nat) (hn : ks.length = n) (hn2 : n ≤ 100) (W : World) (h : YrAt W p en ts) (arr : Array Value) (ha : arr = kindsV ks) (g : Nat) (hg : W.heap.size = g)
    (pre : List Nat) (er : Nat) (hT : takeY en ks ts = .bad pre er) (x y : Nat) (hxy : PA pre = .complex .f64 x y) :
    Calls Try.prog 55 #[.pointer (some ⟨p, 0, none⟩), .slice (some ⟨g, 0, none⟩) n n] (W.alloc (.cells arr 3)) fun e w' => e = .panicked [{ v := .iface 68 (.agg #[.complex .f64 x y, .int .i64 (er : Int)]), recovered := false }] ∧ W.grownBy w' (some p) := by
  have := yc_take p en ts ks n hn hn2 W h arr ha g hg
  rw [hT] at this
  rw [← hxy]
  exact this
end Go.Proofs.Ytdeiipbnaknedaa
/- lex: what the tokens of a text are like (no program in sight). -/
namespace Go.Proofs.Ytdeiipbnaknedaa
set_option linter.unusedVariables false
set_option linter.unusedSimpArgs false

theorem name_not_lit (l : List Nat) : (!nameB l || !litB l) = true := by
  cases h1 : nameB l
  · rfl
  · cases h2 : litB l
    · rfl
    · exfalso
      have e1 : letterB (l.getD 0 0) = true := by
        simp [nameB] at h1
        exact h1.1.2
      have e2 : l.getD 0 0 = 39 := by
        simp [litB] at h2
        rcases h2 with h | h
        · exact h.1.1.2
        · exact h.1.1.1.2
      rw [e2] at e1
      exact absurd e1 (by decide)

/-- a token that stands in a text -/
structure TokOK (bs : List Nat) (t : Tok) : Prop where
  pre : t.2.2 = bs.take t.2.2.length
  lt : t.2.2.length < bs.length
  le : t.2.2.length + t.2.1.length ≤ bs.length
  text : (bs.drop t.2.2.length).take t.2.1.length = t.2.1
  name : (t.1 == 1) = nameB t.2.1
  lit : (t.1 == 2) = litB t.2.1
  small : t.1 ≤ 12

/-- the tokens stand one behind the other -/
abbrev Rising (ts : List Tok) : Prop := ts.Pairwise fun s t => s.2.2.length < t.2.2.length

theorem getD_take (l : List Nat) (n j : Nat) (h : j < n) : (l.take n).getD j 0 = l.getD j 0 := by
  rw [List.getD_eq_getElem?_getD, List.getD_eq_getElem?_getD, List.getElem?_take, if_pos h]
theorem litN_take (l : List Nat) (h : (litN l).2 = 0) : litN (l.take (litN l).1) = litN l := by
  revert h
  unfold litN
  by_cases h2 : l.length < 2
  · simp [h2]
  rw [if_neg h2]
  by_cases hp : plainB (l.getD 1 0) = true
  · rw [if_pos hp]
    by_cases h3 : l.length ≤ 2
    · simp [h3]
    rw [if_neg h3]
    by_cases h4 : l.getD 2 0 = 39
    · rw [if_pos h4]
      intro _
      have hl : (l.take 3).length = 3 := by rw [List.length_take]; omega
      simp only []
      rw [getD_take l 3 1 (by omega), getD_take l 3 2 (by omega), hl, if_pos hp, if_pos h4]
      simp
    · rw [if_neg h4]; simp
  · rw [if_neg hp]
    by_cases h92 : l.getD 1 0 ≠ 92
    · rw [if_pos h92]; simp
    rw [if_neg h92]
    by_cases h3 : l.length < 3
    · simp [h3]
    rw [if_neg h3]
    by_cases he : (!escapedB (l.getD 2 0)) = true
    · rw [if_pos he]; simp
    rw [if_neg he]
    by_cases h4 : l.length ≤ 3
    · simp [h4]
    rw [if_neg h4]
    by_cases h5 : l.getD 3 0 = 39
    · rw [if_pos h5]
      intro _
      have hl : (l.take 4).length = 4 := by rw [List.length_take]; omega
      simp only []
      rw [getD_take l 4 1 (by omega), getD_take l 4 2 (by omega), getD_take l 4 3 (by omega), hl, if_neg hp, if_neg h92, if_neg he, if_pos h5]
      simp
    · rw [if_neg h5]; simp
theorem wordU_kinds (l : List UInt8) : wordU l = 0 ∨ (3 ≤ wordU l ∧ wordU l ≤ 12) := by
  unfold wordU
  (repeat' split) <;> simp
/-- a token that has been read -/
theorem tokN_ok (l : List Nat) (h0 : 0 < l.length) (he : (tokN l).2.2.2 = 0) :
    (tokN l).2.1.length ≤ (tokN l).2.2.1 ∧ l.take (tokN l).2.1.length = (tokN l).2.1 ∧ ((tokN l).1 == 1) = nameB (tokN l).2.1 ∧ ((tokN l).1 == 2) = litB (tokN l).2.1 ∧ (tokN l).1 ≤ 12 := by
  revert he
  unfold tokN
  by_cases hl : letterB (l.getD 0 0) = true
  · rw [if_pos hl]
    by_cases hr : 20 < runN innerB l
    · rw [if_pos hr]; simp
    rw [if_neg hr]
    intro _
    obtain ⟨r1, r2⟩ := runN_le innerB l h0
    have hlen : (l.take (runN innerB l)).length = runN innerB l := by rw [List.length_take]; omega
    have hn : nameB (l.take (runN innerB l)) = true := by
      refine nameB_yes (by omega) (by omega) ?_ fun j hj => ?_
      · rw [getD_take _ _ _ (by omega)]; exact hl
      · rw [hlen] at hj
        rw [getD_take _ _ _ hj]
        cases j with
        | zero => unfold innerB; rw [hl]; rfl
        | succ j =>
          have hj' : j < ((l.drop 1).takeWhile innerB).length := by unfold runN at hj; omega
          have hm : ((l.drop 1).takeWhile innerB)[j]'hj' ∈ (l.drop 1).takeWhile innerB := List.getElem_mem hj'
          have ha := List.all_takeWhile (p := innerB) (l := l.drop 1)
          rw [List.all_eq_true] at ha
          have hb := ha _ hm
          have hp := (List.takeWhile_prefix innerB (l := l.drop 1)).getElem hj'
          rw [hp] at hb
          have : l.getD (j + 1) 0 = (l.drop 1)[j]'(Nat.lt_of_lt_of_le hj' (List.takeWhile_prefix innerB).length_le) := by
            rw [List.getElem_drop, List.getD_eq_getElem?_getD, List.getElem?_eq_getElem (by omega)]
            simp [Nat.add_comm]
          rw [this]; exact hb
    have hx := name_not_lit (l.take (runN innerB l))
    rw [hn] at hx
    have hlit : litB (l.take (runN innerB l)) = false := by simpa using hx
    refine ⟨by simp only [hlen]; exact Nat.le_refl _, by simp only [hlen], by simp only [hn]; rfl, by simp only [hlit]; rfl, (by decide : 1 ≤ 12)⟩
  rw [if_neg hl]
  by_cases hq : l.getD 0 0 = 39
  · rw [if_pos hq]
    by_cases hz : (litN l).2 = 0
    · rw [if_pos hz]
      intro _
      obtain ⟨r1, r2⟩ := litN_le l hz
      have hlen : (l.take (litN l).1).length = (litN l).1 := by rw [List.length_take]; omega
      have hlit : litB (l.take (litN l).1) = true := by
        rw [litB_lit, litN_take l hz, getD_take _ _ _ (by omega), hq, hz, hlen]
        simp
      have hx := name_not_lit (l.take (litN l).1)
      rw [hlit] at hx
      have hn : nameB (l.take (litN l).1) = false := by simpa using hx
      refine ⟨by simp only [hlen]; exact Nat.le_refl _, by simp only [hlen], by simp only [hn]; rfl, by simp only [hlit]; rfl, (by decide : 2 ≤ 12)⟩
    · rw [if_neg hz]
      intro h; exact absurd h hz
  · rw [if_neg hq]
    intro h
    have hk := wordU_kinds ((l.take (signN l)).map UInt8.ofNat)
    have hk0 : wordN (l.take (signN l)) ≠ 0 := by
      intro h0; rw [h0] at h; simp at h
    have hk' : wordN (l.take (signN l)) = 0 ∨ (3 ≤ wordN (l.take (signN l)) ∧ wordN (l.take (signN l)) ≤ 12) := hk
    generalize wordN (l.take (signN l)) = k at *
    refine ⟨Nat.zero_le _, by simp, ?_, ?_, by simp only []; omega⟩
    · have : (k == 1) = false := by rw [beq_eq_false_iff_ne]; omega
      simp only [this]; rfl
    · have : (k == 2) = false := by rw [beq_eq_false_iff_ne]; omega
      simp only [this]; rfl

/-- what is carried from token to token -/
theorem lex_inv (bs : List Nat) : ∀ (f : Nat) (l pre : List Nat) (mk : Nat) (acc : List Tok), pre ++ l = bs → (∀ t ∈ acc, TokOK bs t ∧ t.2.2.length < pre.length) → Rising acc →
    ((lexGo f l pre mk acc).2.2 ≠ 0 → (lexGo f l pre mk acc).1 = []) ∧
    ((lexGo f l pre mk acc).2.2 = 0 → (∀ t ∈ (lexGo f l pre mk acc).1, TokOK bs t) ∧ Rising (lexGo f l pre mk acc).1 ∧ (lexGo f l pre mk acc).2.1 = bs) := by
  intro f
  induction f with
  | zero =>
    intro l pre mk acc _ _ _
    exact ⟨fun _ => rfl, fun h => by simp [lexGo] at h⟩
  | succ f ih =>
    intro l pre mk acc hbs hacc hr
    unfold lexGo
    by_cases hend : l.length = 0 ∨ mk = 2
    · rw [if_pos hend]
      exact ⟨fun h => absurd rfl h, fun _ => ⟨fun t ht => (hacc t ht).1, hr, hbs⟩⟩
    rw [if_neg hend]
    have h0 : 0 < l.length := by omega
    by_cases hs : (skipN l).2 = true
    · rw [if_pos hs]
      by_cases hz : (skipN l).1 = 0
      · rw [if_pos hz]
        exact ⟨fun _ => rfl, fun h => by simp at h⟩
      · rw [if_neg hz]
        have hle : (skipN l).1 ≤ l.length := by
          rcases skipN_le l h0 with h | h <;> omega
        refine ih _ _ _ _ ?_ (fun t ht => ⟨(hacc t ht).1, ?_⟩) hr
        · rw [List.append_assoc, List.take_append_drop]; exact hbs
        · have := (hacc t ht).2
          rw [List.length_append, List.length_take]; omega
    · rw [if_neg hs]
      by_cases he : (tokN l).2.2.2 = 0
      · rw [if_pos he]
        obtain ⟨k1, k2, k3, k4, k5⟩ := tokN_ok l h0 he
        obtain ⟨m1, m2⟩ := tokN_le l h0 he
        have hpl : (pre ++ l).length = bs.length := by rw [hbs]
        rw [List.length_append] at hpl
        refine ih _ _ _ _ ?_ ?_ ?_
        · rw [List.append_assoc, List.take_append_drop]; exact hbs
        · intro t ht
          rw [List.mem_append] at ht
          rcases ht with ht | ht
          · refine ⟨(hacc t ht).1, ?_⟩
            have := (hacc t ht).2
            rw [List.length_append, List.length_take]; omega
          · simp only [List.mem_singleton] at ht
            subst ht
            refine ⟨⟨?_, ?_, ?_, ?_, k3, k4, k5⟩, ?_⟩
            · rw [← hbs]; simp
            · simp only []; omega
            · simp only []; omega
            · rw [← hbs]; simpa using k2
            · simp only [List.length_append, List.length_take]; omega
        · rw [Rising, List.pairwise_append]
          refine ⟨hr, List.pairwise_singleton _ _, fun a ha b hb => ?_⟩
          simp only [List.mem_singleton] at hb
          subst hb
          exact (hacc a ha).2
      · rw [if_neg he]
        exact ⟨fun _ => rfl, fun h => absurd h he⟩

theorem lex_ok (bs : List Nat) :
    ((lexN bs).2.2 ≠ 0 → (lexN bs).1 = []) ∧ ((lexN bs).2.2 = 0 → (∀ t ∈ (lexN bs).1, TokOK bs t) ∧ Rising (lexN bs).1 ∧ (lexN bs).2.1 = bs) :=
  lex_inv bs _ _ _ _ _ rfl (fun t ht => by cases ht) List.Pairwise.nil
end Go.Proofs.Ytdeiipbnaknedaa
