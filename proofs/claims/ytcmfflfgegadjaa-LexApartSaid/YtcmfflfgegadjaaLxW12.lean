/- lex: a list of tokens. -/
import Derived.Test.YtcmfflfgegadjaaLxW11
import Derived.Test.YtcmfflfgegadjaaScope2
namespace Go.Proofs.Ytcmfflfgegadjaa
open Go.RowKit
set_option linter.unusedVariables false
set_option linter.unusedSimpArgs false
section
variable {P : Program} {w : World}
theorem own_formS {base e size : Nat} {v : Value} {n : Nat} {xs : List Value} (h : w.ownsRow base e size v n xs) : ∃ A c, v = .slice A n c := by
  rcases h.2 with ⟨rfl, rfl⟩ | ⟨g, cap, cur, rfl, _⟩
  · exact ⟨_, _, rfl⟩
  · exact ⟨_, _, rfl⟩
/-- 'append' of one element of some cells: it has been laid in a block of its own -/
theorem wpl_appendS {ops : Array Oper} {rest : List Oper} {o : Oper} {a : Act} {Q : Exit → Act → World → Prop} (hgd : o.guard = none) (s x : Operand) (t : TypeId)
    (ho : o.op = .call { callee := .builtin .append, args := #[s, x], argTypes := #[t, t] })
    (base : Nat) (e : TypeId) (z : Value) (size bytes : Nat) (ht : P.underlying t = some (.slice e))
    (hi : (P.info? e).map (fun i => (i.zero, i.size, i.bytes)) = some (some z, size, bytes)) (hz1 : z.cells.size = size) (hsz0 : 0 < size)
    (A : Option Addr) (n c : Nat) (xs : List Value) (hs : a.eval s = .slice A n c) (hown : w.ownsRow base e size (.slice A n c) n xs)
    (news : List Value) (hl : news.length = size) (hx : a.eval x = .slice (some ⟨w.heap.size, 0, none⟩) 1 1) (h1 : ∀ u ∈ news, u.oneCell' = true)
    (h63 : n + 1 ≤ 9223372036854775807) (hbytes : (n + 1) * bytes ≤ 140737488355328) (hbase : base ≤ w.heap.size)
    (h : ∀ A' c' w', w'.ownsRow base e size (.slice A' (n + 1) c') (n + 1) (xs ++ news) → w.grownBy w' (Value.slice A n c).ownBlock →
      wpList P ops Q rest (a.put o.dst (.slice A' (n + 1) c')) w') : wpList P ops Q (o :: rest) a (w.alloc (.cells news.toArray e)) := by
  obtain ⟨i, hi', hz, hsz, hby⟩ := info_parts hi
  have hcells : ∀ j u, news[j]? = some u → (w.alloc (.cells news.toArray e)).cell? ((⟨w.heap.size, 0, none⟩ : Addr).add j) = some u := by
    intro j u hu
    have e1 : (⟨w.heap.size, 0, none⟩ : Addr).add j = ⟨w.heap.size, j, none⟩ := by
      unfold Addr.add
      split
      · rename_i h0; subst h0; rfl
      · simp
    rw [e1, World.cell?_alloc_mark]
    simpa using hu
  obtain ⟨v', w', hrun, h3, h4, _⟩ := run_append_own (P := P) (w.alloc (.cells news.toArray e)) base t o.type e i z size bytes ht hi' hz hsz hby hz1 hsz0 _ n xs (hown.alloc _) ⟨w.heap.size, 0, none⟩ 1 1 news (by rw [hl, Nat.one_mul]) hcells h1 (by simpa [maxLen] using h63) hbytes (by simp; omega)
  obtain ⟨A', c', rfl⟩ := own_formS h3
  have hg : w.grownBy (w.alloc (.cells news.toArray e)) (Value.slice A n c).ownBlock := World.grownBy_alloc _ _ _
  have h4' : w.grownBy w' (Value.slice A n c).ownBlock :=
    ⟨h4.os.trans hg.os, h4.tape.trans hg.tape, h4.output.trans hg.output, Nat.le_trans hg.size h4.size, fun k hk hne => (h4.block k (Nat.lt_of_lt_of_le hk hg.size) hne).trans (hg.block k hk hne)⟩
  refine wpList_plain hgd fun K hK => ?_
  unfold Oper.wp execOp
  simp only [ho, resolve, invoke, builtin, Sem.run_bind, Sem.run_pure, Result.andThen_ok, List.map_toArray, List.map_cons, List.map_nil, hs, hx, hrun]
  exact hK _ _ (h A' c' w' h3 h4')
end

/-- a token: kind, text, and the bytes ahead of it -/
abbrev Tok := Nat × List Nat × List Nat
def tokCells (t : Tok) : List Value := [.int .i64 (t.1 : Int), .string (str t.2.1), PA t.2.2]
def toksCells (ts : List Tok) : List Value := ts.flatMap tokCells
theorem toksCells_snoc (ts : List Tok) (t : Tok) : toksCells (ts ++ [t]) = toksCells ts ++ tokCells t := by simp [toksCells]

/-- what the tokens of a text are: the tokens, the bytes ahead of the place that is told, the error -/
def lexGo : Nat → List Nat → List Nat → Nat → List Tok → List Tok × List Nat × Nat
  | 0, _, _, _, _ => ([], [], 99)
  | f + 1, l, pre, mk, acc =>
    if l.length = 0 ∨ mk = 2 then (acc, pre ++ l, 0)
    else if (skipN l).2 = true then (if (skipN l).1 = 0 then ([], pre, 4) else lexGo f (l.drop (skipN l).1) (pre ++ l.take (skipN l).1) mk acc)
    else if (tokN l).2.2.2 = 0 then
      lexGo f (l.drop (tokN l).2.2.1) (pre ++ l.take (tokN l).2.2.1) (if (tokN l).1 = 9 then mk + 1 else mk) (acc ++ [((tokN l).1, (tokN l).2.1, pre)])
    else ([], pre, (tokN l).2.2.2)
def lexN (l : List Nat) : List Tok × List Nat × Nat := lexGo (l.length + 1) l [] 0 []

theorem skipN_le (l : List Nat) (h0 : 0 < l.length) : (skipN l).1 = 0 ∨ (1 ≤ (skipN l).1 ∧ (skipN l).1 ≤ l.length) := by
  unfold skipN
  have h10 : l.getD 0 0 ≠ 10 → 1 ≤ lineN l := lineN_pos l h0
  have hle := lineN_le l
  split
  · exact .inr ⟨Nat.le_refl _, h0⟩
  · rename_i hws
    split
    · rename_i hp
      have h2 := prefix_two hp
      have := thrN_le l 2 [42, 47] h2 (by decide)
      simp only []; omega
    · split
      · simp only []; omega
      · split
        · rename_i hp
          have h2 := prefix_two hp
          have := thrN_le l 2 [37, 125] h2 (by decide)
          simp only []; omega
        · split
          · rename_i h60
            have h1 := h10 (by omega)
            have htl : (l.take (lineN l)).length = lineN l := by rw [List.length_take]; omega
            have := thrN_le (l.take (lineN l)) 1 [62] (by omega) (by decide)
            simp only []; omega
          · split
            · have := actN_le l
              simp only []; omega
            · exact .inl rfl
theorem tokN_le (l : List Nat) (h0 : 0 < l.length) (he : (tokN l).2.2.2 = 0) : 1 ≤ (tokN l).2.2.1 ∧ (tokN l).2.2.1 ≤ l.length := by
  revert he
  unfold tokN
  have h1 := runN_le innerB l h0
  have h2 := litN_le l
  have h3 := signN_le l h0
  split
  · split
    · intro h; simp at h
    · intro _; exact h1
  · split
    · split
      · rename_i hz; intro _; exact h2 hz
      · rename_i hz; intro h; exact absurd h hz
    · intro _; exact h3
end Go.Proofs.Ytcmfflfgegadjaa
