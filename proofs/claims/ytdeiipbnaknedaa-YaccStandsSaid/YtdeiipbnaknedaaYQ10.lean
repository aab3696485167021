/- A scope with two labels: one that the run comes back to, and one at its end. -/
import Derived.Test.YtdeiipbnaknedaaYQ09
namespace Go.Proofs.Ytdeiipbnaknedaa
open Go

/-- as Q; by no goto -/
def Exit.nogo (Q : Exit → Act → World → Prop) : Exit → Act → World → Prop
  | .goto _, _, _ => False
  | e, a, w => Q e a w
section
variable {P : Program} {a : Act} {w : World} {Q : Exit → Act → World → Prop}
theorem nogo_ret : Exit.nogo Q .ret a w = Q .ret a w := rfl
theorem nogo_jumps {c : Code} {J : Nat → Act → World → Prop} (h : c.wp P (Exit.nogo Q) a w) : c.wp P (Exit.jumps J Q) a w :=
  wp_mono h fun e a w q => by
    cases e with
    | goto l => exact q.elim
    | _ => exact q

theorem wp_scope_two {p1 p2 p3 X Y : Code} (l m : Nat) (hne : l ≠ m) (J Jm : Act → World → Prop) (μ : Act → World → Nat)
    (hf1 : findLabel p1 l = none) (hf2 : findLabel p2 l = none) (hf3 : findLabel p3 l = none) (hm : findLabel (p1.seq (p2.seq (p3.seq ((Code.label l).seq X)))) m = some Y)
    (h0 : p1.wp P (Exit.then (fun a w => p2.wp P (Exit.then (fun a w => p3.wp P (Exit.then J (Exit.nogo Q)) a w) (Exit.nogo Q)) a w) (Exit.nogo Q)) a w)
    (pass : ∀ a w, J a w → X.wp P (Exit.jumps (fun l' a' w' => (l' = l ∧ J a' w' ∧ μ a' w' < μ a w) ∨ (l' = m ∧ Jm a' w')) Q) a w)
    (passm : ∀ a w, Jm a w → Y.wp P (Exit.nogo Q) a w) :
    (Code.scope (p1.seq (p2.seq (p3.seq ((Code.label l).seq X))))).wp P Q a w := by
  have wk : ∀ {c : Code} {a w}, c.wp P (Exit.jumps (fun l' a' w' => (l' = l ∧ J a' w' ∧ μ a' w' < μ a w) ∨ (l' = m ∧ Jm a' w')) Q) a w → ∀ n, μ a w = n →
      c.wp P (Exit.jumps (fun l' a' w' => ((l' = l ∧ J a' w') ∨ (l' = m ∧ Jm a' w')) ∧ (if l' = m then 0 else μ a' w' + 1) < n + 1) Q) a w := fun h n hn => by
    refine jumps_weak h fun l2 a' w' h => ?_
    rcases h with ⟨rfl, h2, h3⟩ | ⟨rfl, h2⟩
    · exact ⟨.inl ⟨rfl, h2⟩, by rw [if_neg hne]; omega⟩
    · exact ⟨.inr ⟨rfl, h2⟩, by rw [if_pos rfl]; omega⟩
  refine wp_scope_all (fun l' a w => (l' = l ∧ J a w) ∨ (l' = m ∧ Jm a w)) (fun l' a w => if l' = m then 0 else μ a w + 1) ?_ ?_
  · intro l' a w h
    rcases h with ⟨rfl, hJ⟩ | ⟨rfl, hJ⟩
    · refine ⟨.seq .skip X, by simp [findLabel, hf1, hf2, hf3], wp_seq (wp_skip ?_)⟩
      rw [if_neg hne]
      exact wk (pass a w hJ) _ rfl
    · exact ⟨Y, hm, nogo_jumps (passm a w hJ)⟩
  · have last : ∀ a w, J a w → ((Code.label l).seq X).wp P (Exit.jumps (fun l' a w => (l' = l ∧ J a w) ∨ (l' = m ∧ Jm a w)) Q) a w := fun a w hJ =>
      wp_seq (wp_label (jumps_weak (wk (pass a w hJ) _ rfl) fun _ _ _ h => h.1))
    have up : ∀ {e : Exit} {a w}, Exit.nogo Q e a w → e ≠ .normal → Exit.jumps (fun l' a w => (l' = l ∧ J a w) ∨ (l' = m ∧ Jm a w)) Q e a w := fun {e a w} q _ => by
      cases e with
      | goto l => exact q.elim
      | _ => exact q
    refine wp_seq (wp_mono h0 fun e a w q => ?_)
    cases e with
    | normal =>
      refine wp_seq (wp_mono q fun e a w q => ?_)
      cases e with
      | normal =>
        refine wp_seq (wp_mono q fun e a w q => ?_)
        cases e with
        | normal => exact last a w q
        | goto l => exact (show False from q).elim
        | _ => exact q
      | goto l => exact (show False from q).elim
      | _ => exact q
    | goto l => exact (show False from q).elim
    | _ => exact q
end
end Go.Proofs.Ytdeiipbnaknedaa
/- lex: a list of tokens. -/
namespace Go.Proofs.Ytdeiipbnaknedaa
open Go.RowKit
set_option linter.unusedVariables false
set_option linter.unusedSimpArgs false
section
variable {P : Program} {w : World}
theorem own_formS {base e size : Nat} {v : Value} {n : Nat} {xs : List Value} (h : w.ownsRow base e size v n xs) : ∃ A c, v = .slice A n c := by
  rcases h.2 with ⟨rfl, rfl⟩ | ⟨g, cap, cur, rfl, _⟩
  · exact ⟨_, _, rfl⟩
  · exact ⟨_, _, rfl⟩
/-- 'append' of one element of some cells: it has been laid in a block of its own -/
theorem wpl_appendS {ops : Array Oper} {rest : List Oper} {o : Oper} {a : Act} {Q : Exit → Act → World → Prop} (hgd : o.guard = none) (s x : Operand) (t : TypeId)
    (ho : o.op = .call { callee := .builtin .append, args := #[s, x], argTypes := #[t, t] })
    (base : Nat) (e : TypeId) (z : Value) (size bytes : Nat) (ht : P.underlying t = some (.slice e))
    (hi : (P.info? e).map (fun i => (i.zero, i.size, i.bytes)) = some (some z, size, bytes)) (hz1 : z.cells.size = size) (hsz0 : 0 < size)
    (A : Option Addr) (n c : Nat) (xs : List Value) (hs : a.eval s = .slice A n c) (hown : w.ownsRow base e size (.slice A n c) n xs)
    (news : List Value) (hl : news.length = size) (hx : a.eval x = .slice (some ⟨w.heap.size, 0, none⟩) 1 1) (h1 : ∀ u ∈ news, u.oneCell' = true)
    (h63 : n + 1 ≤ 9223372036854775807) (hbytes : (n + 1) * bytes ≤ 140737488355328) (hbase : base ≤ w.heap.size)
    (h : ∀ A' c' w', w'.ownsRow base e size (.slice A' (n + 1) c') (n + 1) (xs ++ news) → w.grownBy w' (Value.slice A n c).ownBlock →
      wpList P ops Q rest (a.put o.dst (.slice A' (n + 1) c')) w') : wpList P ops Q (o :: rest) a (w.alloc (.cells news.toArray e)) := by
  obtain ⟨i, hi', hz, hsz, hby⟩ := info_parts hi
  have hcells : ∀ j u, news[j]? = some u → (w.alloc (.cells news.toArray e)).cell? ((⟨w.heap.size, 0, none⟩ : Addr).add j) = some u := by
    intro j u hu
    have e1 : (⟨w.heap.size, 0, none⟩ : Addr).add j = ⟨w.heap.size, j, none⟩ := by
      unfold Addr.add
      split
      · rename_i h0; subst h0; rfl
      · simp
    rw [e1, World.cell?_alloc_mark]
    simpa using hu
  obtain ⟨v', w', hrun, h3, h4, _⟩ := run_append_own (P := P) (w.alloc (.cells news.toArray e)) base t o.type e i z size bytes ht hi' hz hsz hby hz1 hsz0 _ n xs (hown.alloc _) ⟨w.heap.size, 0, none⟩ 1 1 news (by rw [hl, Nat.one_mul]) hcells h1 (by simpa [maxLen] using h63) hbytes (by simp; omega)
  obtain ⟨A', c', rfl⟩ := own_formS h3
  have hg : w.grownBy (w.alloc (.cells news.toArray e)) (Value.slice A n c).ownBlock := World.grownBy_alloc _ _ _
  have h4' : w.grownBy w' (Value.slice A n c).ownBlock :=
    ⟨h4.os.trans hg.os, h4.tape.trans hg.tape, h4.output.trans hg.output, Nat.le_trans hg.size h4.size, fun k hk hne => (h4.block k (Nat.lt_of_lt_of_le hk hg.size) hne).trans (hg.block k hk hne)⟩
  refine wpList_plain hgd fun K hK => ?_
  unfold Oper.wp execOp
  simp only [ho, resolve, invoke, builtin, Sem.run_bind, Sem.run_pure, Result.andThen_ok, List.map_toArray, List.map_cons, List.map_nil, hs, hx, hrun]
  exact hK _ _ (h A' c' w' h3 h4')
end

/-- a token: kind, text, and the bytes ahead of it -/
abbrev Tok := Nat × List Nat × List Nat
def tokCells (t : Tok) : List Value := [.int .i64 (t.1 : Int), .string (str t.2.1), PA t.2.2]
def toksCells (ts : List Tok) : List Value := ts.flatMap tokCells
theorem toksCells_snoc (ts : List Tok) (t : Tok) : toksCells (ts ++ [t]) = toksCells ts ++ tokCells t := by simp [toksCells]

/-- what the tokens of a text are: the tokens, the bytes ahead of the place that is told, the error -/
def lexGo : Nat → List Nat → List Nat → Nat → List Tok → List Tok × List Nat × Nat
  | 0, _, _, _, _ => ([], [], 99)
  | f + 1, l, pre, mk, acc =>
    if l.length = 0 ∨ mk = 2 then (acc, pre ++ l, 0)
    else if (skipN l).2 = true then (if (skipN l).1 = 0 then ([], pre, 4) else lexGo f (l.drop (skipN l).1) (pre ++ l.take (skipN l).1) mk acc)
    else if (tokN l).2.2.2 = 0 then
      lexGo f (l.drop (tokN l).2.2.1) (pre ++ l.take (tokN l).2.2.1) (if (tokN l).1 = 9 then mk + 1 else mk) (acc ++ [((tokN l).1, (tokN l).2.1, pre)])
    else ([], pre, (tokN l).2.2.2)
def lexN (l : List Nat) : List Tok × List Nat × Nat := lexGo (l.length + 1) l [] 0 []

theorem skipN_le (l : List Nat) (h0 : 0 < l.length) : (skipN l).1 = 0 ∨ (1 ≤ (skipN l).1 ∧ (skipN l).1 ≤ l.length) := by
  unfold skipN
  have h10 : l.getD 0 0 ≠ 10 → 1 ≤ lineN l := lineN_pos l h0
  have hle := lineN_le l
  split
  · exact .inr ⟨Nat.le_refl _, h0⟩
  · rename_i hws
    split
    · rename_i hp
      have h2 := prefix_two hp
      have := thrN_le l 2 [42, 47] h2 (by decide)
      simp only []; omega
    · split
      · simp only []; omega
      · split
        · rename_i hp
          have h2 := prefix_two hp
          have := thrN_le l 2 [37, 125] h2 (by decide)
          simp only []; omega
        · split
          · rename_i h60
            have h1 := h10 (by omega)
            have htl : (l.take (lineN l)).length = lineN l := by rw [List.length_take]; omega
            have := thrN_le (l.take (lineN l)) 1 [62] (by omega) (by decide)
            simp only []; omega
          · split
            · have := actN_le l
              simp only []; omega
            · exact .inl rfl
theorem tokN_le (l : List Nat) (h0 : 0 < l.length) (he : (tokN l).2.2.2 = 0) : 1 ≤ (tokN l).2.2.1 ∧ (tokN l).2.2.1 ≤ l.length := by
  revert he
  unfold tokN
  have h1 := runN_le innerB l h0
  have h2 := litN_le l
  have h3 := signN_le l h0
  split
  · split
    · intro h; simp at h
    · intro _; exact h1
  · split
    · split
      · rename_i hz; intro _; exact h2 hz
      · rename_i hz; intro h; exact absurd h hz
    · intro _; exact h3
end Go.Proofs.Ytdeiipbnaknedaa
/- lex: nothing is passed; what is carried over worlds. -/
namespace Go.Proofs.Ytdeiipbnaknedaa
open Go.RowKit
set_option linter.unusedVariables false
set_option linter.unusedSimpArgs false

set_option maxHeartbeats 1000000 in
theorem lx_pass0 (g c : Nat) (A : Option Addr) (pre : List Nat) (w : World) (hg : Blk w g 63 #[.slice A 0 c, PA pre]) (hA : A = none → c = 0) (hc : c ≤ 9223372036854775807) :
    Calls Try.prog 24 #[.pointer (some ⟨g, 0, none⟩), .int .i64 0] w fun e w' => e = .returned undef ∧
      (∃ v, Blk w' g 63 #[v, PA pre]) ∧ Only g w w' := by
  have k0 := hg.cell 0
  simp only [List.getElem?_toArray, List.getElem?_cons_zero] at k0
  have fz0 := hg.frozen 0
  have Hset := Lib.hid (fun v => hg.set 0 v)
  have gc : (0 : Int) ≤ (c : Int) := by omega
  clear hg
  rcases A with _ | ⟨b, off, sp⟩
  · obtain rfl := hA rfl
    go_enter Try.func24, Try.ntmps24
    go_wp2
    go_loop [13] (fun i => i = .int .i64 0) (fun _ => 0)
    case atStart => rfl
    case round =>
      subst hrel
      go_wp2
      go_end0
      exact ⟨rfl, ⟨_, Hset.out _⟩, Only.set _ _ _ _⟩
  · have hw : c = 0 ∨ c ≠ 0 := by omega
    rcases hw with hc0 | hc0
    all_goals
      go_enter Try.func24, Try.ntmps24
      go_wp2
      go_loop [13] (fun i => i = .int .i64 0) (fun _ => 0)
      case atStart => rfl
      case round =>
        subst hrel
        go_wp2
        go_end0
        exact ⟨rfl, ⟨_, Hset.out _⟩, Only.set _ _ _ _⟩

theorem own_belowS {w w' : World} {base e size : Nat} {v : Value} {n : Nat} {xs : List Value} (h : w.ownsRow base e size v n xs) (hb : Below w.heap.size w w') :
    w'.ownsRow base e size v n xs := by
  refine ⟨h.1, ?_⟩
  rcases h.2 with hn | ⟨g, cap, cur, hv, hbg, hg, rest⟩
  · exact .inl hn
  · refine .inr ⟨g, cap, cur, hv, hbg, ?_, rest⟩
    have hlt : g < w.heap.size := by
      rcases Nat.lt_or_ge g w.heap.size with hlt | hge
      · exact hlt
      · rw [Array.getElem?_eq_none hge] at hg; cases hg
    exact (hb.block g hlt).trans hg
theorem own_ne {w : World} {base e t size n c g : Nat} {A : Option Addr} {xs : List Value} {cs : Array Value} (h : w.ownsRow base e size (.slice A n c) n xs) (hg : Blk w g t cs) (ht : t ≠ e) : ∀ a, A = some a → a.block ≠ g := by
  intro a ha he
  subst ha
  rcases h.2 with ⟨hv, _⟩ | ⟨g', cap, cur, hv, _, hg', _⟩
  · cases hv
  · injection hv with h1 h2 h3
    injection h1 with h1
    subst h1
    simp only [] at he
    subst he
    unfold Blk at hg
    rw [hg] at hg'
    injection hg' with hg'
    injection hg' with h1 h2
    exact ht h2
theorem own_only {w w' : World} {base e t size n c g : Nat} {A : Option Addr} {xs : List Value} {cs : Array Value} (h : w.ownsRow base e size (.slice A n c) n xs) (hg : Blk w g t cs) (ht : t ≠ e) (ho : Only g w w') :
    w'.ownsRow base e size (.slice A n c) n xs := by
  have hne := own_ne h hg ht
  refine ⟨h.1, ?_⟩
  rcases h.2 with hn | ⟨g', cap, cur, hv, hbg, hg', rest⟩
  · exact .inl hn
  · refine .inr ⟨g', cap, cur, hv, hbg, ?_, rest⟩
    injection hv with h1 h2 h3
    exact (ho.block g' (hne _ h1)).trans hg'
theorem Blk.grownO {w w' : World} {base e t size n c g : Nat} {A : Option Addr} {xs : List Value} {cs : Array Value} (hg : Blk w g t cs) (h : w.ownsRow base e size (.slice A n c) n xs) (ht : t ≠ e) (hgr : w.grownBy w' (Value.slice A n c).ownBlock) : Blk w' g t cs := by
  have hne := own_ne h hg ht
  refine (hgr.block g hg.lt ?_).trans hg
  rcases A with _ | a
  · intro h; cases h
  · intro h
    injection h with h
    exact hne a rfl h.symm
theorem below_appendS {w wr w' : World} {base e size : Nat} {A : Option Addr} {n c : Nat} {xs : List Value} (hb : Below base w wr) (hg : wr.grownBy w' (Value.slice A n c).ownBlock)
    (hown : wr.ownsRow base e size (.slice A n c) n xs) (hbase : base ≤ wr.heap.size) : Below base w w' :=
  hb.grown hg hbase fun k hk => (hown.lt k hk).1
end Go.Proofs.Ytdeiipbnaknedaa
