/- lex: one token. -/
import Derived.Test.YtdeiipbnaknedaaYQ07
import Derived.Handy
import Derived.Lib.SmallJoins
import Derived.Lib.AppendStr
namespace Go.Proofs.Ytdeiipbnaknedaa
open Go.RowKit
set_option linter.unusedVariables false
set_option linter.unusedSimpArgs false

/-- how many bytes a sign has -/
def signN (l : List Nat) : Nat := if [37, 37].isPrefixOf l then 2 else if l.getD 0 0 = 37 then runN smallB l else 1
/-- the token that bytes begin with: kind, text, how many bytes, the error -/
def tokN (l : List Nat) : Nat × List Nat × Nat × Nat :=
  if letterB (l.getD 0 0) then (if 20 < runN innerB l then (0, [], runN innerB l, 5) else (1, l.take (runN innerB l), runN innerB l, 0))
  else if l.getD 0 0 = 39 then (if (litN l).2 = 0 then (2, l.take (litN l).1, (litN l).1, 0) else (0, [], (litN l).1, (litN l).2))
  else (wordN (l.take (signN l)), [], signN l, if wordN (l.take (signN l)) = 0 then 3 else 0)
/-- a token as a value -/
def TokV (k : Nat) (t : List Nat) (at_ : Value) : Value := .agg #[.int .i64 (k : Int), .string (str t), at_]

theorem signN_le (l : List Nat) (h : 0 < l.length) : 1 ≤ signN l ∧ signN l ≤ l.length := by
  unfold signN
  split
  · rename_i hp
    have := prefix_two hp
    omega
  · split
    · exact runN_le _ l h
    · omega
theorem litN_le (l : List Nat) (h : (litN l).2 = 0) : 1 ≤ (litN l).1 ∧ (litN l).1 ≤ l.length := by
  revert h
  unfold litN
  (repeat' split) <;> simp <;> omega

set_option maxRecDepth 4000 in
set_option maxHeartbeats 1000000 in
theorem lx_token (A : Option Addr) (n c : Nat) (bs : List Nat) (w : World) (h : Nums .u8 w A n c bs) (hb : ∀ y ∈ bs, y < 256) (h0 : 0 < n) (hn : n ≤ 100000) :
    Calls Try.prog 25 #[.slice A n c] w fun e w' => e = .returned (.tuple #[TokV (tokN bs).1 (tokN bs).2.1 (.complex .f64 0 0), .int .i64 ((tokN bs).2.2.1 : Int), .int .i64 ((tokN bs).2.2.2 : Int)]) ∧ Below w.heap.size w w' := by
  obtain rfl := h.len
  have hcap := h.cap
  obtain ⟨b, off, rfl, hbl, hcell⟩ := h.at_ h0
  have c0 := hcell 0 h0
  rw [Nat.add_zero] at c0
  have hx := lt256 hb 0
  clear hcell
  have htk : tokN bs = (if letterB (bs.getD 0 0) then (if 20 < runN innerB bs then (0, [], runN innerB bs, 5) else (1, bs.take (runN innerB bs), runN innerB bs, 0))
    else if bs.getD 0 0 = 39 then (if (litN bs).2 = 0 then (2, bs.take (litN bs).1, (litN bs).1, 0) else (0, [], (litN bs).1, (litN bs).2))
    else (wordN (bs.take (signN bs)), [], signN bs, if wordN (bs.take (signN bs)) = 0 then 3 else 0)) := rfl
  have hB := (Below.refl w.heap.size w).alloc (Nat.le_refl _) (.cells #[.int .i64 0, .string ⟨#[]⟩, .complex .f64 0 0] 38)
  have h1 := h.below hB
  have kc := fun (w : World) (C : Array Value) (n c : Nat) => Lib.run_convert_bytes_const (P := Try.prog) w 22 5 C n c Try.underlying22 Try.underlying5
  have hstr : ∀ (w : World) (A : Option Addr) (n c : Nat) (zs : List Nat), zs.length = n → Nums .u8 w A n c zs → (convert 22 9 (.slice A n c)).run Try.prog w = .ok (.string (str zs)) w :=
      fun w A n c zs hn h => by subst hn; exact run_bytes_str w _ _ _ Try.underlying22 Try.underlying5 Try.underlying9 A c zs h
  have ksc : ∀ (w : World) (a : Addr) (k : FloatKind) (x y : Nat) (m : Mode), (store a (.complex k x y) m).run Try.prog w = stored Try.prog w a (.complex k x y) m := fun w a k x y m => run_store Try.prog w a _ m rfl
  generalize tokN bs = r at *
  have hlet := fun w => lx_letter (bs.getD 0 0) w hx
  have Hs := Lib.hid hstr
  clear hstr
  cases hL : letterB (bs.getD 0 0)
  · simp only [hL, Bool.false_eq_true, if_false] at htk hlet
    obtain ⟨x, Hx⟩ : ∃ x, Hid (bs.getD 0 0 = x) := ⟨_, Lib.hid rfl⟩
    rw [Hx.out] at c0 hx htk hlet
    have Hlet := Lib.hid hlet
    clear hlet hL
    by_cases h39 : x = 39
    · have q39 : ((x : Int) == 39) = true := by rw [beq_iff_eq]; omega
      rw [if_pos h39] at htk
      have hll := litN_le bs
      have hlit := lx_literal _ _ _ bs _ h1 hb
      generalize litN bs = p at *
      obtain ⟨p1, p2⟩ := p
      simp only [] at htk hll hlit
      have Hlit := Lib.hid hlit
      clear hlit h39
      by_cases hz : p2 = 0
      · rw [if_pos hz] at htk
        have q0 : ((p2 : Int) == 0) = true := by rw [beq_iff_eq]; omega
        obtain ⟨l1, l2⟩ := hll hz
        subst htk
        have g1 : (p1 : Int) ≤ (c : Int) := by omega
        have hcv := Hs.out _ (some ⟨b, off, none⟩) p1 c (bs.take p1) (by rw [List.length_take]; omega) (h1.take p1 c l2 (by omega) hcap.2)
        clear hll hz
        go_enter Try.func25, Try.ntmps25
        go_wp2_with (first
          | (go_at_call 47; (with_reducible refine (Hlet.out _).mono ?_); rintro e w' ⟨rfl, rfl⟩)
          | (go_at_call 50; (with_reducible refine Hlit.out.mono ?_); rintro e w' ⟨rfl, rfl⟩))
        go_returns
        exact ⟨rfl, (Below.refl w.heap.size w).alloc (Nat.le_refl _) _⟩
      · rw [if_neg hz] at htk
        have q0 : ((p2 : Int) == 0) = false := by rw [beq_eq_false_iff_ne]; omega
        subst htk
        clear hll hz
        go_enter Try.func25, Try.ntmps25
        go_wp2_with (first
          | (go_at_call 47; (with_reducible refine (Hlet.out _).mono ?_); rintro e w' ⟨rfl, rfl⟩)
          | (go_at_call 50; (with_reducible refine Hlit.out.mono ?_); rintro e w' ⟨rfl, rfl⟩))
        go_returns
        exact ⟨rfl, (Below.refl w.heap.size w).alloc (Nat.le_refl _) _⟩
    · have q39 : ((x : Int) == 39) = false := by rw [beq_eq_false_iff_ne]; omega
      rw [if_neg h39] at htk
      clear h39
      have hsz : (w.alloc (.cells #[.int .i64 0, .string ⟨#[]⟩, .complex .f64 0 0] 38)).heap.size = w.heap.size + 1 := by simp
      have kc2 : (convert 22 22 (.slice (some ⟨w.heap.size + 1, 0, none⟩) 2 2)).run Try.prog ((w.alloc (.cells #[.int .i64 0, .string ⟨#[]⟩, .complex .f64 0 0] 38)).alloc (.cells #[.int .u8 37, .int .u8 37] 5)) = .ok (.slice (some ⟨w.heap.size + 1, 0, none⟩) 2 2) ((w.alloc (.cells #[.int .i64 0, .string ⟨#[]⟩, .complex .f64 0 0] 38)).alloc (.cells #[.int .u8 37, .int .u8 37] 5 (2, 3))) :=
        by
          have := Lib.run_convert_bytes_const (P := Try.prog) (w.alloc (.cells #[.int .i64 0, .string ⟨#[]⟩, .complex .f64 0 0] 38)) 22 5 #[.int .u8 37, .int .u8 37] 2 2 Try.underlying22 Try.underlying5
          rw [hsz] at this
          exact this
      have hms := mark_sl (w.alloc (.cells #[.int .i64 0, .string ⟨#[]⟩, .complex .f64 0 0] 38)) 5 (2, 3) (nums .u8 [37, 37]) 2 #[.int .u8 37, .int .u8 37] rfl rfl (by decide)
      rw [hsz] at hms
      have h2 := h1.below ((Below.refl _ _).alloc (Nat.le_refl _) (.cells #[.int .u8 37, .int .u8 37] 5 (2, 3)))
      have hpf := lx_prefix _ _ _ bs _ 2 2 [37, 37] _ h2 hms hb (by decide) h0 (by decide)
      obtain ⟨s1, s2⟩ := signN_le bs h0
      have hsg : signN bs = if [37, 37].isPrefixOf bs then 2 else if x = 37 then runN smallB bs else 1 := by rw [← Hx.out]; rfl
      have hrun := lx_run_small (some ⟨b, off, none⟩) bs.length c bs _ h2 hb h0 hn
      have hcv := Hs.out _ (some ⟨b, off, none⟩) (signN bs) c (bs.take (signN bs)) (by rw [List.length_take]; omega) (h2.take (signN bs) c s2 (by omega) hcap.2)
      have hwd := fun w => lx_word (str (bs.take (signN bs))) w
      rw [str_list] at hwd
      have hwn : wordU ((bs.take (signN bs)).map UInt8.ofNat) = wordN (bs.take (signN bs)) := rfl
      rw [hwn] at hwd
      generalize signN bs = m at *
      generalize hk : wordN (bs.take m) = k at *
      generalize str (bs.take m) = tx at *
      generalize runN smallB bs = rs at *
      have Hwd := Lib.hid hwd
      have Hpf := Lib.hid hpf
      have Hrun := Lib.hid hrun
      clear hwd hpf hrun hms hsz hwn hk
      have g1 : (m : Int) ≤ (c : Int) := by omega
      have hways : (k = 0 ∧ ((k : Int) == 0) = true) ∨ (k ≠ 0 ∧ ((k : Int) == 0) = false) := by
        simp only [beq_iff_eq, beq_eq_false_iff_ne, ne_eq]; omega
      have hways2 : ∃ e : Nat, r = (k, [], m, e) ∧ ((((k : Int) == 0) = true ∧ e = 3) ∨ (((k : Int) == 0) = false ∧ e = 0)) := by
        rcases hways with ⟨hk, hkk⟩ | ⟨hk, hkk⟩
        · rw [if_pos hk] at htk; exact ⟨3, htk, .inl ⟨hkk, rfl⟩⟩
        · rw [if_neg hk] at htk; exact ⟨0, htk, .inr ⟨hkk, rfl⟩⟩
      obtain ⟨er, rfl, hways3⟩ := hways2
      clear hways htk
      cases hp : [37, 37].isPrefixOf bs
      case true =>
        rw [hp] at Hpf hsg
        simp only [if_true] at hsg
        subst hsg
        clear hp Hrun
        rcases hways3 with ⟨hkk, rfl⟩ | ⟨hkk, rfl⟩
        all_goals
          go_enter Try.func25, Try.ntmps25
          go_wp2_with (first
            | (go_at_call 47; (with_reducible refine (Hlet.out _).mono ?_); rintro e w' ⟨rfl, rfl⟩)
            | (go_at_call 42; (with_reducible refine Hpf.out.mono ?_); rintro e w' ⟨rfl, rfl⟩)
            | (go_at_call 52; (with_reducible refine (Hwd.out _).mono ?_); rintro e w' ⟨rfl, rfl⟩))
          go_returns
          exact ⟨rfl, ((Below.refl w.heap.size w).alloc (Nat.le_refl _) _).alloc (by simp) _⟩
      rw [hp] at Hpf hsg
      simp only [Bool.false_eq_true, if_false] at hsg
      clear hp
      by_cases h37 : x = 37
      · have q37 : ((x : Int) == 37) = true := by rw [beq_iff_eq]; omega
        rw [if_pos h37] at hsg
        subst hsg
        clear h37
        rcases hways3 with ⟨hkk, rfl⟩ | ⟨hkk, rfl⟩
        all_goals
          go_enter Try.func25, Try.ntmps25
          go_wp2_with (first
            | (go_at_call 47; (with_reducible refine (Hlet.out _).mono ?_); rintro e w' ⟨rfl, rfl⟩)
            | (go_at_call 42; (with_reducible refine Hpf.out.mono ?_); rintro e w' ⟨rfl, rfl⟩)
            | (go_at_call 48; (with_reducible refine Hrun.out.mono ?_); rintro e w' ⟨rfl, rfl⟩)
            | (go_at_call 52; (with_reducible refine (Hwd.out _).mono ?_); rintro e w' ⟨rfl, rfl⟩))
          go_returns
          exact ⟨rfl, ((Below.refl w.heap.size w).alloc (Nat.le_refl _) _).alloc (by simp) _⟩
      · have q37 : ((x : Int) == 37) = false := by rw [beq_eq_false_iff_ne]; omega
        rw [if_neg h37] at hsg
        subst hsg
        clear h37 Hrun
        rcases hways3 with ⟨hkk, rfl⟩ | ⟨hkk, rfl⟩
        all_goals
          go_enter Try.func25, Try.ntmps25
          go_wp2_with (first
            | (go_at_call 47; (with_reducible refine (Hlet.out _).mono ?_); rintro e w' ⟨rfl, rfl⟩)
            | (go_at_call 42; (with_reducible refine Hpf.out.mono ?_); rintro e w' ⟨rfl, rfl⟩)
            | (go_at_call 52; (with_reducible refine (Hwd.out _).mono ?_); rintro e w' ⟨rfl, rfl⟩))
          go_returns
          exact ⟨rfl, ((Below.refl w.heap.size w).alloc (Nat.le_refl _) _).alloc (by simp) _⟩
  · simp only [hL, if_true] at htk hlet
    generalize bs.getD 0 0 = x at *
    have Hlet := Lib.hid hlet
    clear hlet hL
    obtain ⟨r1, r2⟩ := runN_le innerB bs h0
    have hrun := lx_run_inner (some ⟨b, off, none⟩) bs.length c bs _ h1 hb h0 hn
    generalize runN innerB bs = m at *
    have Hrun := Lib.hid hrun
    clear hrun
    by_cases h20 : 20 < m
    · rw [if_pos h20] at htk
      subst htk
      go_enter Try.func25, Try.ntmps25
      go_wp2_with (first
        | (go_at_call 47; (with_reducible refine (Hlet.out _).mono ?_); rintro e w' ⟨rfl, rfl⟩)
        | (go_at_call 48; (with_reducible refine Hrun.out.mono ?_); rintro e w' ⟨rfl, rfl⟩))
      go_returns
      exact ⟨rfl, hB⟩
    · rw [if_neg h20] at htk
      subst htk
      have hcv := Hs.out _ (some ⟨b, off, none⟩) m c (bs.take m) (by rw [List.length_take]; omega) (h1.take m c r2 (by omega) hcap.2)
      have g1 : (m : Int) ≤ (c : Int) := by omega
      go_enter Try.func25, Try.ntmps25
      go_wp2_with (first
        | (go_at_call 47; (with_reducible refine (Hlet.out _).mono ?_); rintro e w' ⟨rfl, rfl⟩)
        | (go_at_call 48; (with_reducible refine Hrun.out.mono ?_); rintro e w' ⟨rfl, rfl⟩))
      go_returns
      exact ⟨rfl, (Below.refl w.heap.size w).alloc (Nat.le_refl _) _⟩
end Go.Proofs.Ytdeiipbnaknedaa
/- Words for slices that read as strings; a string's bytes appended. -/
namespace Go.Proofs.Ytdeiipbnaknedaa
open Go.RowKit
set_option linter.unusedVariables false
set_option linter.unusedSimpArgs false

/-- a slice that reads as strings -/
def Strs (w : World) (A : Option Addr) (n c : Nat) (ss : List ByteArray) : Prop := Sl w A n c (ss.map Value.string)
theorem Strs.len {w : World} {A : Option Addr} {n c : Nat} {ss : List ByteArray} (h : Strs w A n c ss) : ss.length = n := by have := h.1; simpa using this
theorem Strs.cap {w : World} {A : Option Addr} {n c : Nat} {ss : List ByteArray} (h : Strs w A n c ss) : n ≤ c ∧ c ≤ 9223372036854775807 := ⟨h.2.1, h.2.2.1⟩
theorem Strs.below {w w' : World} {A : Option Addr} {n c : Nat} {ss : List ByteArray} (h : Strs w A n c ss) (hb : Below w.heap.size w w') : Strs w' A n c ss := Sl.below h hb
theorem Strs.ext {w w' : World} {A : Option Addr} {n c : Nat} {ss : List ByteArray} (h : Strs w A n c ss) {B : Nat} (hB : w.heap.size ≤ B) (hb : Below B w w') : Strs w' A n c ss := h.below (hb.mono hB)
theorem Strs.get {w : World} {A : Option Addr} {n c : Nat} {ss : List ByteArray} (h : Strs w A n c ss) {j : Nat} (hj : j < n) :
    ∃ b off s, A = some ⟨b, off, none⟩ ∧ b < w.heap.size ∧ Hid (ss[j]? = some s) ∧ w.cell? ⟨b, off + j, none⟩ = some (.string s) := by
  have hl := h.len
  obtain ⟨b, off, e, hb, hc⟩ := h.2.2.2 (by rw [List.length_map]; omega)
  refine ⟨b, off, ss[j]'(by omega), e, hb, Lib.hid (List.getElem?_eq_getElem (by omega)), ?_⟩
  rw [hc j (by rw [List.length_map]; omega)]
  simp [List.getElem?_eq_getElem (show j < ss.length by omega)]

theorem strCells_nums (s : ByteArray) : Lib.strCells s = nums .u8 (bytesOf s) := by simp [Lib.strCells, nums, bytesOf, Function.comp_def]

section
variable {P : Program} {w : World}
/-- 'append' of a string's bytes -/
theorem wpl_append_str {ops : Array Oper} {rest : List Oper} {o : Oper} {a : Act} {Q : Exit → Act → World → Prop} (hgd : o.guard = none) (s x : Operand) (t u : TypeId)
    (ho : o.op = .call { callee := .builtin .append, args := #[s, x], argTypes := #[t, u] })
    (base : Nat) (e : TypeId) (ht : P.underlying t = some (.slice e)) (hu : P.underlying u = some .string)
    (hi : (P.info? e).map (fun i => (i.zero, i.size, i.bytes)) = some (some (.int .u8 0), 1, 1))
    (A : Option Addr) (n c : Nat) (xs : List Nat) (hs : a.eval s = .slice A n c) (hown : w.ownsRow base e 1 (.slice A n c) n (nums .u8 xs))
    (z : ByteArray) (hx : a.eval x = .string z)
    (hbytes : n + z.size ≤ 140737488355328) (hbase : base ≤ w.heap.size)
    (h : ∀ A' c' w', w'.ownsRow base e 1 (.slice A' (n + z.size) c') (n + z.size) (nums .u8 (xs ++ bytesOf z)) → w.grownBy w' (Value.slice A n c).ownBlock →
      wpList P ops Q rest (a.put o.dst (.slice A' (n + z.size) c')) w') : wpList P ops Q (o :: rest) a w := by
  obtain ⟨i, hi', hz, hsz, hby⟩ := info_parts hi
  refine Lib.wpList_append_own_string w hgd s x t u ho base e i ht hu hi' hz hsz hby _ n _ hs hown z hx (by simp only [maxLen]; omega) hbytes hbase fun v' w' h1 h2 _ => ?_
  obtain ⟨A', c', rfl⟩ := own_form h1
  rw [strCells_nums, ← nums_append] at h1
  exact h A' c' w' h1 h2
end
theorem own_nil {w : World} {base e size n c : Nat} {A : Option Addr} {xs : List Value} (h : w.ownsRow base e size (.slice A n c) n xs) : A = none → c = 0 := by
  intro hA
  rcases h.2 with ⟨h0, h1⟩ | ⟨g, cap, cur, hv, hb, hg, hnc, hcm, hcs, htake⟩
  · injection h0
  · injection hv with h1 h2 h3
    rw [hA] at h1; cases h1
end Go.Proofs.Ytdeiipbnaknedaa
/- Words for grammars in memory. -/
namespace Go.Proofs.Ytdeiipbnaknedaa
open Go.RowKit
set_option linter.unusedVariables false
set_option linter.unusedSimpArgs false

/-- a terminal, a rule, a grammar: plain -/
structure Trm where
  name : ByteArray
  level : Int
  assoc : Int
structure Rul where
  left : Int
  right : List Int
  prec : Int
structure Gr where
  terms : List Trm
  nons : List ByteArray
  rules : List Rul
  start : Int

def InI64 (x : Int) : Prop := -9223372036854775808 ≤ x ∧ x ≤ 9223372036854775807

/-- a slice that reads as terminals -/
def Trms (w : World) (A : Option Addr) (n c : Nat) (ts : List Trm) : Prop :=
  ts.length = n ∧ n ≤ c ∧ c ≤ 9223372036854775807 ∧ (0 < n → ∃ b off, A = some ⟨b, off, none⟩ ∧ b < w.heap.size ∧ ∀ j t, ts[j]? = some t →
    w.cell? ⟨b, off + j * 3, none⟩ = some (.string t.name) ∧ w.cell? ⟨b, off + j * 3 + 1, none⟩ = some (.int .i64 t.level) ∧ w.cell? ⟨b, off + j * 3 + 2, none⟩ = some (.int .i64 t.assoc))
/-- a slice that reads as rules -/
def Ruls (w : World) (A : Option Addr) (n c : Nat) (rs : List Rul) : Prop :=
  rs.length = n ∧ n ≤ c ∧ c ≤ 9223372036854775807 ∧ (0 < n → ∃ b off, A = some ⟨b, off, none⟩ ∧ b < w.heap.size ∧ ∀ j r, rs[j]? = some r →
    ∃ Ar cr, w.cell? ⟨b, off + j * 3, none⟩ = some (.int .i64 r.left) ∧ w.cell? ⟨b, off + j * 3 + 1, none⟩ = some (.slice Ar r.right.length cr) ∧ w.cell? ⟨b, off + j * 3 + 2, none⟩ = some (.int .i64 r.prec) ∧ Ints .i64 w Ar r.right.length cr r.right)

theorem Trms.len {w : World} {A : Option Addr} {n c : Nat} {ts : List Trm} (h : Trms w A n c ts) : ts.length = n := h.1
theorem Trms.cap {w : World} {A : Option Addr} {n c : Nat} {ts : List Trm} (h : Trms w A n c ts) : n ≤ c ∧ c ≤ 9223372036854775807 := ⟨h.2.1, h.2.2.1⟩
theorem Trms.below {w w' : World} {A : Option Addr} {n c : Nat} {ts : List Trm} (h : Trms w A n c ts) (hb : Below w.heap.size w w') : Trms w' A n c ts := by
  refine ⟨h.1, h.2.1, h.2.2.1, fun hn => ?_⟩
  obtain ⟨b, off, e, hlt, hc⟩ := h.2.2.2 hn
  refine ⟨b, off, e, Nat.lt_of_lt_of_le hlt hb.size, fun j t ht => ?_⟩
  rw [hb.cell (p := ⟨b, off + j * 3, none⟩) hlt, hb.cell (p := ⟨b, off + j * 3 + 1, none⟩) hlt, hb.cell (p := ⟨b, off + j * 3 + 2, none⟩) hlt]
  exact hc j t ht
theorem Trms.get {w : World} {A : Option Addr} {n c : Nat} {ts : List Trm} (h : Trms w A n c ts) {j : Nat} (hj : j < n) :
    ∃ b off t, A = some ⟨b, off, none⟩ ∧ b < w.heap.size ∧ Hid (ts[j]? = some t) ∧ w.cell? ⟨b, off + j * 3, none⟩ = some (.string t.name) ∧ w.cell? ⟨b, off + j * 3 + 1, none⟩ = some (.int .i64 t.level) ∧ w.cell? ⟨b, off + j * 3 + 2, none⟩ = some (.int .i64 t.assoc) := by
  obtain ⟨b, off, e, hlt, hc⟩ := h.2.2.2 (by omega)
  have hl := h.1
  have ht : ts[j]? = some (ts[j]'(by omega)) := List.getElem?_eq_getElem (by omega)
  obtain ⟨h1, h2, h3⟩ := hc j _ ht
  exact ⟨b, off, _, e, hlt, Lib.hid ht, h1, h2, h3⟩
theorem Ruls.len {w : World} {A : Option Addr} {n c : Nat} {rs : List Rul} (h : Ruls w A n c rs) : rs.length = n := h.1
theorem Ruls.cap {w : World} {A : Option Addr} {n c : Nat} {rs : List Rul} (h : Ruls w A n c rs) : n ≤ c ∧ c ≤ 9223372036854775807 := ⟨h.2.1, h.2.2.1⟩
theorem Ruls.below {w w' : World} {A : Option Addr} {n c : Nat} {rs : List Rul} (h : Ruls w A n c rs) (hb : Below w.heap.size w w') : Ruls w' A n c rs := by
  refine ⟨h.1, h.2.1, h.2.2.1, fun hn => ?_⟩
  obtain ⟨b, off, e, hlt, hc⟩ := h.2.2.2 hn
  refine ⟨b, off, e, Nat.lt_of_lt_of_le hlt hb.size, fun j r hr => ?_⟩
  rw [hb.cell (p := ⟨b, off + j * 3, none⟩) hlt, hb.cell (p := ⟨b, off + j * 3 + 1, none⟩) hlt, hb.cell (p := ⟨b, off + j * 3 + 2, none⟩) hlt]
  obtain ⟨Ar, cr, h1, h2, h3, h4⟩ := hc j r hr
  exact ⟨Ar, cr, h1, h2, h3, h4.below hb⟩
theorem Ruls.get {w : World} {A : Option Addr} {n c : Nat} {rs : List Rul} (h : Ruls w A n c rs) {j : Nat} (hj : j < n) :
    ∃ b off r Ar cr, A = some ⟨b, off, none⟩ ∧ b < w.heap.size ∧ Hid (rs[j]? = some r) ∧ w.cell? ⟨b, off + j * 3, none⟩ = some (.int .i64 r.left) ∧ w.cell? ⟨b, off + j * 3 + 1, none⟩ = some (.slice Ar r.right.length cr) ∧ w.cell? ⟨b, off + j * 3 + 2, none⟩ = some (.int .i64 r.prec) ∧ Ints .i64 w Ar r.right.length cr r.right := by
  obtain ⟨b, off, e, hlt, hc⟩ := h.2.2.2 (by omega)
  have hl := h.1
  have hr : rs[j]? = some (rs[j]'(by omega)) := List.getElem?_eq_getElem (by omega)
  obtain ⟨Ar, cr, h1, h2, h3, h4⟩ := hc j _ hr
  exact ⟨b, off, _, Ar, cr, e, hlt, Lib.hid hr, h1, h2, h3, h4⟩

/-- where a grammar's three slices lie -/
structure GH where
  a1 : Option Addr
  n1 : Nat
  c1 : Nat
  a2 : Option Addr
  n2 : Nat
  c2 : Nat
  a3 : Option Addr
  n3 : Nat
  c3 : Nat
/-- a grammar as a value -/
abbrev GV (h : GH) (st : Int) : Value := .agg #[.slice h.a1 h.n1 h.c1, .slice h.a2 h.n2 h.c2, .slice h.a3 h.n3 h.c3, .int .i64 st]
/-- a grammar that lies in memory -/
structure GrAt (w : World) (h : GH) (G : Gr) : Prop where
  terms : Trms w h.a1 h.n1 h.c1 G.terms
  nons : Strs w h.a2 h.n2 h.c2 G.nons
  rules : Ruls w h.a3 h.n3 h.c3 G.rules
  wf : ∀ r ∈ G.rules, ∀ s ∈ r.right, InI64 s
theorem GrAt.below {w w' : World} {h : GH} {G : Gr} (g : GrAt w h G) (hb : Below w.heap.size w w') : GrAt w' h G := ⟨g.terms.below hb, g.nons.below hb, g.rules.below hb, g.wf⟩
theorem GrAt.ext {w w' : World} {h : GH} {G : Gr} (g : GrAt w h G) {B : Nat} (hB : w.heap.size ≤ B) (hb : Below B w w') : GrAt w' h G := g.below (hb.mono hB)
theorem alloc_below (w : World) (o : Obj) : Below w.heap.size w (w.alloc o) := (Below.refl _ _).alloc (Nat.le_refl _) _
end Go.Proofs.Ytdeiipbnaknedaa
