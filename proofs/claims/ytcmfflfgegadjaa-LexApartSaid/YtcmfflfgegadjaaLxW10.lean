/- lex: one token. -/
import Derived.Test.YtcmfflfgegadjaaLxW9
import Derived.Handy
import Derived.Lib.SmallJoins
namespace Go.Proofs.Ytcmfflfgegadjaa
open Go.RowKit
set_option linter.unusedVariables false
set_option linter.unusedSimpArgs false

/-- how many bytes a sign has -/
def signN (l : List Nat) : Nat := if [37, 37].isPrefixOf l then 2 else if l.getD 0 0 = 37 then runN smallB l else 1
/-- the token that bytes begin with: kind, text, how many bytes, the error -/
def tokN (l : List Nat) : Nat × List Nat × Nat × Nat :=
  if letterB (l.getD 0 0) then (if 20 < runN innerB l then (0, [], runN innerB l, 5) else (1, l.take (runN innerB l), runN innerB l, 0))
  else if l.getD 0 0 = 39 then (if (litN l).2 = 0 then (2, l.take (litN l).1, (litN l).1, 0) else (0, [], (litN l).1, (litN l).2))
  else (wordN (l.take (signN l)), [], signN l, if wordN (l.take (signN l)) = 0 then 3 else 0)
/-- a token as a value -/
def TokV (k : Nat) (t : List Nat) (at_ : Value) : Value := .agg #[.int .i64 (k : Int), .string (str t), at_]

theorem signN_le (l : List Nat) (h : 0 < l.length) : 1 ≤ signN l ∧ signN l ≤ l.length := by
  unfold signN
  split
  · rename_i hp
    have := prefix_two hp
    omega
  · split
    · exact runN_le _ l h
    · omega
theorem litN_le (l : List Nat) (h : (litN l).2 = 0) : 1 ≤ (litN l).1 ∧ (litN l).1 ≤ l.length := by
  revert h
  unfold litN
  (repeat' split) <;> simp <;> omega

set_option maxRecDepth 4000 in
set_option maxHeartbeats 1000000 in
theorem lx_token (A : Option Addr) (n c : Nat) (bs : List Nat) (w : World) (h : Nums .u8 w A n c bs) (hb : ∀ y ∈ bs, y < 256) (h0 : 0 < n) (hn : n ≤ 100000) :
    Calls Try.prog 27 #[.slice A n c] w fun e w' => e = .returned (.tuple #[TokV (tokN bs).1 (tokN bs).2.1 (.complex .f64 0 0), .int .i64 ((tokN bs).2.2.1 : Int), .int .i64 ((tokN bs).2.2.2 : Int)]) ∧ Below w.heap.size w w' := by
  obtain rfl := h.len
  have hcap := h.cap
  obtain ⟨b, off, rfl, hbl, hcell⟩ := h.at_ h0
  have c0 := hcell 0 h0
  rw [Nat.add_zero] at c0
  have hx := lt256 hb 0
  clear hcell
  have htk : tokN bs = (if letterB (bs.getD 0 0) then (if 20 < runN innerB bs then (0, [], runN innerB bs, 5) else (1, bs.take (runN innerB bs), runN innerB bs, 0))
    else if bs.getD 0 0 = 39 then (if (litN bs).2 = 0 then (2, bs.take (litN bs).1, (litN bs).1, 0) else (0, [], (litN bs).1, (litN bs).2))
    else (wordN (bs.take (signN bs)), [], signN bs, if wordN (bs.take (signN bs)) = 0 then 3 else 0)) := rfl
  have hB := (Below.refl w.heap.size w).alloc (Nat.le_refl _) (.cells #[.int .i64 0, .string ⟨#[]⟩, .complex .f64 0 0] 32)
  have h1 := h.below hB
  have kc := fun (w : World) (C : Array Value) (n c : Nat) => Lib.run_convert_bytes_const (P := Try.prog) w 24 5 C n c Try.underlying24 Try.underlying5
  have hstr : ∀ (w : World) (A : Option Addr) (n c : Nat) (zs : List Nat), zs.length = n → Nums .u8 w A n c zs → (convert 24 9 (.slice A n c)).run Try.prog w = .ok (.string (str zs)) w :=
      fun w A n c zs hn h => by subst hn; exact run_bytes_str w _ _ _ Try.underlying24 Try.underlying5 Try.underlying9 A c zs h
  have ksc : ∀ (w : World) (a : Addr) (k : FloatKind) (x y : Nat) (m : Mode), (store a (.complex k x y) m).run Try.prog w = stored Try.prog w a (.complex k x y) m := fun w a k x y m => run_store Try.prog w a _ m rfl
  generalize tokN bs = r at *
  have hlet := fun w => lx_letter (bs.getD 0 0) w hx
  have Hs := Lib.hid hstr
  clear hstr
  cases hL : letterB (bs.getD 0 0)
  · simp only [hL, Bool.false_eq_true, if_false] at htk hlet
    obtain ⟨x, Hx⟩ : ∃ x, Hid (bs.getD 0 0 = x) := ⟨_, Lib.hid rfl⟩
    rw [Hx.out] at c0 hx htk hlet
    have Hlet := Lib.hid hlet
    clear hlet hL
    by_cases h39 : x = 39
    · have q39 : ((x : Int) == 39) = true := by rw [beq_iff_eq]; omega
      rw [if_pos h39] at htk
      have hll := litN_le bs
      have hlit := lx_literal _ _ _ bs _ h1 hb
      generalize litN bs = p at *
      obtain ⟨p1, p2⟩ := p
      simp only [] at htk hll hlit
      have Hlit := Lib.hid hlit
      clear hlit h39
      by_cases hz : p2 = 0
      · rw [if_pos hz] at htk
        have q0 : ((p2 : Int) == 0) = true := by rw [beq_iff_eq]; omega
        obtain ⟨l1, l2⟩ := hll hz
        subst htk
        have g1 : (p1 : Int) ≤ (c : Int) := by omega
        have hcv := Hs.out _ (some ⟨b, off, none⟩) p1 c (bs.take p1) (by rw [List.length_take]; omega) (h1.take p1 c l2 (by omega) hcap.2)
        clear hll hz
        go_enter Try.func27, Try.ntmps27
        go_wp2_with (first
          | (go_at_call 19; (with_reducible refine (Hlet.out _).mono ?_); rintro e w' ⟨rfl, rfl⟩)
          | (go_at_call 23; (with_reducible refine Hlit.out.mono ?_); rintro e w' ⟨rfl, rfl⟩))
        go_returns
        exact ⟨rfl, (Below.refl w.heap.size w).alloc (Nat.le_refl _) _⟩
      · rw [if_neg hz] at htk
        have q0 : ((p2 : Int) == 0) = false := by rw [beq_eq_false_iff_ne]; omega
        subst htk
        clear hll hz
        go_enter Try.func27, Try.ntmps27
        go_wp2_with (first
          | (go_at_call 19; (with_reducible refine (Hlet.out _).mono ?_); rintro e w' ⟨rfl, rfl⟩)
          | (go_at_call 23; (with_reducible refine Hlit.out.mono ?_); rintro e w' ⟨rfl, rfl⟩))
        go_returns
        exact ⟨rfl, (Below.refl w.heap.size w).alloc (Nat.le_refl _) _⟩
    · have q39 : ((x : Int) == 39) = false := by rw [beq_eq_false_iff_ne]; omega
      rw [if_neg h39] at htk
      clear h39
      have hsz : (w.alloc (.cells #[.int .i64 0, .string ⟨#[]⟩, .complex .f64 0 0] 32)).heap.size = w.heap.size + 1 := by simp
      have kc2 : (convert 24 24 (.slice (some ⟨w.heap.size + 1, 0, none⟩) 2 2)).run Try.prog ((w.alloc (.cells #[.int .i64 0, .string ⟨#[]⟩, .complex .f64 0 0] 32)).alloc (.cells #[.int .u8 37, .int .u8 37] 5)) = .ok (.slice (some ⟨w.heap.size + 1, 0, none⟩) 2 2) ((w.alloc (.cells #[.int .i64 0, .string ⟨#[]⟩, .complex .f64 0 0] 32)).alloc (.cells #[.int .u8 37, .int .u8 37] 5 (2, 3))) :=
        by
          have := Lib.run_convert_bytes_const (P := Try.prog) (w.alloc (.cells #[.int .i64 0, .string ⟨#[]⟩, .complex .f64 0 0] 32)) 24 5 #[.int .u8 37, .int .u8 37] 2 2 Try.underlying24 Try.underlying5
          rw [hsz] at this
          exact this
      have hms := mark_sl (w.alloc (.cells #[.int .i64 0, .string ⟨#[]⟩, .complex .f64 0 0] 32)) 5 (2, 3) (nums .u8 [37, 37]) 2 #[.int .u8 37, .int .u8 37] rfl rfl (by decide)
      rw [hsz] at hms
      have h2 := h1.below ((Below.refl _ _).alloc (Nat.le_refl _) (.cells #[.int .u8 37, .int .u8 37] 5 (2, 3)))
      have hpf := lx_prefix _ _ _ bs _ 2 2 [37, 37] _ h2 hms hb (by decide) h0 (by decide)
      obtain ⟨s1, s2⟩ := signN_le bs h0
      have hsg : signN bs = if [37, 37].isPrefixOf bs then 2 else if x = 37 then runN smallB bs else 1 := by rw [← Hx.out]; rfl
      have hrun := lx_run_small (some ⟨b, off, none⟩) bs.length c bs _ h2 hb h0 hn
      have hcv := Hs.out _ (some ⟨b, off, none⟩) (signN bs) c (bs.take (signN bs)) (by rw [List.length_take]; omega) (h2.take (signN bs) c s2 (by omega) hcap.2)
      have hwd := fun w => lx_word (str (bs.take (signN bs))) w
      rw [str_list] at hwd
      have hwn : wordU ((bs.take (signN bs)).map UInt8.ofNat) = wordN (bs.take (signN bs)) := rfl
      rw [hwn] at hwd
      generalize signN bs = m at *
      generalize hk : wordN (bs.take m) = k at *
      generalize str (bs.take m) = tx at *
      generalize runN smallB bs = rs at *
      have Hwd := Lib.hid hwd
      have Hpf := Lib.hid hpf
      have Hrun := Lib.hid hrun
      clear hwd hpf hrun hms hsz hwn hk
      have g1 : (m : Int) ≤ (c : Int) := by omega
      have hways : (k = 0 ∧ ((k : Int) == 0) = true) ∨ (k ≠ 0 ∧ ((k : Int) == 0) = false) := by
        simp only [beq_iff_eq, beq_eq_false_iff_ne, ne_eq]; omega
      have hways2 : ∃ e : Nat, r = (k, [], m, e) ∧ ((((k : Int) == 0) = true ∧ e = 3) ∨ (((k : Int) == 0) = false ∧ e = 0)) := by
        rcases hways with ⟨hk, hkk⟩ | ⟨hk, hkk⟩
        · rw [if_pos hk] at htk; exact ⟨3, htk, .inl ⟨hkk, rfl⟩⟩
        · rw [if_neg hk] at htk; exact ⟨0, htk, .inr ⟨hkk, rfl⟩⟩
      obtain ⟨er, rfl, hways3⟩ := hways2
      clear hways htk
      cases hp : [37, 37].isPrefixOf bs
      case true =>
        rw [hp] at Hpf hsg
        simp only [if_true] at hsg
        subst hsg
        clear hp Hrun
        rcases hways3 with ⟨hkk, rfl⟩ | ⟨hkk, rfl⟩
        all_goals
          go_enter Try.func27, Try.ntmps27
          go_wp2_with (first
            | (go_at_call 19; (with_reducible refine (Hlet.out _).mono ?_); rintro e w' ⟨rfl, rfl⟩)
            | (go_at_call 39; (with_reducible refine Hpf.out.mono ?_); rintro e w' ⟨rfl, rfl⟩)
            | (go_at_call 46; (with_reducible refine (Hwd.out _).mono ?_); rintro e w' ⟨rfl, rfl⟩))
          go_returns
          exact ⟨rfl, ((Below.refl w.heap.size w).alloc (Nat.le_refl _) _).alloc (by simp) _⟩
      rw [hp] at Hpf hsg
      simp only [Bool.false_eq_true, if_false] at hsg
      clear hp
      by_cases h37 : x = 37
      · have q37 : ((x : Int) == 37) = true := by rw [beq_iff_eq]; omega
        rw [if_pos h37] at hsg
        subst hsg
        clear h37
        rcases hways3 with ⟨hkk, rfl⟩ | ⟨hkk, rfl⟩
        all_goals
          go_enter Try.func27, Try.ntmps27
          go_wp2_with (first
            | (go_at_call 19; (with_reducible refine (Hlet.out _).mono ?_); rintro e w' ⟨rfl, rfl⟩)
            | (go_at_call 39; (with_reducible refine Hpf.out.mono ?_); rintro e w' ⟨rfl, rfl⟩)
            | (go_at_call 44; (with_reducible refine Hrun.out.mono ?_); rintro e w' ⟨rfl, rfl⟩)
            | (go_at_call 46; (with_reducible refine (Hwd.out _).mono ?_); rintro e w' ⟨rfl, rfl⟩))
          go_returns
          exact ⟨rfl, ((Below.refl w.heap.size w).alloc (Nat.le_refl _) _).alloc (by simp) _⟩
      · have q37 : ((x : Int) == 37) = false := by rw [beq_eq_false_iff_ne]; omega
        rw [if_neg h37] at hsg
        subst hsg
        clear h37 Hrun
        rcases hways3 with ⟨hkk, rfl⟩ | ⟨hkk, rfl⟩
        all_goals
          go_enter Try.func27, Try.ntmps27
          go_wp2_with (first
            | (go_at_call 19; (with_reducible refine (Hlet.out _).mono ?_); rintro e w' ⟨rfl, rfl⟩)
            | (go_at_call 39; (with_reducible refine Hpf.out.mono ?_); rintro e w' ⟨rfl, rfl⟩)
            | (go_at_call 46; (with_reducible refine (Hwd.out _).mono ?_); rintro e w' ⟨rfl, rfl⟩))
          go_returns
          exact ⟨rfl, ((Below.refl w.heap.size w).alloc (Nat.le_refl _) _).alloc (by simp) _⟩
  · simp only [hL, if_true] at htk hlet
    generalize bs.getD 0 0 = x at *
    have Hlet := Lib.hid hlet
    clear hlet hL
    obtain ⟨r1, r2⟩ := runN_le innerB bs h0
    have hrun := lx_run_inner (some ⟨b, off, none⟩) bs.length c bs _ h1 hb h0 hn
    generalize runN innerB bs = m at *
    have Hrun := Lib.hid hrun
    clear hrun
    by_cases h20 : 20 < m
    · rw [if_pos h20] at htk
      subst htk
      go_enter Try.func27, Try.ntmps27
      go_wp2_with (first
        | (go_at_call 19; (with_reducible refine (Hlet.out _).mono ?_); rintro e w' ⟨rfl, rfl⟩)
        | (go_at_call 44; (with_reducible refine Hrun.out.mono ?_); rintro e w' ⟨rfl, rfl⟩))
      go_returns
      exact ⟨rfl, hB⟩
    · rw [if_neg h20] at htk
      subst htk
      have hcv := Hs.out _ (some ⟨b, off, none⟩) m c (bs.take m) (by rw [List.length_take]; omega) (h1.take m c r2 (by omega) hcap.2)
      have g1 : (m : Int) ≤ (c : Int) := by omega
      go_enter Try.func27, Try.ntmps27
      go_wp2_with (first
        | (go_at_call 19; (with_reducible refine (Hlet.out _).mono ?_); rintro e w' ⟨rfl, rfl⟩)
        | (go_at_call 44; (with_reducible refine Hrun.out.mono ?_); rintro e w' ⟨rfl, rfl⟩))
      go_returns
      exact ⟨rfl, (Below.refl w.heap.size w).alloc (Nat.le_refl _) _⟩
end Go.Proofs.Ytcmfflfgegadjaa
