/- lex: literals. -/
import Derived.Test.YtcmfflfgegadjaaLxW2
namespace Go.Proofs.Ytcmfflfgegadjaa
open Go.RowKit
set_option linter.unusedVariables false
set_option linter.unusedSimpArgs false

/-- how many bytes the literal has that bytes begin with, and the error -/
def litN (l : List Nat) : Nat × Nat :=
  if l.length < 2 then (0, 4)
  else if plainB (l.getD 1 0) then (if l.length ≤ 2 then (0, 4) else if l.getD 2 0 = 39 then (3, 0) else (0, 3))
  else if l.getD 1 0 ≠ 92 then (0, 3)
  else if l.length < 3 then (0, 4)
  else if !escapedB (l.getD 2 0) then (0, 3)
  else if l.length ≤ 3 then (0, 4) else if l.getD 3 0 = 39 then (4, 0) else (0, 3)

theorem lt256 {l : List Nat} (h : ∀ x ∈ l, x < 256) (j : Nat) : l.getD j 0 < 256 := by
  rw [List.getD_eq_getElem?_getD]
  rcases Nat.lt_or_ge j l.length with h' | h'
  · rw [List.getElem?_eq_getElem h']; exact h _ (List.getElem_mem h')
  · rw [List.getElem?_eq_none h']; exact by decide

set_option maxHeartbeats 1000000 in
theorem lx_literal (A : Option Addr) (n c : Nat) (bs : List Nat) (w : World) (h : Nums .u8 w A n c bs) (hb : ∀ x ∈ bs, x < 256) :
    Calls Try.prog 23 #[.slice A n c] w fun e w' => e = .returned (.tuple #[.int .i64 ((litN bs).1 : Int), .int .i64 ((litN bs).2 : Int)]) ∧ w = w' := by
  obtain rfl := h.len
  have hcap := h.cap
  by_cases h2 : bs.length < 2
  · have hf : litN bs = (0, 4) := by simp [litN, h2]
    rw [hf]
    clear hf
    go_enter Try.func23, Try.ntmps23
    go_wp2
    go_ret2
    exact ⟨rfl, rfl⟩
  obtain ⟨b, off, rfl, hbl, hcell⟩ := h.at_ (by omega)
  have l1 := lt256 hb 1
  have l2 := lt256 hb 2
  have l3 := lt256 hb 3
  have c1 := hcell 1 (by omega)
  have c2 := fun h => hcell 2 h
  have c3 := fun h => hcell 3 h
  have hlit : litN bs = if plainB (bs.getD 1 0) then (if bs.length ≤ 2 then (0, 4) else if bs.getD 2 0 = 39 then (3, 0) else (0, 3))
      else if bs.getD 1 0 ≠ 92 then (0, 3) else if bs.length < 3 then (0, 4) else if !escapedB (bs.getD 2 0) then (0, 3)
      else if bs.length ≤ 3 then (0, 4) else if bs.getD 3 0 = 39 then (4, 0) else (0, 3) := by
    unfold litN; rw [if_neg h2]
  generalize bs.getD 1 0 = x1 at *
  generalize bs.getD 2 0 = x2 at *
  generalize bs.getD 3 0 = x3 at *
  generalize litN bs = r at *
  have p1 := lx_plain x1 w l1
  have e2 := lx_escaped x2 w l2
  clear hcell hb
  cases hp : plainB x1
  · rw [hp] at p1 hlit
    have P1 := Lib.hid p1
    clear p1 hp
    simp only [Bool.false_eq_true, if_false] at hlit
    by_cases hx : x1 = 92
    · have hxx : ((x1 : Int) == 92) = true := by rw [beq_iff_eq]; omega
      simp only [hx, ne_eq, not_true, if_false] at hlit
      clear hx
      by_cases h3 : bs.length < 3
      · rw [if_pos h3] at hlit
        subst hlit
        clear c2 c3 e2
        go_enter Try.func23, Try.ntmps23
        go_wp2_with (go_at_call 36; (with_reducible refine P1.out.mono ?_); rintro e w' ⟨rfl, rfl⟩)
        go_ret2
        exact ⟨rfl, rfl⟩
      · rw [if_neg h3] at hlit
        have c2 := c2 (by omega)
        cases he : escapedB x2
        · rw [he] at e2 hlit
          have E2 := Lib.hid e2
          clear e2 he c3
          simp only [Bool.not_false, if_true] at hlit
          subst hlit
          go_enter Try.func23, Try.ntmps23
          go_wp2_with (first
            | (go_at_call 36; (with_reducible refine P1.out.mono ?_); rintro e w' ⟨rfl, rfl⟩)
            | (go_at_call 37; (with_reducible refine E2.out.mono ?_); rintro e w' ⟨rfl, rfl⟩))
          go_ret2
          exact ⟨rfl, rfl⟩
        · rw [he] at e2 hlit
          have E2 := Lib.hid e2
          clear e2 he
          simp only [Bool.not_true, Bool.false_eq_true, if_false] at hlit
          by_cases h4 : bs.length ≤ 3
          · rw [if_pos h4] at hlit
            subst hlit
            clear c3
            go_enter Try.func23, Try.ntmps23
            go_wp2_with (first
              | (go_at_call 36; (with_reducible refine P1.out.mono ?_); rintro e w' ⟨rfl, rfl⟩)
              | (go_at_call 37; (with_reducible refine E2.out.mono ?_); rintro e w' ⟨rfl, rfl⟩))
            go_ret2
            exact ⟨rfl, rfl⟩
          · rw [if_neg h4] at hlit
            have c3 := c3 (by omega)
            by_cases hq : x3 = 39
            · have hqq : ((x3 : Int) == 39) = true := by rw [beq_iff_eq]; omega
              rw [if_pos hq] at hlit
              subst hlit
              clear hq
              go_enter Try.func23, Try.ntmps23
              go_wp2_with (first
                | (go_at_call 36; (with_reducible refine P1.out.mono ?_); rintro e w' ⟨rfl, rfl⟩)
                | (go_at_call 37; (with_reducible refine E2.out.mono ?_); rintro e w' ⟨rfl, rfl⟩))
              go_ret2
              exact ⟨rfl, rfl⟩
            · have hqq : ((x3 : Int) == 39) = false := by rw [beq_eq_false_iff_ne]; omega
              rw [if_neg hq] at hlit
              subst hlit
              clear hq
              go_enter Try.func23, Try.ntmps23
              go_wp2_with (first
                | (go_at_call 36; (with_reducible refine P1.out.mono ?_); rintro e w' ⟨rfl, rfl⟩)
                | (go_at_call 37; (with_reducible refine E2.out.mono ?_); rintro e w' ⟨rfl, rfl⟩))
              go_ret2
              exact ⟨rfl, rfl⟩
    · have hxx : ((x1 : Int) == 92) = false := by rw [beq_eq_false_iff_ne]; omega
      rw [if_pos hx] at hlit
      subst hlit
      clear hx c2 c3 e2
      go_enter Try.func23, Try.ntmps23
      go_wp2_with (go_at_call 36; (with_reducible refine P1.out.mono ?_); rintro e w' ⟨rfl, rfl⟩)
      go_ret2
      exact ⟨rfl, rfl⟩
  · rw [hp] at p1 hlit
    have P1 := Lib.hid p1
    clear p1 hp e2 c3
    simp only [if_true] at hlit
    by_cases h3 : bs.length ≤ 2
    · rw [if_pos h3] at hlit
      subst hlit
      clear c2
      go_enter Try.func23, Try.ntmps23
      go_wp2_with (go_at_call 36; (with_reducible refine P1.out.mono ?_); rintro e w' ⟨rfl, rfl⟩)
      go_ret2
      exact ⟨rfl, rfl⟩
    · rw [if_neg h3] at hlit
      have c2 := c2 (by omega)
      by_cases hq : x2 = 39
      · have hqq : ((x2 : Int) == 39) = true := by rw [beq_iff_eq]; omega
        rw [if_pos hq] at hlit
        subst hlit
        clear hq
        go_enter Try.func23, Try.ntmps23
        go_wp2_with (go_at_call 36; (with_reducible refine P1.out.mono ?_); rintro e w' ⟨rfl, rfl⟩)
        go_ret2
        exact ⟨rfl, rfl⟩
      · have hqq : ((x2 : Int) == 39) = false := by rw [beq_eq_false_iff_ne]; omega
        rw [if_neg hq] at hlit
        subst hlit
        clear hq
        go_enter Try.func23, Try.ntmps23
        go_wp2_with (go_at_call 36; (with_reducible refine P1.out.mono ?_); rintro e w' ⟨rfl, rfl⟩)
        go_ret2
        exact ⟨rfl, rfl⟩
end Go.Proofs.Ytcmfflfgegadjaa
