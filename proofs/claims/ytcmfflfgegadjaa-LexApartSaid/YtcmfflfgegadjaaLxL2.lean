/- lex: the law on words, walked. -/
import Derived.Test.YtcmfflfgegadjaaLxL1
namespace Go.Proofs.Ytcmfflfgegadjaa
open Go.RowKit
set_option linter.unusedVariables false
set_option linter.unusedSimpArgs false

theorem name_not_lit (l : List Nat) : (!nameB l || !litB l) = true := by
  cases h1 : nameB l
  · rfl
  · cases h2 : litB l
    · rfl
    · exfalso
      have e1 : letterB (l.getD 0 0) = true := by
        simp [nameB] at h1
        exact h1.1.2
      have e2 : l.getD 0 0 = 39 := by
        simp [litB] at h2
        rcases h2 with h | h
        · exact h.1.1.2
        · exact h.1.1.1.2
      rw [e2] at e1
      exact absurd e1 (by decide)

set_option maxHeartbeats 1000000 in
theorem lexWords_walk (s : ByteArray) (W : World) (hs : s.size ≤ maxLen) (hM : MaxAt W) : Calls Try.prog 3 #[.string s] W fun e w' => e = .returned (.bool true) ∧ Below W.heap.size W w' := by
  have a0 := alive07 W hM
  have c1 := fun w => lx_name s w
  have c2 := fun w => ref_name s w
  have c3 := fun w => lx_Literal s w hs
  have c4 := fun w => ref_Literal s w
  have hx := name_not_lit (bytesOf s)
  generalize nameB (bytesOf s) = p at *
  generalize litB (bytesOf s) = q at *
  have A0 := Lib.hid a0
  have C1 := Lib.hid c1
  have C2 := Lib.hid c2
  have C3 := Lib.hid c3
  have C4 := Lib.hid c4
  clear a0 c1 c2 c3 c4
  by_cases hbig : s.size ≤ 100
  case neg =>
    go_enter Try.func3, Try.ntmps3
    go_wp2_with fail
    (with_reducible refine A0.out.mono ?_)
    rintro e w1 ⟨rfl, hb1⟩
    have hgt : decide ((100 : Int) < (s.size : Int)) = true := by simp; omega
    go_wp2_with fail
    go_ret
    exact ⟨rfl, hb1⟩
  have hgt : decide ((100 : Int) < (s.size : Int)) = false := by simp; omega
  cases p <;> cases q <;> try (exact absurd hx (by decide))
  all_goals
    clear hx
    go_enter Try.func3, Try.ntmps3
    go_wp2_with fail
    (with_reducible refine A0.out.mono ?_)
    rintro e w1 ⟨rfl, hb1⟩
    go_wp2_with fail
    (with_reducible refine (C1.out _).mono ?_)
    rintro e w2 ⟨rfl, rfl⟩
    go_wp2_with fail
    (with_reducible refine (C2.out _).mono ?_)
    rintro e w2 ⟨rfl, rfl⟩
    go_wp2_with fail
    (with_reducible refine (C3.out _).mono ?_)
    rintro e w2 ⟨rfl, hb2⟩
    have hB2 := below_tail hb1 hb2
    clear hb2
    go_wp2_with fail
    (with_reducible refine (C4.out _).mono ?_)
    rintro e w3 ⟨rfl, rfl⟩
    go_wp2_with fail
    (with_reducible refine (C1.out _).mono ?_)
    rintro e w3 ⟨rfl, rfl⟩
    go_wp2_with fail
    first
      | (go_ret; exact ⟨rfl, hB2⟩)
      | ((with_reducible refine (C3.out _).mono ?_)
         rintro e w3 ⟨rfl, hb3⟩
         go_wp2_with fail
         go_ret
         exact ⟨rfl, below_tail hB2 hb3⟩)
end Go.Proofs.Ytcmfflfgegadjaa
