/- place: walks over floats that are natural numbers. -/
import Derived.Test.YtcmfflfgegadjaaFloat
import Derived.Test.YtcmfflfgegadjaaKit4
import Derived.Test.YtcmfflfgegadjaaProg
import Derived.Laws.Cover3
import Derived.Laws.StandIn
import Derived.Laws.ComplexArith
import Derived.Deep.QuietTactic
import Derived.BigQuiet
namespace Go.Proofs.Ytcmfflfgegadjaa
open Go.RowKit
set_option linter.unusedVariables false
set_option linter.unusedSimpArgs false

theorem ordN (n m : Nat) (hn : n < 9007199254740992) (hm : m < 9007199254740992) : FloatKind.f64.format.order (fN n) (fN m) = some (compare n m) :=
  (read_fN n hn).order (read_fN m hm)
theorem fN_1 : fN 1 = 4607182418800017408 := by decide
theorem fN_top : fN 1073741824 = 4742290407621132288 := by decide
theorem ord1 (n : Nat) (hn : n < 9007199254740992) : FloatKind.f64.format.order (fN n) 4607182418800017408 = some (compare n 1) := by
  rw [← fN_1]; exact ordN n 1 hn (by decide)
theorem ordTop (n : Nat) (hn : n < 9007199254740992) : FloatKind.f64.format.order (fN n) 4742290407621132288 = some (compare n 1073741824) := by
  rw [← fN_top]; exact ordN n 1073741824 hn (by decide)

theorem run_trunc (n : Nat) (w : World) (hn : n < 9007199254740992) : (callFunc 82 #[.float .f64 (fN n)]).run Try.prog w = .ok (.value (.float .f64 (fN n))) w := by
  rw [run_callFunc_standIn Try.func82 (by kernel_rfl) (by kernel_rfl) (by kernel_rfl) (e := Extern.MathFloor.toIntegral (Try.f82.name) .zero) (by kernel_rfl)]
  obtain ⟨k, hk⟩ := read_fN n hn
  have hk' : FloatKind.f64.decode (fN n) = .number false (n * 2 ^ k) (-(k : Int)) := hk
  have hi : Ieee.Datum.integral .zero (.number false (n * 2 ^ k) (-(k : Int))) = .number false n 0 := by
    have hp := Nat.two_pow_pos k
    simp only [Ieee.Datum.integral]
    have e1 : (-(k : Int)).toNat = 0 := by omega
    have e2 : (- -(k : Int)).toNat = k := by omega
    rw [e1, e2, Nat.shiftLeft_zero]
    unfold Ieee.Toward.cut
    simp only [Bool.toNat_false, Nat.add_zero]
    rcases Nat.eq_zero_or_pos n with h0 | h0
    · subst h0; simp
    · rw [log2_mul_pow n k h0, Nat.min_eq_left (by omega), Nat.shiftLeft_eq, Nat.one_mul, Nat.mul_div_cancel _ hp]
  have key : ∀ (nm : String) (x : Nat) (d : Ieee.Datum), FloatKind.f64.decode x = d → (d = .number false (n * 2 ^ k) (-(k : Int))) → Extern.MathFloor.toIntegral nm .zero #[.float .f64 x] = pure (.float .f64 (FloatKind.f64.encode (d.integral .zero))) := by
    intro nm x d h1 h2
    show (match FloatKind.f64.decode x with | .nan s t => _ | d => pure (Value.float .f64 (FloatKind.f64.encode (d.integral .zero)))) = _
    rw [h1, h2]
  rw [key _ _ _ hk' rfl, hi]
  rfl

theorem trunc_fN (n : Nat) (w : World) (hn : n < 9007199254740992) :
    Calls Try.prog 80 #[.float .f64 (fN n)] w fun e w' => e = .returned (.float .f64 (fN n)) ∧ w = w' := by
  have hr := run_trunc n w hn
  go_enter Try.func80, Try.ntmps80
  go_wp2
  go_ret
  exact ⟨rfl, rfl⟩

theorem ord_self (n : Nat) (hn : n < 9007199254740992) : FloatKind.f64.format.order (fN n) (fN n) = some .eq := by
  rw [ordN n n hn hn]
  simp [compare, compareOfLessAndEq]

set_option maxHeartbeats 400000 in
theorem whole_fN (n : Nat) (w : World) (hn : n < 9007199254740992) :
    Calls Try.prog 76 #[.float .f64 (fN n)] w fun e w' => e = .returned (.bool (decide (1 ≤ n ∧ n ≤ 1073741824))) ∧ w = w' := by
  have o1 := ord1 n hn
  have o2 := ordTop n hn
  have o3 := ord_self n hn
  have ht := trunc_fN n w hn
  generalize fN n = x at *
  have Ht := Lib.hid ht
  clear ht
  by_cases h1 : 1 ≤ n
  · by_cases h2 : n ≤ 1073741824
    · have e1 : FloatKind.f64.format.order x 4607182418800017408 = some .gt ∨ FloatKind.f64.format.order x 4607182418800017408 = some .eq := by
        rw [o1]
        rcases Nat.lt_or_ge 1 n with h | h
        · rw [Nat.compare_eq_gt.2 h]; exact .inl rfl
        · rw [Nat.compare_eq_eq.2 (by omega)]; exact .inr rfl
      have e2 : FloatKind.f64.format.order x 4742290407621132288 = some .lt ∨ FloatKind.f64.format.order x 4742290407621132288 = some .eq := by
        rw [o2]
        rcases Nat.lt_or_ge n 1073741824 with h | h
        · rw [Nat.compare_eq_lt.2 h]; exact .inl rfl
        · rw [Nat.compare_eq_eq.2 (by omega)]; exact .inr rfl
      rw [show decide (1 ≤ n ∧ n ≤ 1073741824) = true from by simp [h1, h2]]
      clear o1 o2 h1 h2
      rcases e1 with e1 | e1
      all_goals
        rcases e2 with e2 | e2
        all_goals
          go_enter Try.func76, Try.ntmps76
          go_wp2_with (go_at_call 80; (with_reducible refine Ht.out.mono ?_); rintro e w' ⟨rfl, rfl⟩)
          go_ret
          exact ⟨by simp, rfl⟩
    · have e1 : FloatKind.f64.format.order x 4607182418800017408 = some .gt := by
        rw [o1, Nat.compare_eq_gt.2 (by omega)]
      have e2 : FloatKind.f64.format.order x 4742290407621132288 = some .gt := by
        rw [o2, Nat.compare_eq_gt.2 (by omega)]
      rw [show decide (1 ≤ n ∧ n ≤ 1073741824) = false from by simp [h2]]
      clear o1 o2 h1 h2
      go_enter Try.func76, Try.ntmps76
      go_wp2_with fail
      go_ret
      exact ⟨by simp, rfl⟩
  · have e1 : FloatKind.f64.format.order x 4607182418800017408 = some .lt := by
      rw [o1, Nat.compare_eq_lt.2 (by omega)]
    rw [show decide (1 ≤ n ∧ n ≤ 1073741824) = false from by simp [h1]]
    clear o1 o2 h1
    go_enter Try.func76, Try.ntmps76
    go_wp2_with fail
    go_ret
    exact ⟨by simp, rfl⟩
end Go.Proofs.Ytcmfflfgegadjaa
