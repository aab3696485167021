/- Walks: what the small calls of nat compute. -/
import Derived.Test.YtapnnnciaagbdaaProg
import Derived.Test.YtapnnnciaagbdaaKit
import Derived.Test.YtapnnnciaagbdaaNatPlain
import Derived.Lib.BitFns
import Derived.Lib.Strings
import Derived.Lib.Slices
import Derived.Lib.Small
import Derived.Lib.Walk
import Derived.Deep.QuietTactic
import Derived.BigQuiet
namespace Go.Proofs.Ytapnnnciaagbdaa
open Go.RowKit
set_option linter.unusedVariables false
set_option linter.unusedSimpArgs false

theorem quiet_left {P : Program} {f : FuncId} {args : Array Value} {w : World} {n : Nat} {v : Value}
    (h : Calls P f args (w.drewN n) fun e w' => e = .returned v ∧ w.drewN n = w') : Calls P f args (w.drewN n) fun e w'' => e = .returned v ∧ ∃ m, w'' = w.drewN m :=
  h.mono fun _ _ ⟨he, hm⟩ => ⟨he, n, hm.symm⟩
theorem quiet_any {P : Program} {f : FuncId} {args : Array Value} {w : World} {n : Nat} {v : Value}
    (h : Calls P f args (w.drewN n) fun e w' => e = .returned v ∧ ∃ m, w' = (w.drewN n).drewN m) : Calls P f args (w.drewN n) fun e w'' => e = .returned v ∧ ∃ m, w'' = w.drewN m :=
  h.mono fun _ _ ⟨he, m, hm⟩ => ⟨he, n + m, by rw [hm, World.drewN_drewN]⟩

theorem ret_num {k : IntKind} {a b : Int} (h : a = b) : Ending.returned (.int k a) = .returned (.int k b) := by rw [h]
theorem ret_num2 {k l : IntKind} {a b c d : Int} (h : a = b) (h' : c = d) : Ending.returned (.tuple #[.int k a, .int l c]) = .returned (.tuple #[.int k b, .int l d]) := by rw [h, h']

set_option maxHeartbeats 400000 in
theorem bits_add32 (x y c : Nat) (w : World) (hx : x < 4294967296) (hy : y < 4294967296) (hc : c ≤ 1) :
    Calls Try.prog 52 #[.int .u32 (x : Int), .int .u32 (y : Int), .int .u32 (c : Int)] w fun e w' =>
      e = .returned (.tuple #[.int .u32 (((x + y + c) % 4294967296 : Nat) : Int), .int .u32 (((x + y + c) / 4294967296 : Nat) : Int)]) ∧ w = w' := by
  go_enter Try.func52, Try.ntmps52
  go_wp2
  go_ret2
  exact ⟨ret_num2 (by omega) (by omega), rfl⟩

/-- what Sub32 reckons of bits -/
theorem borrow_bit (x y c : Nat) (hx : x < 4294967296) (hy : y < 4294967296) (hc : c ≤ 1) :
    (((4294967295 ^^^ x) &&& y) ||| ((4294967295 ^^^ (x ^^^ y)) &&& ((4294967296 + x - y - c) % 4294967296))) / 2147483648 = 1 - (4294967296 + x - y - c) / 4294967296 := by
  have key : ∀ z : Nat, z < 4294967296 → z / 2147483648 = (z.testBit 31).toNat := fun z hz => by
    rw [Nat.testBit_eq_decide_div_mod_eq]
    have : z / 2 ^ 31 % 2 = z / 2147483648 := by
      have : z / 2 ^ 31 = z / 2147483648 := rfl
      omega
    rw [this]
    have : z / 2147483648 = 0 ∨ z / 2147483648 = 1 := by omega
    rcases this with h | h <;> simp [h]
  have hd : (4294967296 + x - y - c) % 4294967296 < 4294967296 := Nat.mod_lt _ (by decide)
  generalize hdd : (4294967296 + x - y - c) % 4294967296 = d at *
  have hb : (((4294967295 ^^^ x) &&& y) ||| ((4294967295 ^^^ (x ^^^ y)) &&& d)) < 2 ^ 32 :=
    Nat.or_lt_two_pow (Nat.and_lt_two_pow _ hy) (Nat.and_lt_two_pow _ hd)
  rw [key _ hb]
  have t : Nat.testBit 4294967295 31 = true := by decide
  simp only [Nat.testBit_or, Nat.testBit_and, Nat.testBit_xor, t]
  have kx := key x hx
  have ky := key y hy
  have kd := key d hd
  cases bx : x.testBit 31 <;> cases by_ : y.testBit 31 <;> cases bd : d.testBit 31 <;> simp [bx, by_, bd] at kx ky kd ⊢ <;> omega

set_option maxHeartbeats 400000 in
theorem bits_sub32 (x y c : Nat) (w : World) (hx : x < 4294967296) (hy : y < 4294967296) (hc : c ≤ 1) :
    Calls Try.prog 56 #[.int .u32 (x : Int), .int .u32 (y : Int), .int .u32 (c : Int)] w fun e w' =>
      e = .returned (.tuple #[.int .u32 (((4294967296 + x - y - c) % 4294967296 : Nat) : Int), .int .u32 ((1 - (4294967296 + x - y - c) / 4294967296 : Nat) : Int)]) ∧ w = w' := by
  have hd : ((x : Int) - (y : Int) - (c : Int)) % 4294967296 = (((4294967296 + x - y - c) % 4294967296 : Nat) : Int) := by omega
  have hbb := borrow_bit x y c hx hy hc
  have hdl : (4294967296 + x - y - c) % 4294967296 < 4294967296 := Nat.mod_lt _ (by decide)
  have h1 : (4294967295 ^^^ x) < 2 ^ 32 := Nat.xor_lt_two_pow (by decide) hx
  have h2 : (x ^^^ y) < 2 ^ 32 := Nat.xor_lt_two_pow hx hy
  have h3 : (4294967295 ^^^ (x ^^^ y)) < 2 ^ 32 := Nat.xor_lt_two_pow (by decide) h2
  have h4 : ((4294967295 ^^^ x) &&& y) < 2 ^ 32 := Nat.and_lt_two_pow _ hy
  have h5 : ((4294967295 ^^^ (x ^^^ y)) &&& ((4294967296 + x - y - c) % 4294967296)) < 2 ^ 32 := Nat.and_lt_two_pow _ hdl
  have hm : IntKind.u32.max = ((4294967295 : Nat) : Int) := rfl
  have e : bits .or .u32 (bits .and .u32 (bits .xor .u32 IntKind.u32.max (x : Int)) (y : Int)) (bits .and .u32 (bits .xor .u32 IntKind.u32.max (bits .xor .u32 (x : Int) (y : Int))) (((x : Int) - (y : Int) - (c : Int)) % 4294967296)) / 2147483648 = ((1 - (4294967296 + x - y - c) / 4294967296 : Nat) : Int) := by
    rw [hd, hm, u32_xor_nat _ _ (by decide) hx, u32_xor_nat _ _ hx hy, u32_xor_nat _ _ (by decide) h2, u32_and_nat _ _ h1 hy, u32_and_nat _ _ h3 hdl, u32_or_nat _ _ h4 h5, ← hbb]
    rfl
  have He := Lib.hid e
  have Hd := Lib.hid hd
  clear e hd hm h1 h2 h3 h4 h5 hdl hbb
  go_enter Try.func56, Try.ntmps56
  go_wp2
  go_ret2
  exact ⟨ret_num2 Hd.out He.out, rfl⟩

set_option maxHeartbeats 400000 in
theorem bits_div32 (x y d : Nat) (w : World) (hx : x < d) (hy : y < 4294967296) (hd : d < 4294967296) :
    Calls Try.prog 61 #[.int .u32 (x : Int), .int .u32 (y : Int), .int .u32 (d : Int)] w fun e w' =>
      e = .returned (.tuple #[.int .u32 (((x * 4294967296 + y) / d : Nat) : Int), .int .u32 (((x * 4294967296 + y) % d : Nat) : Int)]) ∧ ∃ m, w' = w.drewN m := by
  have h0 : ((d : Int) != 0) = true := by simp [bne_iff_ne]; omega
  have h0' : ((d : Int) == 0) = false := by simp; omega
  have hle : decide ((d : Int) ≤ (x : Int)) = false := by simp; omega
  have ej : bits .or .u64 ((x : Int) * 4294967296) (y : Int) = ((x * 4294967296 + y : Nat) : Int) := by
    have : ((x : Int) * 4294967296) = ((x * 4294967296 : Nat) : Int) := by omega
    rw [this, u64_or_nat _ _ (by omega) (by omega), nat_join 32 _ _ (by omega) (by omega)]
  have hq : (x * 4294967296 + y) / d < 4294967296 := by
    apply Nat.div_lt_of_lt_mul
    have : (x + 1) * 4294967296 ≤ d * 4294967296 := Nat.mul_le_mul_right _ (by omega)
    omega
  have hm : (x * 4294967296 + y) % d < d := Nat.mod_lt _ (by omega)
  generalize hz : x * 4294967296 + y = z at *
  have hzl : z < 18446744073709551616 := by omega
  clear hz
  have Hq := Lib.hid hq
  have Hm := Lib.hid hm
  go_enter Try.func61, Try.ntmps61
  go_wp2
  go_quiet (fail)
  go_wp2
  go_ret2
  exact ⟨ret_num2 (by rw [IntKind.wrap_u64]; have hq1 := Hq.out; have hq0 : (0 : Int) ≤ (z : Int) / (d : Int) := Int.ediv_nonneg (by omega) (by omega); omega) (by have := Hm.out; rw [Int.natCast_emod]), ⟨_, rfl⟩⟩

theorem wrap64_small (n : Int) (h0 : 0 ≤ n) (h1 : n < 1000000) : wrap64 n = n := by unfold wrap64; omega

theorem len8_get (j : Nat) (h : j < Lib.len8tab.size) : (Lib.len8tab[j]'h).toNat = Lib.bitLen j := by
  have h' : j < 256 := by rw [← Lib.len8tab_size]; exact h
  have := Lib.len8_of (j : Int) (by omega) (by omega)
  unfold Lib.len8 at this
  simp only [Int.toNat_natCast] at this
  rw [getElem?_pos Lib.len8tab j h, Option.getD_some] at this
  omega

set_option maxHeartbeats 4000000 in
set_option maxRecDepth 100000 in
theorem bits_len32 (x : Int) (w : World) (h0 : 0 ≤ x) (h1 : x ≤ 4294967295) :
    Calls Try.prog 60 #[.int .u32 x] w fun e w' => e = .returned (.int .i64 (Lib.bitLen x.toNat)) ∧ w = w' := by
  have hs : Lib.len8tab.size = 256 := rfl
  go_enter Try.func60, Try.ntmps60
  go_wp2
  all_goals go_ret
  · refine ⟨ret_num ?_, rfl⟩
    have e : (x / 65536 / 256).toNat = x.toNat / 16777216 := by omega
    have l := Lib.bitLen_le8' (x / 65536 / 256) (by omega) (by omega)
    have s := Lib.bitLen_shift24 x.toNat (by omega) (by omega)
    rw [← e] at s
    simp only [len8_get]
    rw [wrap64_small (Lib.bitLen _ : Int) (by omega) (by omega), wrap64_small _ (by omega) (by omega)]
    omega
  · refine ⟨ret_num ?_, rfl⟩
    have e : (x / 65536).toNat = x.toNat / 65536 := by omega
    have l := Lib.bitLen_le8' (x / 65536) (by omega) (by omega)
    have s := Lib.bitLen_shift16 x.toNat (by omega) (by omega)
    rw [← e] at s
    simp only [len8_get]
    rw [wrap64_small (Lib.bitLen _ : Int) (by omega) (by omega), wrap64_small _ (by omega) (by omega)]
    omega
  · refine ⟨ret_num ?_, rfl⟩
    have e : (x / 256).toNat = x.toNat / 256 := by omega
    have l := Lib.bitLen_le8' (x / 256) (by omega) (by omega)
    have s := Lib.bitLen_shift8 x.toNat (by omega) (by omega)
    rw [← e] at s
    simp only [len8_get]
    rw [wrap64_small (Lib.bitLen _ : Int) (by omega) (by omega), wrap64_small _ (by omega) (by omega)]
    omega
  · refine ⟨ret_num ?_, rfl⟩
    have l := Lib.bitLen_le8' x (by omega) (by omega)
    simp only [len8_get]
    rw [wrap64_small (Lib.bitLen _ : Int) (by omega) (by omega), wrap64_small _ (by omega) (by omega)]
end Go.Proofs.Ytapnnnciaagbdaa
