/- set: sets of numbers below 32, as numbers: plain. -/
import Derived.Lib.TrailingZeros
import Derived.Lib.BitFns
import Derived.Test.YtfdbpafenhdkbaaGreatDoorQFloat
import Derived.Test.YtfdbpafenhdkbaaGreatDoorProg
import Derived.Laws.Bits64b
import Derived.Lib.Tables
import Derived.Deep.QuietTactic
import Derived.BigQuiet
import Derived.Test.YtfdbpafenhdkbaaGreatDoorQGrC1
import Derived.Test.YtfdbpafenhdkbaaGreatDoorQGrW1
namespace Go.Proofs.YtfdbpafenhdkbaaGreatDoor
set_option linter.unusedVariables false
set_option linter.unusedSimpArgs false

/-- the set of one number; of many; its members -/
def bitN (n : Int) : Nat := if 0 ≤ n ∧ n < 32 then 2 ^ n.toNat else 0
def ofN (l : List Int) : Nat := l.foldl (fun s n => s ||| bitN n) 0
def hasN (s : Nat) (n : Int) : Bool := decide (0 ≤ n ∧ n < 32) && s.testBit n.toNat
def memsN (s : Nat) : List Nat := (List.range 32).filter (fun n => s.testBit n)
def countN (s : Nat) : Nat := (memsN s).length
def leastN (s : Nat) : Int := match memsN s with | [] => -1 | n :: _ => (n : Int)
def belowS (n : Int) : Nat := 2 ^ (min n 32).toNat - 1

theorem bitN_lt (n : Int) : bitN n < 4294967296 := by
  unfold bitN
  split
  · rename_i h
    have := Nat.pow_lt_pow_right (a := 2) (by decide) (show n.toNat < 32 by omega)
    simpa using this
  · omega
theorem or_lt32 {a b : Nat} (ha : a < 4294967296) (hb : b < 4294967296) : a ||| b < 4294967296 := Nat.or_lt_two_pow (n := 32) ha hb
theorem ofN_snoc (l : List Int) (n : Int) : ofN (l ++ [n]) = ofN l ||| bitN n := by simp [ofN]
theorem foldl_lt (l : List Int) (s : Nat) (hs : s < 4294967296) : l.foldl (fun s n => s ||| bitN n) s < 4294967296 := by
  induction l generalizing s with
  | nil => exact hs
  | cons n l ih => exact ih _ (or_lt32 hs (bitN_lt n))
theorem ofN_lt (l : List Int) : ofN l < 4294967296 := foldl_lt l 0 (by decide)

theorem and_pow (s k : Nat) : s &&& 2 ^ k = if s.testBit k then 2 ^ k else 0 := by
  apply Nat.eq_of_testBit_eq
  intro i
  rw [Nat.testBit_and, Nat.testBit_two_pow]
  by_cases h : k = i
  · subst h
    cases hb : s.testBit k <;> simp
  · cases hb : s.testBit k <;> simp [h, Nat.testBit_two_pow]

/-- 's & bit(n) != 0' -/
theorem and_bit (s : Nat) (n : Int) : (s &&& bitN n != 0) = hasN s n := by
  unfold bitN hasN
  split
  · rename_i h
    rw [decide_eq_true h, Bool.true_and, and_pow]
    have hp := Nat.two_pow_pos n.toNat
    cases hb : s.testBit n.toNat
    · simp
    · simp only [if_true, bne_iff_ne]
      omega
  · rename_i h
    rw [decide_eq_false h]
    simp

theorem test_big (s : Nat) (hs : s < 4294967296) (i : Nat) (hi : 32 ≤ i) : s.testBit i = false :=
  Nat.testBit_lt_two_pow (Nat.lt_of_lt_of_le hs (by simpa using Nat.pow_le_pow_right (n := 2) (by decide) hi))

theorem mems_mem (s : Nat) (n : Nat) : n ∈ memsN s ↔ n < 32 ∧ s.testBit n = true := by simp [memsN]

/-- the lowest bit taken off -/
theorem sub_low (k m : Nat) : (2 ^ k * (2 * m + 1)) &&& (2 ^ k * (2 * m + 1) - 1) = 2 ^ k * (2 * m) := by
  apply Nat.eq_of_testBit_eq
  intro i
  have e : 2 ^ k * (2 * m + 1) - 1 = 2 ^ k * (2 * m) + (2 ^ k - 1) := by
    have := Nat.two_pow_pos k
    rw [Nat.mul_add, Nat.mul_one]; omega
  rw [Nat.testBit_and, e, Nat.testBit_two_pow_mul, Nat.testBit_two_pow_mul, Nat.testBit_two_pow_mul_add _ (by have := Nat.two_pow_pos k; omega)]
  by_cases h : i < k
  · simp [h, Nat.not_le.2 h]
  · have h' : k ≤ i := by omega
    simp only [h', decide_true, Bool.true_and, h, if_false]
    obtain ⟨j, rfl⟩ : ∃ j, i = k + j := ⟨i - k, by omega⟩
    rw [Nat.add_sub_cancel_left]
    cases j with
    | zero => simp [Nat.testBit_zero]
    | succ j =>
      rw [Nat.testBit_succ, Nat.testBit_succ]
      have d1 : (2 * m + 1) / 2 = m := by omega
      have d2 : 2 * m / 2 = m := by omega
      rw [d1, d2, Bool.and_self]

theorem filter_range_split (p : Nat → Bool) (k n : Nat) (hk : k < n) (h0 : ∀ i, i < k → p i = false) (h1 : p k = true) :
    (List.range n).filter p = k :: ((List.range n).filter (fun i => p i && decide (i ≠ k))) := by
  obtain ⟨d, rfl⟩ : ∃ d, n = k + (d + 1) := ⟨n - k - 1, by omega⟩
  have e : List.range (k + (d + 1)) = List.range k ++ k :: (List.range d).map (fun i => k + 1 + i) := by
    rw [List.range_add, List.range_succ_eq_map]
    simp [Function.comp_def]
    intro a _; omega
  have a1 : (List.range k).filter p = [] := List.filter_eq_nil_iff.2 fun i hi => by simp [h0 i (List.mem_range.1 hi)]
  have a2 : (List.range k).filter (fun i => p i && decide (i ≠ k)) = [] := List.filter_eq_nil_iff.2 fun i hi => by simp [h0 i (List.mem_range.1 hi)]
  rw [e, List.filter_append, List.filter_append, a1, a2, List.filter_cons, List.filter_cons, if_pos h1]
  simp only [List.nil_append, ne_eq, not_true_eq_false, decide_false, Bool.and_false]
  congr 1
  apply List.filter_congr
  intro i hi
  obtain ⟨j, _, rfl⟩ := List.mem_map.1 hi
  have : k + 1 + j ≠ k := by omega
  simp [this]

theorem low_bits (s : Nat) (h0 : s ≠ 0) (hs : s < 4294967296) :
    Lib.ctz 32 s < 32 ∧ (∀ i, i < Lib.ctz 32 s → s.testBit i = false) ∧ s.testBit (Lib.ctz 32 s) = true ∧ (∀ i, (s &&& (s - 1)).testBit i = (s.testBit i && decide (i ≠ Lib.ctz 32 s))) ∧ s &&& (s - 1) < s := by
  obtain ⟨m, hm, hk⟩ := Lib.ctzFrom_spec 32 s (by omega) hs
  have e : Lib.ctz 32 s = Lib.ctzFrom 32 s := by simp [Lib.ctz, h0]
  rw [e]
  generalize Lib.ctzFrom 32 s = k at *
  have hsub := sub_low k m
  rw [← hm] at hsub
  have hp := Nat.two_pow_pos k
  refine ⟨hk, fun i hi => ?_, ?_, fun i => ?_, ?_⟩
  · rw [hm, Nat.testBit_two_pow_mul]
    simp [Nat.not_le.2 hi]
  · rw [hm, Nat.testBit_two_pow_mul]
    simp [Nat.testBit_zero]
  · rw [hsub, Nat.testBit_two_pow_mul, hm, Nat.testBit_two_pow_mul]
    by_cases h : k ≤ i
    · simp only [h, decide_true, Bool.true_and]
      obtain ⟨j, rfl⟩ : ∃ j, i = k + j := ⟨i - k, by omega⟩
      rw [Nat.add_sub_cancel_left]
      cases j with
      | zero => simp [Nat.testBit_zero]
      | succ j =>
        rw [Nat.testBit_succ, Nat.testBit_succ]
        have d1 : (2 * m + 1) / 2 = m := by omega
        have d2 : 2 * m / 2 = m := by omega
        have d3 : k + (j + 1) ≠ k := by omega
        simp [d1, d2, d3]
    · simp [h]
  · rw [hsub]
    have : 2 ^ k * (2 * m) < 2 ^ k * (2 * m + 1) := Nat.mul_lt_mul_of_pos_left (by omega) hp
    omega

/-- the members: the least one, and those of what is left -/
theorem mems_step (s : Nat) (h0 : s ≠ 0) (hs : s < 4294967296) : memsN s = Lib.ctz 32 s :: memsN (s &&& (s - 1)) := by
  obtain ⟨hk, h1, h2, h3, _⟩ := low_bits s h0 hs
  unfold memsN
  rw [filter_range_split (fun i => s.testBit i) (Lib.ctz 32 s) 32 hk h1 h2]
  congr 1
  apply List.filter_congr
  intro i _
  rw [h3]
theorem mems_zero : memsN 0 = [] := by
  unfold memsN
  exact List.filter_eq_nil_iff.2 fun i _ => by simp

theorem least_step (s : Nat) (h0 : s ≠ 0) (hs : s < 4294967296) : leastN s = (Lib.ctz 32 s : Int) := by
  unfold leastN
  rw [mems_step s h0 hs]

/-- bytes' bits -/
theorem pop8_mems : ∀ n : Fin 256, Lib.pop8 (n.val : Int) = (((List.range 8).filter (fun i => n.val.testBit i)).length : Int) := by decide +kernel

theorem range_bytes (p : Nat → Bool) : ((List.range 32).filter p).length = ((List.range 8).filter p).length + ((List.range 8).filter (fun i => p (8 + i))).length + ((List.range 8).filter (fun i => p (16 + i))).length + ((List.range 8).filter (fun i => p (24 + i))).length := by
  have e : List.range 32 = List.range 8 ++ (List.range 8).map (fun i => 8 + i) ++ (List.range 8).map (fun i => 16 + i) ++ (List.range 8).map (fun i => 24 + i) := by decide
  rw [e, List.filter_append, List.filter_append, List.filter_append, List.length_append, List.length_append, List.length_append, List.filter_map, List.filter_map, List.filter_map, List.length_map, List.length_map, List.length_map]
  rfl

theorem byte_count (s a : Nat) (b : Nat) (hb : b = s / 2 ^ a % 256) : ((List.range 8).filter (fun i => s.testBit (a + i))).length = (Lib.pop8 (b : Int)).toNat := by
  have hlt : b < 256 := by omega
  have h := pop8_mems ⟨b, hlt⟩
  simp only at h
  rw [h, Int.toNat_natCast]
  congr 1
  apply List.filter_congr
  intro i hi
  have hi' := List.mem_range.1 hi
  rw [hb, show (256 : Nat) = 2 ^ 8 from rfl, Nat.testBit_mod_two_pow, Nat.testBit_div_two_pow, Nat.add_comm]
  simp [hi']

theorem count_bytes (s : Nat) (hs : s < 4294967296) :
    (countN s : Int) = Lib.pop8 ((s / 16777216 : Nat) : Int) + Lib.pop8 ((s / 65536 % 256 : Nat) : Int) + Lib.pop8 ((s / 256 % 256 : Nat) : Int) + Lib.pop8 ((s % 256 : Nat) : Int) := by
  have p0 : ∀ n : Nat, n < 256 → (0 : Int) ≤ Lib.pop8 (n : Int) := fun n hn => by rw [pop8_mems ⟨n, hn⟩]; omega
  have q0 := p0 (s / 16777216) (by omega)
  have q1 := p0 (s / 65536 % 256) (by omega)
  have q2 := p0 (s / 256 % 256) (by omega)
  have q3 := p0 (s % 256) (by omega)
  have a0 := byte_count s 0 (s % 256) (by simp)
  have a1 := byte_count s 8 (s / 256 % 256) rfl
  have a2 := byte_count s 16 (s / 65536 % 256) rfl
  have a3 := byte_count s 24 (s / 16777216) (by rw [show (2 : Nat) ^ 24 = 16777216 from rfl]; omega)
  unfold countN memsN
  rw [range_bytes, a1, a2, a3]
  simp only [Nat.zero_add] at a0
  rw [a0]
  omega
end Go.Proofs.YtfdbpafenhdkbaaGreatDoor

namespace Go.Proofs.YtfdbpafenhdkbaaGreatDoor
open Go.RowKit
set_option linter.unusedVariables false
set_option linter.unusedSimpArgs false

theorem Tryz.infoInt : (Tryz.prog.info? 3).map (fun i => (i.zero, i.size, i.bytes)) = some (some (.int .i64 0), 1, 8) := by kernel_rfl
theorem Tryz.infoU32 : (Tryz.prog.info? 36).map (fun i => (i.zero, i.size, i.bytes)) = some (some (.int .u32 0), 1, 4) := by kernel_rfl

theorem or32 (a b : Nat) (ha : a < 4294967296) (hb : b < 4294967296) : bits .or .u32 (a : Int) (b : Int) = ((a ||| b : Nat) : Int) := by
  have hx : a ||| b < 2 ^ 32 := Nat.or_lt_two_pow (by omega) (by omega)
  have h1 : (BitVec.ofInt 32 (a : Int)).toNat = a := by rw [BitVec.ofInt_natCast, BitVec.toNat_ofNat]; exact Nat.mod_eq_of_lt (by omega)
  have h2 : (BitVec.ofInt 32 (b : Int)).toNat = b := by rw [BitVec.ofInt_natCast, BitVec.toNat_ofNat]; exact Nat.mod_eq_of_lt (by omega)
  show IntKind.u32.wrap ((BitVec.ofInt 32 (a : Int) ||| BitVec.ofInt 32 (b : Int)).toNat : Int) = _
  rw [BitVec.toNat_or, h1, h2, IntKind.wrap_u32]
  omega
theorem and32 (a b : Nat) (ha : a < 4294967296) (hb : b < 4294967296) : bits .and .u32 (a : Int) (b : Int) = ((a &&& b : Nat) : Int) := by
  have hx : a &&& b < 2 ^ 32 := Nat.and_lt_two_pow _ (by omega)
  have h1 : (BitVec.ofInt 32 (a : Int)).toNat = a := by rw [BitVec.ofInt_natCast, BitVec.toNat_ofNat]; exact Nat.mod_eq_of_lt (by omega)
  have h2 : (BitVec.ofInt 32 (b : Int)).toNat = b := by rw [BitVec.ofInt_natCast, BitVec.toNat_ofNat]; exact Nat.mod_eq_of_lt (by omega)
  show IntKind.u32.wrap ((BitVec.ofInt 32 (a : Int) &&& BitVec.ofInt 32 (b : Int)).toNat : Int) = _
  rw [BitVec.toNat_and, h1, h2, IntKind.wrap_u32]
  omega
theorem shl32 (r : Nat) (hr : r < 32) : Op.shift .shl .u32 1 .i64 (r : Int) = pure (.int .u32 ((2 ^ r : Nat) : Int)) := by
  rw [shift_shl _ _ _ _ (by omega) (by show (r : Int) ≤ 32; omega)]
  have h : (2 : Nat) ^ r < 4294967296 := by
    have := Nat.pow_lt_pow_right (a := 2) (by decide) hr
    simpa using this
  have e : (1 : Int) * 2 ^ (r : Int).toNat = ((2 ^ r : Nat) : Int) := by simp
  rw [e, IntKind.wrap_u32]
  generalize (2 : Nat) ^ r = z at *
  clear e
  have : (z : Int) % 4294967296 = (z : Int) := by omega
  rw [this]

theorem set_bit1 (n : Int) (w : World) : Calls Tryz.prog 89 #[.int .i64 n] w fun e w' => e = .returned (.int .u32 ((bitN n : Nat) : Int)) ∧ w = w' := by
  by_cases h0 : n < 0
  · have hf : bitN n = 0 := by simp [bitN]; omega
    rw [hf]
    clear hf
    go_enter Tryz.func89, Tryz.ntmps89
    go_wp2
    go_ret
    exact ⟨rfl, rfl⟩
  by_cases h1 : 32 ≤ n
  · have hf : bitN n = 0 := by simp [bitN]; omega
    rw [hf]
    clear hf
    go_enter Tryz.func89, Tryz.ntmps89
    go_wp2
    go_ret
    exact ⟨rfl, rfl⟩
  obtain ⟨r, rfl⟩ : ∃ r : Nat, n = (r : Int) := ⟨n.toNat, by omega⟩
  have hf : bitN (r : Int) = 2 ^ r := by simp [bitN]; omega
  have hs : (2 : Int) ^ r % 4294967296 = ((2 ^ r : Nat) : Int) := by
    have h : (2 : Nat) ^ r < 4294967296 := by
      have := Nat.pow_lt_pow_right (a := 2) (by decide) (show r < 32 by omega)
      simpa using this
    have e : (2 : Int) ^ r = ((2 ^ r : Nat) : Int) := by simp
    rw [e]
    omega
  rw [hf]
  have hr2 : (r : Int) < 32 := by omega
  generalize (2 : Nat) ^ r = p at *
  clear hf h0 h1
  go_enter Tryz.func89, Tryz.ntmps89
  go_wp2
  go_ret
  exact ⟨congrArg Ending.returned (congrArg (Value.int .u32) hs), rfl⟩

theorem ref_bit (n : Int) (w : World) : Calls Tryz.prog 23 #[.int .i64 n] w fun e w' => e = .returned (.int .u32 ((bitN n : Nat) : Int)) ∧ w = w' := by
  by_cases h0 : n < 0
  · have hf : bitN n = 0 := by simp [bitN]; omega
    rw [hf]
    clear hf
    go_enter Tryz.func23, Tryz.ntmps23
    go_wp2
    go_ret
    exact ⟨rfl, rfl⟩
  by_cases h1 : 31 < n
  · have hf : bitN n = 0 := by simp [bitN]; omega
    rw [hf]
    clear hf
    go_enter Tryz.func23, Tryz.ntmps23
    go_wp2
    go_ret
    exact ⟨rfl, rfl⟩
  obtain ⟨r, rfl⟩ : ∃ r : Nat, n = (r : Int) := ⟨n.toNat, by omega⟩
  have hf : bitN (r : Int) = 2 ^ r := by simp [bitN]; omega
  rw [hf]
  have hr2 : (r : Int) ≤ 31 := by omega
  clear hf h0 h1
  go_enter Tryz.func23, Tryz.ntmps23
  go_wp2
  go_loop [3, 4] (fun o t => ∃ q p : Nat, q ≤ r ∧ t = .int .i64 (q : Int) ∧ o = .int .u32 (p : Int) ∧ Hid (2 ^ q = p) ∧ p ≤ 2147483648) (fun _ t => r - (intOf t).toNat)
  case atStart => exact ⟨0, 1, Nat.zero_le _, rfl, rfl, Lib.hid rfl, by decide⟩
  case round =>
    obtain ⟨q, p, hq, rfl, rfl, Hp, hp⟩ := hrel
    by_cases hlt : q < r
    · have hp2 : 2 * p ≤ 2147483648 := by
        have := Nat.pow_le_pow_right (n := 2) (by decide) (show q + 1 ≤ 31 by omega)
        rw [Nat.pow_succ, Hp.out] at this
        omega
      go_wp2
      go_round
      case rel => exact ⟨q + 1, 2 * p, by omega, by go_num, by go_num, Lib.hid (by rw [Nat.pow_succ, Hp.out, Nat.mul_comm]), hp2⟩
      case measure => simp [intOf]; omega
    · obtain rfl : q = r := by omega
      go_wp2
      go_ret
      exact ⟨by show Ending.returned (.int .u32 (p : Int)) = _; rw [← Hp.out]; simp, rfl⟩

set_option maxHeartbeats 400000 in
theorem ref_has (s : Nat) (n : Int) (w : World) (hs : s < 4294967296) : Calls Tryz.prog 22 #[.int .u32 (s : Int), .int .i64 n] w fun e w' => e = .returned (.bool (hasN s n)) ∧ w = w' := by
  have h1 := and32 s (bitN n) hs (bitN_lt n)
  have h2 : (((s &&& bitN n : Nat) : Int) != 0) = hasN s n := by
    rw [← and_bit, Bool.eq_iff_iff]
    simp [bne_iff_ne]
  have hc := ref_bit n w
  generalize bitN n = b at *
  generalize s &&& b = x at *
  have Hc := Lib.hid hc
  clear hc
  go_enter Tryz.func22, Tryz.ntmps22
  go_wp2_with (go_at_call 23; (with_reducible refine Hc.out.mono ?_); rintro e w' ⟨rfl, rfl⟩)
  go_ret
  exact ⟨rfl, rfl⟩


set_option maxHeartbeats 400000 in
theorem set_of (A : Option Addr) (n c : Nat) (zs : List Int) (w : World) (h : Ints .i64 w A n c zs) : Calls Tryz.prog 58 #[.slice A n c] w fun e w' => e = .returned (.int .u32 ((ofN zs : Nat) : Int)) ∧ w = w' := by
  obtain rfl := h.len
  have hcap := h.cap
  go_enter Tryz.func58, Tryz.ntmps58
  go_wp2
  go_loop [2, 4, 7] (fun s _ i => ∃ k : Nat, k ≤ zs.length ∧ i = .int .i64 (k : Int) ∧ s = .int .u32 ((ofN (zs.take k) : Nat) : Int)) (fun _ _ i => zs.length - (intOf i).toNat)
  case atStart => exact ⟨0, Nat.zero_le _, rfl, rfl⟩
  case round =>
    obtain ⟨k, hk, rfl, rfl⟩ := hrel
    by_cases hlt : k < zs.length
    · obtain ⟨b, off, x, rfl, hb, Hx, hc⟩ := h.get (j := k) hlt
      have hor := or32 (ofN (zs.take k)) (bitN x) (ofN_lt _) (bitN_lt x)
      have Hst : Hid (ofN (zs.take (k + 1)) = ofN (zs.take k) ||| bitN x) := Lib.hid (by rw [List.take_add_one, Hx.out]; exact ofN_snoc _ _)
      have hcl := set_bit1 x w
      generalize ofN (zs.take k) = s at *
      generalize bitN x = t at *
      have Hc := Lib.hid hcl
      clear hcl
      go_wp2_with (go_at_call 89; (with_reducible refine Hc.out.mono ?_); rintro e w' ⟨rfl, rfl⟩)
      go_round
      case rel => exact ⟨k + 1, by omega, by go_num, by rw [Hst.out]⟩
      case measure => simp [intOf]; omega
    · obtain rfl : k = zs.length := by omega
      go_wp2
      go_ret
      exact ⟨by simp, rfl⟩

/-- the table of math/bits -/
def TabAt (w : World) : Prop := ∀ j, j < 32 → w.cell? ⟨0, j, none⟩ = some (.int .u8 ((Lib.deBruijn32tab.getD j 0 : Nat) : Int))

theorem tz32_key (s a : Nat) (hs : s < 4294967296) (h0 : s ≠ 0) (hlow : s &&& (4294967296 - s) = a) :
    bits BinOp.and IntKind.u32 (s : Int) (-(s : Int) % 4294967296) * 125613361 % 4294967296 / 134217728 = ((a * 125613361 % 4294967296 / 134217728 : Nat) : Int) := by
  have e1 : -(s : Int) % 4294967296 = ((4294967296 - s : Nat) : Int) := by omega
  rw [e1, and32 s _ hs (by omega), hlow]
  omega

set_option maxHeartbeats 400000 in
theorem tz32_core (s k idx : Nat) (w : World) (hz : ((s : Int) == 0) = false)
    (key : bits BinOp.and IntKind.u32 (s : Int) (-(s : Int) % 4294967296) * 125613361 % 4294967296 / 134217728 = (idx : Int))
    (hi : idx < 32) (hk : k < 32) (hcell : w.cell? ⟨0, idx, none⟩ = some (.int .u8 (k : Int))) :
    Calls Tryz.prog 57 #[.int .u32 (s : Int)] w fun e w' => e = .returned (.int .i64 (k : Int)) ∧ w = w' := by
  go_enter Tryz.func57, Tryz.ntmps57
  go_wp2_with (simp only [key])
  go_ret
  exact ⟨rfl, rfl⟩

theorem tz32 (s : Nat) (w : World) (h0 : s ≠ 0) (hs : s < 4294967296) (hT : TabAt w) :
    Calls Tryz.prog 57 #[.int .u32 (s : Int)] w fun e w' => e = .returned (.int .i64 ((Lib.ctz 32 s : Nat) : Int)) ∧ w = w' := by
  obtain ⟨hlow, hk⟩ := Lib.lowest_bit 32 s h0 hs
  obtain ⟨hi, htab⟩ := Lib.deBruijn32_at _ hk
  have hcell := hT _ hi
  rw [htab] at hcell
  exact tz32_core s _ _ w (by simp; omega) (tz32_key s _ hs h0 hlow) hi hk hcell
end Go.Proofs.YtfdbpafenhdkbaaGreatDoor

namespace Go.Proofs.YtfdbpafenhdkbaaGreatDoor
open Go.RowKit
set_option linter.unusedVariables false
set_option linter.unusedSimpArgs false

theorem TabAt.below {w w' : World} (h : TabAt w) (hb : Below w.heap.size w w') : TabAt w' := fun j hj => by
  have hlt : 0 < w.heap.size := by
    have h0 := h 0 (by decide)
    rcases Nat.lt_or_ge 0 w.heap.size with h' | h'
    · exact h'
    · simp [World.cell?, Array.getElem?_eq_none h'] at h0
  exact (hb.cell (p := ⟨0, j, none⟩) hlt).trans (h j hj)

theorem mems_len (s : Nat) : (memsN s).length ≤ 32 := by
  have := List.length_filter_le (fun n => s.testBit n) (List.range 32)
  simpa [memsN] using this

/-- natural numbers as integers -/
def intsOf (l : List Nat) : List Int := l.map fun (n : Nat) => (n : Int)
theorem intsOf_length (l : List Nat) : (intsOf l).length = l.length := by simp [intsOf]

set_option maxHeartbeats 1000000 in
theorem set_members (s : Nat) (w : World) (hs : s < 4294967296) (hT : TabAt w) :
    Calls Tryz.prog 28 #[.int .u32 (s : Int)] w (RetInts .i64 w (intsOf (memsN s))) := by
  have Hlen := Lib.hid (mems_len s)
  go_enter Tryz.func28, Tryz.ntmps28
  go_wp2
  go_loopw [0, 3] (fun t o wr => ∃ (r : Nat) (A : Option Addr) (cp : Nat) (pre : List Nat), t = .int .u32 (r : Int) ∧ r < 4294967296 ∧ Hid (memsN s = pre ++ memsN r) ∧ o = .slice A pre.length cp ∧
      wr.ownsRow w.heap.size 3 1 (.slice A pre.length cp) pre.length (ints .i64 (intsOf pre)) ∧ Below w.heap.size w wr) (fun t _ _ => (intOf t).toNat)
  case atStart => exact ⟨s, none, 0, [], rfl, hs, Lib.hid rfl, rfl, World.ownsRow_nil _ _ _ _, Below.refl _ _⟩
  case round =>
    obtain ⟨r, A, cp, pre, rfl, hr, Hm, rfl, hown, hbel⟩ := hrel
    have hbs := hbel.size
    by_cases h0 : r = 0
    · subst h0
      have hm : memsN s = pre := by rw [Hm.out, mems_zero, List.append_nil]
      have Hm2 := Lib.hid hm
      clear hm
      go_wp2
      go_ret
      have e : intsOf (memsN s) = intsOf pre := by rw [Hm2.out]
      rw [e]
      refine ⟨A, cp, by rw [intsOf_length]; rfl, ?_, hbel⟩
      rw [intsOf_length]
      exact own_sl hown
    · have hst := mems_step r h0 hr
      obtain ⟨hk, _, _, _, hlt⟩ := low_bits r h0 hr
      have hz : ((r : Int) != 0) = true := by rw [bne_iff_ne]; omega
      have hc := tz32 r wr h0 hr (hT.below hbel)
      have hand : bits .and .u32 (r : Int) ((r : Int) - 1) = ((r &&& (r - 1) : Nat) : Int) := by
        rw [show (r : Int) - 1 = ((r - 1 : Nat) : Int) from by omega]
        exact and32 r (r - 1) hr (by omega)
      have hr0 : 0 < r := by omega
      have hpl : pre.length < 32 := by
        have := Hlen.out
        rw [Hm.out, hst, List.length_append, List.length_cons] at this
        omega
      have Hst := Lib.hid hst
      have Hc := Lib.hid hc
      clear hst hc
      generalize Lib.ctz 32 r = k at *
      generalize r &&& (r - 1) = r2 at *
      go_wp2_with (first
        | (go_at_call 57; (with_reducible refine Hc.out.mono ?_); rintro e w' ⟨rfl, rfl⟩)
        | (at_builtin; refine wpl_append1 (w := wr) rfl _ _ 29 rfl w.heap.size 3 (.int .i64 0) 8 Tryz.underlying29 Tryz.infoInt rfl _ pre.length _ _ rfl hown (.int .i64 ((k : Int))) rfl rfl (by omega) (by omega) (by omega) ?_; intro A4 c4 w2 ho hg))
      go_roundw
      case rel =>
        have e : ints .i64 (intsOf (pre ++ [k])) = ints .i64 (intsOf pre) ++ [.int .i64 (k : Int)] := by simp [ints, intsOf]
        have e2 : (pre ++ [k]).length = pre.length + 1 := by simp
        refine ⟨r2, A4, c4, pre ++ [k], rfl, by omega, Lib.hid (by rw [Hm.out, Hst.out]; simp), by rw [e2], ?_, below_append hbel hg hown hbs⟩
        rw [e, e2]
        exact ho
      case measure => simp [intOf]; omega
end Go.Proofs.YtfdbpafenhdkbaaGreatDoor

namespace Go.Proofs.YtfdbpafenhdkbaaGreatDoor
set_option linter.unusedVariables false
set_option linter.unusedSimpArgs false

def iter {α : Type} (f : α → α) : Nat → α → α
  | 0, x => x
  | n + 1, x => f (iter f n x)
theorem iter_fix {α : Type} {f : α → α} {x : α} {n : Nat} (h : f (iter f n x) = iter f n x) : ∀ m, n ≤ m → iter f m x = iter f n x
  | 0, hm => by obtain rfl : n = 0 := by omega
                rfl
  | m + 1, hm => by
    rcases Nat.lt_or_ge m n with hlt | hge
    · obtain rfl : n = m + 1 := by omega
      rfl
    · show f (iter f m x) = _
      rw [iter_fix h m hge, h]

/-- a pass over bits that only adds -/
structure Grows (f : List Bool → List Bool) : Prop where
  len : ∀ b, (f b).length = b.length
  up : ∀ b (i : Nat), b[i]? = some true → (f b)[i]? = some true
theorem Grows.id : Grows fun b => b := ⟨fun _ => rfl, fun _ _ h => h⟩
theorem Grows.comp {f g : List Bool → List Bool} (hf : Grows f) (hg : Grows g) : Grows fun b => g (f b) :=
  ⟨fun b => by rw [hg.len, hf.len], fun b i h => hg.up _ i (hf.up b i h)⟩
theorem bools_ext {a b : List Bool} (hl : a.length = b.length) (h1 : ∀ i : Nat, a[i]? = some true → b[i]? = some true) (h2 : ∀ i : Nat, b[i]? = some true → a[i]? = some true) : a = b := by
  refine List.ext_getElem? fun i => ?_
  cases ha : a[i]? with
  | none =>
    rw [List.getElem?_eq_none_iff] at ha
    exact (List.getElem?_eq_none (by omega)).symm
  | some x =>
    have hi := (List.getElem?_eq_some_iff.1 ha).1
    have hb : b[i]? = some (b[i]'(by omega)) := List.getElem?_eq_getElem (by omega)
    cases x with
    | true => exact (h1 i ha).symm
    | false =>
      cases hy : b[i]'(by omega) with
      | false => rw [hb, hy]
      | true =>
        rw [hy] at hb
        have := h2 i hb
        rw [ha] at this
        cases this
theorem Grows.anti {f g : List Bool → List Bool} (hf : Grows f) (hg : Grows g) {b : List Bool} (h : g (f b) = b) : f b = b :=
  bools_ext (hf.len b) (fun i hi => by rw [← h]; exact hg.up _ i hi) (fun i hi => hf.up b i hi)
theorem count_up : ∀ (a b : List Bool), a.length = b.length → (∀ i : Nat, a[i]? = some true → b[i]? = some true) → a.countP (·) ≤ b.countP (·) ∧ (a.countP (·) = b.countP (·) → a = b)
  | [], [], _, _ => by simp
  | [], _ :: _, h, _ => by simp at h
  | _ :: _, [], h, _ => by simp at h
  | x :: a, y :: b, hl, h => by
    have ih := count_up a b (by simpa using hl) fun i hi => by simpa using h (i + 1) (by simpa using hi)
    have h0 := h 0
    simp only [List.getElem?_cons_zero, Option.some.injEq] at h0
    cases x <;> cases y
    · simp; exact ih
    · simp; omega
    · simp at h0
    · simp; exact ih
theorem Grows.fix {f : List Bool → List Bool} (hf : Grows f) (b : List Bool) : f (iter f b.length b) = iter f b.length b := by
  by_cases hfx : f (iter f b.length b) = iter f b.length b
  · exact hfx
  · exfalso
    have hlen : ∀ k, (iter f k b).length = b.length := fun k => by
      induction k with
      | zero => rfl
      | succ k ih => show (f (iter f k b)).length = _; rw [hf.len, ih]
    have hne : ∀ k, k ≤ b.length → f (iter f k b) ≠ iter f k b := fun k hk h => by
      have h1 := iter_fix h b.length hk
      rw [h1] at hfx
      exact hfx h
    have hc : ∀ k, k ≤ b.length + 1 → k ≤ (iter f k b).countP (·) := fun k => by
      induction k with
      | zero => intro _; omega
      | succ k ih =>
        intro hk
        have h1 := ih (by omega)
        have h2 := count_up (iter f k b) (f (iter f k b)) (hf.len _).symm fun i hi => hf.up _ i hi
        have h3 : (iter f k b).countP (·) ≠ (f (iter f k b)).countP (·) := fun he => hne k (by omega) (h2.2 he).symm
        show k + 1 ≤ (f (iter f k b)).countP (·)
        omega
    have h1 := hc (b.length + 1) (Nat.le_refl _)
    have h2 := List.countP_le_length (p := fun x : Bool => x) (l := iter f (b.length + 1) b)
    rw [hlen] at h2
    omega

/-! ### rows of sets, bit by bit -/
def viewB (t : Nat) (F : List Nat) : List Bool := F.map fun x => x.testBit t
theorem view_ext {F F' : List Nat} (h : ∀ t, viewB t F = viewB t F') : F = F' := by
  have hl : F.length = F'.length := by have := congrArg List.length (h 0); simpa [viewB] using this
  refine List.ext_getElem? fun i => ?_
  cases ha : F[i]? with
  | none =>
    rw [List.getElem?_eq_none_iff] at ha
    exact (List.getElem?_eq_none (by omega)).symm
  | some x =>
    have hi := (List.getElem?_eq_some_iff.1 ha).1
    have hb : F'[i]? = some (F'[i]'(by omega)) := List.getElem?_eq_getElem (by omega)
    rw [hb]
    congr 1
    apply Nat.eq_of_testBit_eq
    intro t
    have := congrArg (fun l => l[i]?) (h t)
    simp only [viewB, List.getElem?_map, ha, hb, Option.map_some, Option.some.injEq] at this
    exact this
/-- a pass over sets whose bits do not see one another, and that only adds -/
def GrowsS (f : List Nat → List Nat) : Prop := ∃ p : Nat → List Bool → List Bool, (∀ t, Grows (p t)) ∧ ∀ t F, viewB t (f F) = p t (viewB t F)
theorem GrowsS.id : GrowsS fun F => F := ⟨fun _ b => b, fun _ => Grows.id, fun _ _ => rfl⟩
theorem GrowsS.comp {f g : List Nat → List Nat} (hf : GrowsS f) (hg : GrowsS g) : GrowsS fun F => g (f F) := by
  obtain ⟨p, hp, hp2⟩ := hf
  obtain ⟨q, hq, hq2⟩ := hg
  exact ⟨fun t b => q t (p t b), fun t => (hp t).comp (hq t), fun t F => by rw [hq2, hp2]⟩
theorem GrowsS.fold {β : Type} {f : β → List Nat → List Nat} : ∀ (l : List β), (∀ x ∈ l, GrowsS (f x)) → GrowsS fun F => l.foldl (fun F x => f x F) F
  | [], _ => GrowsS.id
  | x :: l, h => GrowsS.comp (h x (by simp)) (GrowsS.fold l fun y hy => h y (by simp [hy]))
theorem GrowsS.anti {f g : List Nat → List Nat} (hf : GrowsS f) (hg : GrowsS g) {F : List Nat} (h : g (f F) = F) : f F = F := by
  obtain ⟨p, hp, hp2⟩ := hf
  obtain ⟨q, hq, hq2⟩ := hg
  refine view_ext fun t => ?_
  rw [hp2]
  refine (hp t).anti (hq t) ?_
  rw [← hp2, ← hq2, h]
theorem GrowsS.fix {f : List Nat → List Nat} (hf : GrowsS f) (F : List Nat) : f (iter f F.length F) = iter f F.length F := by
  obtain ⟨p, hp, hp2⟩ := hf
  have hit : ∀ t k, viewB t (iter f k F) = iter (p t) k (viewB t F) := fun t k => by
    induction k with
    | zero => rfl
    | succ k ih => show viewB t (f (iter f k F)) = p t (iter (p t) k (viewB t F)); rw [hp2, ih]
  refine view_ext fun t => ?_
  rw [hp2, hit]
  have := (hp t).fix (viewB t F)
  rwa [show (viewB t F).length = F.length by simp [viewB]] at this
theorem GrowsS.len {f : List Nat → List Nat} (hf : GrowsS f) (F : List Nat) : (f F).length = F.length := by
  obtain ⟨p, hp, hp2⟩ := hf
  have := congrArg List.length (hp2 0 F)
  rw [(hp 0).len] at this
  simpa [viewB] using this

/-- something is put to what stands at a place -/
def addAt (i : Nat) (x : Nat) (F : List Nat) : List Nat := F.set i (F.getD i 0 ||| x)
theorem view_getD (t : Nat) (F : List Nat) (i : Nat) : (F.getD i 0).testBit t = (viewB t F).getD i false := by
  rw [List.getD_eq_getElem?_getD, List.getD_eq_getElem?_getD, viewB, List.getElem?_map]
  cases F[i]? <;> simp
theorem view_set (t : Nat) (F : List Nat) (i v : Nat) : viewB t (F.set i v) = (viewB t F).set i (v.testBit t) := by
  simp [viewB, List.map_set]
theorem GrowsS.addAt {x : List Nat → Nat} (i : Nat) (hx : ∃ q : Nat → List Bool → Bool, ∀ t F, (x F).testBit t = q t (viewB t F)) : GrowsS fun F => addAt i (x F) F := by
  obtain ⟨q, hq⟩ := hx
  refine ⟨fun t b => b.set i (b.getD i false || q t b), fun t => ⟨fun b => by simp, fun b j hj => ?_⟩, fun t F => ?_⟩
  · rw [List.getElem?_set]
    split
    · rename_i h
      subst h
      have hl := (List.getElem?_eq_some_iff.1 hj).1
      rw [List.getD_eq_getElem?_getD, hj]
      simp [hl]
    · exact hj
  · unfold Go.Proofs.YtfdbpafenhdkbaaGreatDoor.addAt
    rw [view_set, Nat.testBit_or, view_getD, hq]
theorem addAt_same (i x : Nat) (F : List Nat) (hi : i < F.length) : decide (F.getD i 0 ||| x = F.getD i 0) = decide (addAt i x F = F) := by
  rw [Bool.eq_iff_iff, decide_eq_true_iff, decide_eq_true_iff]
  unfold addAt
  have hg : F.getD i 0 = F[i] := by rw [List.getD_eq_getElem?_getD, List.getElem?_eq_getElem hi]; rfl
  constructor
  · intro h
    rw [h, hg, List.set_getElem_self]
  · intro h
    have this : (F.set i (F.getD i 0 ||| x)).getD i 0 = F.getD i 0 := congrArg (fun l : List Nat => l.getD i 0) h
    have e : ∀ v, (F.set i v).getD i 0 = v := fun v => by simp [List.getD_eq_getElem?_getD, hi]
    rwa [e] at this
/-- whether a pass that goes on over some steps has changed nothing -/
theorem flag_step {f g : List Nat → List Nat} (hf : GrowsS f) (hg : GrowsS g) (F : List Nat) : decide (g (f F) = F) = (decide (g (f F) = f F) && decide (f F = F)) := by
  rw [Bool.eq_iff_iff, Bool.and_eq_true, decide_eq_true_iff, decide_eq_true_iff, decide_eq_true_iff]
  constructor
  · intro h
    have := hf.anti hg h
    rw [this] at h
    exact ⟨by rw [this]; exact h, this⟩
  · rintro ⟨h1, h2⟩
    rw [h1, h2]
end Go.Proofs.YtfdbpafenhdkbaaGreatDoor

namespace Go.Proofs.YtfdbpafenhdkbaaGreatDoor
set_option linter.unusedVariables false
set_option linter.unusedSimpArgs false

/-- the parts of a right grammar are in their ranges -/
structure Gr.Fits (G : Gr) : Prop where
  n1 : G.terms.length ≤ 24
  n2 : 1 ≤ G.nons.length ∧ G.nons.length ≤ 16
  n3 : 1 ≤ G.rules.length ∧ G.rules.length ≤ 40
  st : 0 ≤ G.start ∧ G.start < (G.nons.length : Int)
  left : ∀ r ∈ G.rules, 0 ≤ r.left ∧ r.left < (G.nons.length : Int)
  len : ∀ r ∈ G.rules, r.right.length ≤ 6
  sym : ∀ r ∈ G.rules, ∀ s ∈ r.right, -(G.nons.length : Int) ≤ s ∧ s < (G.terms.length : Int)
theorem Gr.lefts_all (G : Gr) : ∀ (rs : List Rul) (top t : Int), G.leftsGo rs top = some t → top ≤ t ∧ ∀ r ∈ rs, 0 ≤ r.left ∧ r.left ≤ t ∧ G.ruleOK r = true
  | [], top, t, h => by simp [Gr.leftsGo] at h; subst h; simp
  | q :: rs, top, t, h => by
    rw [Gr.leftsGo] at h
    split at h
    · rename_i hc
      obtain ⟨h1, h2⟩ := Gr.lefts_all G rs _ t h
      refine ⟨by omega, fun r hr => ?_⟩
      rcases List.mem_cons.1 hr with rfl | hr
      · exact ⟨hc.1, by omega, hc.2.2⟩
      · exact h2 r hr
    · cases h
theorem Gr.fits {G : Gr} (h : G.right = true) : G.Fits := by
  unfold Gr.right Gr.termsOK Gr.nonsOK at h
  simp only [Bool.and_eq_true, decide_eq_true_eq] at h
  obtain ⟨⟨⟨⟨⟨h1, _⟩, h2, _⟩, h3⟩, h4⟩, h5⟩ := h
  obtain ⟨_, h6⟩ := G.lefts_all _ _ _ h5
  refine ⟨h1, h2, h3, h4, fun r hr => ⟨(h6 r hr).1, by have := (h6 r hr).2.1; omega⟩, fun r hr => ?_, fun r hr s hs => ?_⟩
  · have := (h6 r hr).2.2
    unfold Gr.ruleOK at this
    simp at this
    exact this.1.1
  · have := (h6 r hr).2.2
    unfold Gr.ruleOK at this
    simp only [Bool.and_eq_true, List.all_eq_true] at this
    have := this.2 s hs
    unfold Gr.symOK Gr.has at this
    rw [Bool.and_eq_true] at this
    have := this.1
    split at this <;> simp at this <;> omega

/-! ### nullable -/
def nonI (s : Int) : Nat := (-1 - s).toNat
def allP (b : Bool) (N : List Bool) (ss : List Int) : Bool := ss.all fun s => if 0 ≤ s then b else N.getD (nonI s) false
def growN (p : Rul → List Bool → Bool) (r : Rul) (N : List Bool) : List Bool := if p r N then N.set r.left.toNat true else N
def passN (p : Rul → List Bool → Bool) (rs : List Rul) (N : List Bool) : List Bool := rs.foldl (fun N r => growN p r N) N
theorem growN_grows (p : Rul → List Bool → Bool) (r : Rul) : Grows (growN p r) := by
  refine ⟨fun b => by unfold growN; split <;> simp, fun b i h => ?_⟩
  unfold growN
  split
  · rw [List.getElem?_set]
    split
    · rename_i he
      subst he
      simp [(List.getElem?_eq_some_iff.1 h).1]
    · exact h
  · exact h
theorem passN_grows (p : Rul → List Bool → Bool) : ∀ rs, Grows (passN p rs)
  | [] => Grows.id
  | r :: rs => (growN_grows p r).comp (passN_grows p rs)
theorem passN_snoc (p : Rul → List Bool → Bool) (rs : List Rul) (r : Rul) (N : List Bool) : passN p (rs ++ [r]) N = growN p r (passN p rs N) := by simp [passN]
/-- which nonterminals are nullable -/
def nullN (G : Gr) : List Bool := iter (passN (fun r N => allP false N r.right) G.rules) G.nons.length (List.replicate G.nons.length false)

/-! ### first -/
def beginGo (N : List Bool) (F : List Nat) (rest : Nat) : List Int → Nat → Nat
  | [], acc => acc ||| rest
  | s :: ss, acc => if 0 ≤ s then acc ||| bitN s else if N.getD (nonI s) false then beginGo N F rest ss (acc ||| F.getD (nonI s) 0) else acc ||| F.getD (nonI s) 0
def beginP (N : List Bool) (F : List Nat) (ss : List Int) (rest : Nat) : Nat := beginGo N F rest ss 0
def beginB (t : Nat) (N : List Bool) (b : List Bool) (rest : Bool) : List Int → Bool → Bool
  | [], acc => acc || rest
  | s :: ss, acc => if 0 ≤ s then acc || (bitN s).testBit t else if N.getD (nonI s) false then beginB t N b rest ss (acc || b.getD (nonI s) false) else acc || b.getD (nonI s) false
theorem beginGo_bit (t : Nat) (N : List Bool) (F : List Nat) (rest : Nat) : ∀ ss acc, (beginGo N F rest ss acc).testBit t = beginB t N (viewB t F) (rest.testBit t) ss (acc.testBit t)
  | [], acc => by simp [beginGo, beginB]
  | s :: ss, acc => by
    rw [beginGo, beginB]
    split
    · simp
    · split
      · rw [beginGo_bit t N F rest ss, Nat.testBit_or, view_getD]
      · rw [Nat.testBit_or, view_getD]
def Small (F : List Nat) : Prop := ∀ x ∈ F, x < 4294967296
theorem Small.get {F : List Nat} (h : Small F) (i : Nat) : F.getD i 0 < 4294967296 := by
  rw [List.getD_eq_getElem?_getD]
  cases hx : F[i]? with
  | none => simp
  | some x => exact h x (List.mem_of_getElem? hx)
theorem beginGo_lt (N : List Bool) {F : List Nat} (hF : Small F) {rest : Nat} (hr : rest < 4294967296) : ∀ ss acc, acc < 4294967296 → beginGo N F rest ss acc < 4294967296
  | [], acc, h => or_lt32 h hr
  | s :: ss, acc, h => by
    rw [beginGo]
    split
    · exact or_lt32 h (bitN_lt s)
    · split
      · exact beginGo_lt N hF hr ss _ (or_lt32 h (hF.get _))
      · exact or_lt32 h (hF.get _)
theorem Small.addAt {F : List Nat} (h : Small F) (i : Nat) {x : Nat} (hx : x < 4294967296) : Small (addAt i x F) := by
  intro y hy
  unfold Go.Proofs.YtfdbpafenhdkbaaGreatDoor.addAt at hy
  rcases List.mem_or_eq_of_mem_set hy with hy | rfl
  · exact h y hy
  · exact or_lt32 (h.get i) hx
theorem Small.zero (n : Nat) : Small (List.replicate n 0) := fun x hx => by rw [List.eq_of_mem_replicate hx]; decide
def growF (N : List Bool) (r : Rul) (F : List Nat) : List Nat := addAt r.left.toNat (beginP N F r.right 0) F
def passF (N : List Bool) (rs : List Rul) (F : List Nat) : List Nat := rs.foldl (fun F r => growF N r F) F
theorem growF_grows (N : List Bool) (r : Rul) : GrowsS (growF N r) := GrowsS.addAt r.left.toNat ⟨fun t b => beginB t N b false r.right false, fun t F => by unfold beginP; rw [beginGo_bit]; simp⟩
theorem passF_grows (N : List Bool) (rs : List Rul) : GrowsS (passF N rs) := GrowsS.fold rs fun r _ => growF_grows N r
theorem passF_snoc (N : List Bool) (rs : List Rul) (r : Rul) (F : List Nat) : passF N (rs ++ [r]) F = growF N r (passF N rs F) := by simp [passF]
theorem growF_small (N : List Bool) (r : Rul) {F : List Nat} (h : Small F) : Small (growF N r F) := h.addAt _ (beginGo_lt N h (by decide) _ _ (by decide))
theorem passF_small (N : List Bool) (rs : List Rul) {F : List Nat} (h : Small F) : Small (passF N rs F) := by
  induction rs generalizing F with
  | nil => exact h
  | cons r rs ih => exact ih (growF_small N r h)
theorem iterF_small (N : List Bool) (rs : List Rul) {F : List Nat} (h : Small F) : ∀ n, Small (iter (passF N rs) n F)
  | 0 => h
  | n + 1 => passF_small N rs (iterF_small N rs h n)
/-- what nonterminals begin with -/
def firstN (G : Gr) : List Nat := iter (passF (nullN G) G.rules) G.nons.length (List.replicate G.nons.length 0)

/-! ### follow -/
/-- the symbol at p, of a rule -/
def growW (N : List Bool) (F : List Nat) (r : Rul) (p : Nat) (s : Int) (W : List Nat) : List Nat :=
  if s < 0 then addAt (nonI s) (beginP N F (r.right.drop (p + 1)) (W.getD r.left.toNat 0)) W else W
def posW (N : List Bool) (F : List Nat) (r : Rul) (k : Nat) (W : List Nat) : List Nat := (List.range k).foldl (fun W p => match r.right[p]? with | some s => growW N F r p s W | none => W) W
theorem posW_succ (N : List Bool) (F : List Nat) (r : Rul) (k : Nat) (W : List Nat) (s : Int) (hs : r.right[k]? = some s) : posW N F r (k + 1) W = growW N F r k s (posW N F r k W) := by
  unfold posW
  rw [List.range_succ, List.foldl_append]
  simp [hs]
def passW (N : List Bool) (F : List Nat) (rs : List Rul) (W : List Nat) : List Nat := rs.foldl (fun W r => posW N F r r.right.length W) W
theorem passW_snoc (N : List Bool) (F : List Nat) (rs : List Rul) (r : Rul) (W : List Nat) : passW N F (rs ++ [r]) W = posW N F r r.right.length (passW N F rs W) := by simp [passW]
theorem growW_grows (N : List Bool) (F : List Nat) (r : Rul) (p : Nat) (s : Int) : GrowsS (growW N F r p s) := by
  unfold growW
  split
  · exact GrowsS.addAt (nonI s) ⟨fun t b => beginB t N (viewB t F) (b.getD r.left.toNat false) (r.right.drop (p + 1)) false, fun t W => by unfold beginP; rw [beginGo_bit, view_getD]; simp⟩
  · exact GrowsS.id
theorem posW_grows (N : List Bool) (F : List Nat) (r : Rul) (k : Nat) : GrowsS (posW N F r k) := GrowsS.fold _ fun p _ => by
  cases r.right[p]? with
  | none => exact GrowsS.id
  | some s => exact growW_grows N F r p s
theorem passW_grows (N : List Bool) (F : List Nat) (rs : List Rul) : GrowsS (passW N F rs) := GrowsS.fold rs fun r _ => posW_grows N F r _
theorem growW_small (N : List Bool) {F : List Nat} (hF : Small F) (r : Rul) (p : Nat) (s : Int) {W : List Nat} (h : Small W) : Small (growW N F r p s W) := by
  unfold growW
  split
  · exact h.addAt _ (beginGo_lt N hF (h.get _) _ _ (by decide))
  · exact h
theorem posW_small (N : List Bool) {F : List Nat} (hF : Small F) (r : Rul) {W : List Nat} (h : Small W) : ∀ k, k ≤ r.right.length → Small (posW N F r k W)
  | 0, _ => h
  | k + 1, hk => by
    rw [posW_succ N F r k W _ (List.getElem?_eq_getElem (by omega))]
    exact growW_small N hF r k _ (posW_small N hF r h k (by omega))
theorem passW_small (N : List Bool) {F : List Nat} (hF : Small F) (rs : List Rul) {W : List Nat} (h : Small W) : Small (passW N F rs W) := by
  induction rs generalizing W with
  | nil => exact h
  | cons r rs ih => exact ih (posW_small N hF r h _ (Nat.le_refl _))
theorem iterW_small (N : List Bool) {F : List Nat} (hF : Small F) (rs : List Rul) {W : List Nat} (h : Small W) : ∀ n, Small (iter (passW N F rs) n W)
  | 0 => h
  | n + 1 => passW_small N hF rs (iterW_small N hF rs h n)
def startW (G : Gr) : List Nat := (List.replicate G.nons.length 0).set G.start.toNat (bitN G.terms.length)
/-- what follows nonterminals -/
def followN (G : Gr) : List Nat := iter (passW (nullN G) (firstN G) G.rules) G.nons.length (startW G)
theorem startW_small (G : Gr) : Small (startW G) := fun x hx => by
  rcases List.mem_or_eq_of_mem_set hx with hx | rfl
  · exact Small.zero _ x hx
  · exact bitN_lt _

/-! ### a loop that goes on until nothing comes more -/
/-- what a pass has made, k times over, is what is to be made, if the last one changed nothing -/
theorem iter_done {α : Type} {f : α → α} {x : α} {n k : Nat} (hn : f (iter f n x) = iter f n x) (hk : f (iter f k x) = iter f k x) : iter f k x = iter f n x := by
  rcases Nat.le_total k n with h | h
  · exact (iter_fix hk n h).symm
  · exact iter_fix hn k h
theorem iter_more {α : Type} {f : α → α} {x : α} {n k : Nat} (hn : f (iter f n x) = iter f n x) (hk : f (iter f k x) ≠ iter f k x) : k < n := by
  rcases Nat.lt_or_ge k n with h | h
  · exact h
  · rw [iter_fix hn k h] at hk
    exact absurd hn hk
end Go.Proofs.YtfdbpafenhdkbaaGreatDoor

namespace Go.Proofs.YtfdbpafenhdkbaaGreatDoor
open Go.RowKit
set_option linter.unusedVariables false
set_option linter.unusedSimpArgs false

/-- a block of the call's own, whole -/
def Blk (w : World) (g : Nat) (t : TypeId) (cs : Array Value) : Prop := w.heap[g]? = some (.cells cs t (0, 0))
theorem Blk.lt {w : World} {g : Nat} {t : TypeId} {cs : Array Value} (h : Blk w g t cs) : g < w.heap.size := by
  rcases Nat.lt_or_ge g w.heap.size with hlt | hge
  · exact hlt
  · unfold Blk at h; rw [Array.getElem?_eq_none hge] at h; cases h
theorem Blk.cell {w : World} {g : Nat} {t : TypeId} {cs : Array Value} (h : Blk w g t cs) (i : Nat) : w.cell? ⟨g, i, none⟩ = cs[i]? := by
  unfold Blk at h
  simp [World.cell?, h]
theorem Blk.frozen {w : World} {g : Nat} {t : TypeId} {cs : Array Value} (h : Blk w g t cs) (i : Nat) : w.frozen? ⟨g, i, none⟩ = false := by
  unfold Blk at h
  simp [World.frozen?, h]
theorem Blk.set {w : World} {g : Nat} {t : TypeId} {cs : Array Value} (h : Blk w g t cs) (i : Nat) (v : Value) : Blk (w.setCell ⟨g, i, none⟩ v) g t (cs.setIfInBounds i v) := by
  unfold Blk at h ⊢
  simp [World.setCell, Array.getElem?_modify, h]
theorem Blk.below {w w' : World} {g B : Nat} {t : TypeId} {cs : Array Value} (h : Blk w g t cs) (hb : Below B w w') (hg : g < B) : Blk w' g t cs := (hb.block g hg).trans h
theorem Blk.ext {w w' : World} {g : Nat} {t : TypeId} {cs : Array Value} (h : Blk w g t cs) (hb : Below w.heap.size w w') : Blk w' g t cs := h.below hb h.lt
theorem Blk.new (w : World) (t : TypeId) (cs : Array Value) : Blk (w.alloc (.cells cs t)) w.heap.size t cs := heap_alloc_new w _
theorem Blk.grown {w w' : World} {g : Nat} {t : TypeId} {cs : Array Value} {row : Option Nat} (h : Blk w g t cs) (hg : w.grownBy w' row) (hr : some g ≠ row) : Blk w' g t cs := (hg.block g h.lt hr).trans h
theorem Blk.other {w : World} {g : Nat} {t : TypeId} {cs : Array Value} (h : Blk w g t cs) (g' i : Nat) (v : Value) (hne : g ≠ g') : Blk (w.setCell ⟨g', i, none⟩ v) g t cs := (Below.heap_setCell w ⟨g', i, none⟩ v g hne).trans h
theorem grown_refl (w : World) (r : Option Nat) : w.grownBy w r := ⟨rfl, rfl, rfl, Nat.le_refl _, fun _ _ _ => rfl⟩
theorem grown_trans {a b c : World} {r : Option Nat} (h : a.grownBy b r) (k : b.grownBy c r) : a.grownBy c r :=
  ⟨k.os.trans h.os, k.tape.trans h.tape, k.output.trans h.output, Nat.le_trans h.size k.size, fun i hi hne => (k.block i (Nat.lt_of_lt_of_le hi h.size) hne).trans (h.block i hi hne)⟩
theorem grown_set (w : World) (g i : Nat) (v : Value) : w.grownBy (w.setCell ⟨g, i, none⟩ v) (some g) :=
  ⟨rfl, rfl, rfl, by simp, fun k _ hne => Below.heap_setCell w ⟨g, i, none⟩ v k fun h => hne (by rw [h])⟩
theorem grown_below {w w' : World} (r : Option Nat) (h : Below w.heap.size w w') : w.grownBy w' r := ⟨h.os, h.tape, h.output, h.size, fun k hk _ => h.block k hk⟩
theorem grown_is_below {w w' : World} {B : Nat} {g : Nat} (h : w.grownBy w' (some g)) (hB : B ≤ w.heap.size) (hg : B ≤ g) : Below B w w' :=
  ⟨h.os, h.tape, h.output, h.size, fun k hk => h.block k (by omega) (by intro h'; injection h' with h'; omega)⟩
theorem grown_frozen {w w' : World} {g : Nat} (h : w.grownBy w' (some g)) {b o : Nat} (hb : b < w.heap.size) (hne : b ≠ g) : w'.cell? ⟨b, o, none⟩ = w.cell? ⟨b, o, none⟩ :=
  World.cell?_of_block (a := ⟨b, o, none⟩) (h.block b hb (by intro h'; injection h' with h'; exact hne h'))

theorem Blk.drew {w : World} {g : Nat} {t : TypeId} {cs : Array Value} (h : Blk w g t cs) : Blk w.drew g t cs := h
theorem below_alloc {w w' : World} (h : Below w.heap.size w w') (o : Obj) : Below w.heap.size w (w'.alloc o) := h.alloc h.size o
theorem below_set {w w' : World} (h : Below w.heap.size w w') (g i : Nat) (v : Value) (hg : w.heap.size ≤ g) : Below w.heap.size w (w'.setCell ⟨g, i, none⟩ v) := h.trans (grown_is_below (grown_set _ _ _ _) h.size hg)
end Go.Proofs.YtfdbpafenhdkbaaGreatDoor
