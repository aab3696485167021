/- set: the walks. -/
import Derived.Test.YtapnnnciaagbdaaDoorKit4
import Derived.Test.YtapnnnciaagbdaaDoorSetPlain
import Derived.Test.YtapnnnciaagbdaaDoorProg
import Derived.Laws.Bits64b
import Derived.Lib.Tables
import Derived.Deep.QuietTactic
import Derived.BigQuiet
namespace Go.Proofs.YtapnnnciaagbdaaDoor
open Go.RowKit
set_option linter.unusedVariables false
set_option linter.unusedSimpArgs false

theorem Tryd.infoInt : (Tryd.prog.info? 3).map (fun i => (i.zero, i.size, i.bytes)) = some (some (.int .i64 0), 1, 8) := by kernel_rfl
theorem Tryd.infoU32 : (Tryd.prog.info? 22).map (fun i => (i.zero, i.size, i.bytes)) = some (some (.int .u32 0), 1, 4) := by kernel_rfl

theorem or32 (a b : Nat) (ha : a < 4294967296) (hb : b < 4294967296) : bits .or .u32 (a : Int) (b : Int) = ((a ||| b : Nat) : Int) := by
  have hx : a ||| b < 2 ^ 32 := Nat.or_lt_two_pow (by omega) (by omega)
  have h1 : (BitVec.ofInt 32 (a : Int)).toNat = a := by rw [BitVec.ofInt_natCast, BitVec.toNat_ofNat]; exact Nat.mod_eq_of_lt (by omega)
  have h2 : (BitVec.ofInt 32 (b : Int)).toNat = b := by rw [BitVec.ofInt_natCast, BitVec.toNat_ofNat]; exact Nat.mod_eq_of_lt (by omega)
  show IntKind.u32.wrap ((BitVec.ofInt 32 (a : Int) ||| BitVec.ofInt 32 (b : Int)).toNat : Int) = _
  rw [BitVec.toNat_or, h1, h2, IntKind.wrap_u32]
  omega
theorem and32 (a b : Nat) (ha : a < 4294967296) (hb : b < 4294967296) : bits .and .u32 (a : Int) (b : Int) = ((a &&& b : Nat) : Int) := by
  have hx : a &&& b < 2 ^ 32 := Nat.and_lt_two_pow _ (by omega)
  have h1 : (BitVec.ofInt 32 (a : Int)).toNat = a := by rw [BitVec.ofInt_natCast, BitVec.toNat_ofNat]; exact Nat.mod_eq_of_lt (by omega)
  have h2 : (BitVec.ofInt 32 (b : Int)).toNat = b := by rw [BitVec.ofInt_natCast, BitVec.toNat_ofNat]; exact Nat.mod_eq_of_lt (by omega)
  show IntKind.u32.wrap ((BitVec.ofInt 32 (a : Int) &&& BitVec.ofInt 32 (b : Int)).toNat : Int) = _
  rw [BitVec.toNat_and, h1, h2, IntKind.wrap_u32]
  omega
theorem shl32 (r : Nat) (hr : r < 32) : Op.shift .shl .u32 1 .i64 (r : Int) = pure (.int .u32 ((2 ^ r : Nat) : Int)) := by
  rw [shift_shl _ _ _ _ (by omega) (by show (r : Int) ≤ 32; omega)]
  have h : (2 : Nat) ^ r < 4294967296 := by
    have := Nat.pow_lt_pow_right (a := 2) (by decide) hr
    simpa using this
  have e : (1 : Int) * 2 ^ (r : Int).toNat = ((2 ^ r : Nat) : Int) := by simp
  rw [e, IntKind.wrap_u32]
  generalize (2 : Nat) ^ r = z at *
  clear e
  have : (z : Int) % 4294967296 = (z : Int) := by omega
  rw [this]

theorem set_bit1 (n : Int) (w : World) : Calls Tryd.prog 20 #[.int .i64 n] w fun e w' => e = .returned (.int .u32 ((bitN n : Nat) : Int)) ∧ w = w' := by
  by_cases h0 : n < 0
  · have hf : bitN n = 0 := by simp [bitN]; omega
    rw [hf]
    clear hf
    go_enter Tryd.func20, Tryd.ntmps20
    go_wp2
    go_ret
    exact ⟨rfl, rfl⟩
  by_cases h1 : 32 ≤ n
  · have hf : bitN n = 0 := by simp [bitN]; omega
    rw [hf]
    clear hf
    go_enter Tryd.func20, Tryd.ntmps20
    go_wp2
    go_ret
    exact ⟨rfl, rfl⟩
  obtain ⟨r, rfl⟩ : ∃ r : Nat, n = (r : Int) := ⟨n.toNat, by omega⟩
  have hf : bitN (r : Int) = 2 ^ r := by simp [bitN]; omega
  have hs : (2 : Int) ^ r % 4294967296 = ((2 ^ r : Nat) : Int) := by
    have h : (2 : Nat) ^ r < 4294967296 := by
      have := Nat.pow_lt_pow_right (a := 2) (by decide) (show r < 32 by omega)
      simpa using this
    have e : (2 : Int) ^ r = ((2 ^ r : Nat) : Int) := by simp
    rw [e]
    omega
  rw [hf]
  have hr2 : (r : Int) < 32 := by omega
  generalize (2 : Nat) ^ r = p at *
  clear hf h0 h1
  go_enter Tryd.func20, Tryd.ntmps20
  go_wp2
  go_ret
  exact ⟨congrArg Ending.returned (congrArg (Value.int .u32) hs), rfl⟩

theorem ref_bit (n : Int) (w : World) : Calls Tryd.prog 21 #[.int .i64 n] w fun e w' => e = .returned (.int .u32 ((bitN n : Nat) : Int)) ∧ w = w' := by
  by_cases h0 : n < 0
  · have hf : bitN n = 0 := by simp [bitN]; omega
    rw [hf]
    clear hf
    go_enter Tryd.func21, Tryd.ntmps21
    go_wp2
    go_ret
    exact ⟨rfl, rfl⟩
  by_cases h1 : 31 < n
  · have hf : bitN n = 0 := by simp [bitN]; omega
    rw [hf]
    clear hf
    go_enter Tryd.func21, Tryd.ntmps21
    go_wp2
    go_ret
    exact ⟨rfl, rfl⟩
  obtain ⟨r, rfl⟩ : ∃ r : Nat, n = (r : Int) := ⟨n.toNat, by omega⟩
  have hf : bitN (r : Int) = 2 ^ r := by simp [bitN]; omega
  rw [hf]
  have hr2 : (r : Int) ≤ 31 := by omega
  clear hf h0 h1
  go_enter Tryd.func21, Tryd.ntmps21
  go_wp2
  go_loop [3, 4] (fun o t => ∃ q p : Nat, q ≤ r ∧ t = .int .i64 (q : Int) ∧ o = .int .u32 (p : Int) ∧ Hid (2 ^ q = p) ∧ p ≤ 2147483648) (fun _ t => r - (intOf t).toNat)
  case atStart => exact ⟨0, 1, Nat.zero_le _, rfl, rfl, Lib.hid rfl, by decide⟩
  case round =>
    obtain ⟨q, p, hq, rfl, rfl, Hp, hp⟩ := hrel
    by_cases hlt : q < r
    · have hp2 : 2 * p ≤ 2147483648 := by
        have := Nat.pow_le_pow_right (n := 2) (by decide) (show q + 1 ≤ 31 by omega)
        rw [Nat.pow_succ, Hp.out] at this
        omega
      go_wp2
      go_round
      case rel => exact ⟨q + 1, 2 * p, by omega, by go_num, by go_num, Lib.hid (by rw [Nat.pow_succ, Hp.out, Nat.mul_comm]), hp2⟩
      case measure => simp [intOf]; omega
    · obtain rfl : q = r := by omega
      go_wp2
      go_ret
      exact ⟨by show Ending.returned (.int .u32 (p : Int)) = _; rw [← Hp.out]; simp, rfl⟩

set_option maxHeartbeats 400000 in
theorem set_has (s : Nat) (n : Int) (w : World) (hs : s < 4294967296) : Calls Tryd.prog 9 #[.int .u32 (s : Int), .int .i64 n] w fun e w' => e = .returned (.bool (hasN s n)) ∧ w = w' := by
  have h1 := and32 s (bitN n) hs (bitN_lt n)
  have h2 : (((s &&& bitN n : Nat) : Int) != 0) = hasN s n := by
    rw [← and_bit, Bool.eq_iff_iff]
    simp [bne_iff_ne]
  have hc := set_bit1 n w
  generalize bitN n = b at *
  generalize s &&& b = x at *
  have Hc := Lib.hid hc
  clear hc
  go_enter Tryd.func9, Tryd.ntmps9
  go_wp2_with (go_at_call 20; (with_reducible refine Hc.out.mono ?_); rintro e w' ⟨rfl, rfl⟩)
  go_ret
  exact ⟨rfl, rfl⟩

set_option maxHeartbeats 400000 in
theorem ref_has (s : Nat) (n : Int) (w : World) (hs : s < 4294967296) : Calls Tryd.prog 10 #[.int .u32 (s : Int), .int .i64 n] w fun e w' => e = .returned (.bool (hasN s n)) ∧ w = w' := by
  have h1 := and32 s (bitN n) hs (bitN_lt n)
  have h2 : (((s &&& bitN n : Nat) : Int) != 0) = hasN s n := by
    rw [← and_bit, Bool.eq_iff_iff]
    simp [bne_iff_ne]
  have hc := ref_bit n w
  generalize bitN n = b at *
  generalize s &&& b = x at *
  have Hc := Lib.hid hc
  clear hc
  go_enter Tryd.func10, Tryd.ntmps10
  go_wp2_with (go_at_call 21; (with_reducible refine Hc.out.mono ?_); rintro e w' ⟨rfl, rfl⟩)
  go_ret
  exact ⟨rfl, rfl⟩


set_option maxHeartbeats 400000 in
theorem set_of (A : Option Addr) (n c : Nat) (zs : List Int) (w : World) (h : Ints .i64 w A n c zs) : Calls Tryd.prog 7 #[.slice A n c] w fun e w' => e = .returned (.int .u32 ((ofN zs : Nat) : Int)) ∧ w = w' := by
  obtain rfl := h.len
  have hcap := h.cap
  go_enter Tryd.func7, Tryd.ntmps7
  go_wp2
  go_loop [2, 4, 7] (fun s _ i => ∃ k : Nat, k ≤ zs.length ∧ i = .int .i64 (k : Int) ∧ s = .int .u32 ((ofN (zs.take k) : Nat) : Int)) (fun _ _ i => zs.length - (intOf i).toNat)
  case atStart => exact ⟨0, Nat.zero_le _, rfl, rfl⟩
  case round =>
    obtain ⟨k, hk, rfl, rfl⟩ := hrel
    by_cases hlt : k < zs.length
    · obtain ⟨b, off, x, rfl, hb, Hx, hc⟩ := h.get (j := k) hlt
      have hor := or32 (ofN (zs.take k)) (bitN x) (ofN_lt _) (bitN_lt x)
      have Hst : Hid (ofN (zs.take (k + 1)) = ofN (zs.take k) ||| bitN x) := Lib.hid (by rw [List.take_add_one, Hx.out]; exact ofN_snoc _ _)
      have hcl := set_bit1 x w
      generalize ofN (zs.take k) = s at *
      generalize bitN x = t at *
      have Hc := Lib.hid hcl
      clear hcl
      go_wp2_with (go_at_call 20; (with_reducible refine Hc.out.mono ?_); rintro e w' ⟨rfl, rfl⟩)
      go_round
      case rel => exact ⟨k + 1, by omega, by go_num, by rw [Hst.out]⟩
      case measure => simp [intOf]; omega
    · obtain rfl : k = zs.length := by omega
      go_wp2
      go_ret
      exact ⟨by simp, rfl⟩

set_option maxHeartbeats 400000 in
theorem ref_of3 (A : Option Addr) (n c : Nat) (zs : List Int) (w : World) (h : Ints .i64 w A n c zs) : Calls Tryd.prog 8 #[.slice A n c] w fun e w' => e = .returned (.int .u32 ((ofN zs : Nat) : Int)) ∧ w = w' := by
  obtain rfl := h.len
  have hcap := h.cap
  go_enter Tryd.func8, Tryd.ntmps8
  go_wp2
  go_loop [3, 4] (fun s i => ∃ k : Nat, k ≤ zs.length ∧ i = .int .i64 (k : Int) ∧ s = .int .u32 ((ofN (zs.take k) : Nat) : Int)) (fun _ i => zs.length - (intOf i).toNat)
  case atStart => exact ⟨0, Nat.zero_le _, rfl, rfl⟩
  case round =>
    obtain ⟨k, hk, rfl, rfl⟩ := hrel
    by_cases hlt : k < zs.length
    · obtain ⟨b, off, x, rfl, hb, Hx, hc⟩ := h.get (j := k) hlt
      have hor := or32 (ofN (zs.take k)) (bitN x) (ofN_lt _) (bitN_lt x)
      have Hst : Hid (ofN (zs.take (k + 1)) = ofN (zs.take k) ||| bitN x) := Lib.hid (by rw [List.take_add_one, Hx.out]; exact ofN_snoc _ _)
      have hcl := ref_bit x w
      generalize ofN (zs.take k) = s at *
      generalize bitN x = t at *
      have Hc := Lib.hid hcl
      clear hcl
      go_wp2_with (go_at_call 21; (with_reducible refine Hc.out.mono ?_); rintro e w' ⟨rfl, rfl⟩)
      go_round
      case rel => exact ⟨k + 1, by omega, by go_num, by rw [Hst.out]⟩
      case measure => simp [intOf]; omega
    · obtain rfl : k = zs.length := by omega
      go_wp2
      go_ret
      exact ⟨by simp, rfl⟩

/-- the table of math/bits -/
def TabAt (w : World) : Prop := ∀ j, j < 32 → w.cell? ⟨0, j, none⟩ = some (.int .u8 ((Lib.deBruijn32tab.getD j 0 : Nat) : Int))

theorem tz32_key (s a : Nat) (hs : s < 4294967296) (h0 : s ≠ 0) (hlow : s &&& (4294967296 - s) = a) :
    bits BinOp.and IntKind.u32 (s : Int) (-(s : Int) % 4294967296) * 125613361 % 4294967296 / 134217728 = ((a * 125613361 % 4294967296 / 134217728 : Nat) : Int) := by
  have e1 : -(s : Int) % 4294967296 = ((4294967296 - s : Nat) : Int) := by omega
  rw [e1, and32 s _ hs (by omega), hlow]
  omega

set_option maxHeartbeats 400000 in
theorem tz32_core (s k idx : Nat) (w : World) (hz : ((s : Int) == 0) = false)
    (key : bits BinOp.and IntKind.u32 (s : Int) (-(s : Int) % 4294967296) * 125613361 % 4294967296 / 134217728 = (idx : Int))
    (hi : idx < 32) (hk : k < 32) (hcell : w.cell? ⟨0, idx, none⟩ = some (.int .u8 (k : Int))) :
    Calls Tryd.prog 22 #[.int .u32 (s : Int)] w fun e w' => e = .returned (.int .i64 (k : Int)) ∧ w = w' := by
  go_enter Tryd.func22, Tryd.ntmps22
  go_wp2_with (simp only [key])
  go_ret
  exact ⟨rfl, rfl⟩

theorem tz32 (s : Nat) (w : World) (h0 : s ≠ 0) (hs : s < 4294967296) (hT : TabAt w) :
    Calls Tryd.prog 22 #[.int .u32 (s : Int)] w fun e w' => e = .returned (.int .i64 ((Lib.ctz 32 s : Nat) : Int)) ∧ w = w' := by
  obtain ⟨hlow, hk⟩ := Lib.lowest_bit 32 s h0 hs
  obtain ⟨hi, htab⟩ := Lib.deBruijn32_at _ hk
  have hcell := hT _ hi
  rw [htab] at hcell
  exact tz32_core s _ _ w (by simp; omega) (tz32_key s _ hs h0 hlow) hi hk hcell
end Go.Proofs.YtapnnnciaagbdaaDoor
