/- Walks: what nat's Right, neat, fit, Of, Cmp and Add compute. -/
import Derived.Test.YtapnnnciaagbdaaNatW1
namespace Go.Proofs.Ytapnnnciaagbdaa
open Go.RowKit
set_option linter.unusedVariables false
set_option linter.unusedSimpArgs false

/-- a list of limbs and an error's number come back, in memory that is new or was there; what was there is as it was -/
def RetNat (w : World) (p : List Nat × Nat) (e : Ending) (w' : World) : Prop :=
  ∃ A c, e = .returned (.tuple #[.slice A p.1.length c, .int .i64 (p.2 : Int)]) ∧ Nums .u32 w' A p.1.length c p.1 ∧ Below w.heap.size w w'
/-- a list of limbs comes back -/
def RetLimbs (w : World) (zs : List Nat) (e : Ending) (w' : World) : Prop :=
  ∃ A c, e = .returned (.slice A zs.length c) ∧ Nums .u32 w' A zs.length c zs ∧ Below w.heap.size w w'
/-- a value comes back; no block has turned -/
def Quiet (w : World) (v : Value) (e : Ending) (w' : World) : Prop := e = .returned v ∧ Same w w'

theorem Try.info34 : (Try.prog.info? 34).map (fun i => (i.zero, i.size, i.bytes)) = some (some (.int .u32 0), 1, 4) := by kernel_rfl

set_option maxHeartbeats 400000 in
theorem nat_right (A : Option Addr) (n c : Nat) (xs : List Nat) (w : World) (h : Nums .u32 w A n c xs) :
    Calls Try.prog 30 #[.slice A n c] w fun e w' => e = .returned (.bool (rightB xs)) ∧ w = w' := by
  have hl := h.len
  have hcap := h.cap
  by_cases h0 : n = 0
  · subst h0
    go_enter Try.func30, Try.ntmps30
    go_wp2
    go_ret
    exact ⟨by simp [rightB, hl], rfl⟩
  · obtain ⟨b, off, x, rfl, hb, Hx, hc⟩ := h.get (j := n - 1) (by omega)
    have hx := Hx.out
    by_cases h32 : n ≤ 32
    · have he : ((n : Int) == 0) = false := by simp; omega
      have hfin : rightB xs = ((x : Int) != 0) := by
        simp [rightB, hl, h32, h0, hx, cast_bne0]
      have Hf := Lib.hid hfin
      clear hfin hx
      go_enter Try.func30, Try.ntmps30
      go_wp2
      go_ret
      rw [Hf.out]
      exact ⟨rfl, rfl⟩
    · go_enter Try.func30, Try.ntmps30
      go_wp2
      go_ret
      exact ⟨by simp [rightB, hl, h32], rfl⟩

set_option maxHeartbeats 400000 in
theorem ref_right (A : Option Addr) (n c : Nat) (xs : List Nat) (w : World) (h : Nums .u32 w A n c xs) :
    Calls Try.prog 31 #[.slice A n c] w fun e w' => e = .returned (.bool (rightB xs)) ∧ w = w' := by
  have hl := h.len
  have hcap := h.cap
  by_cases h0 : n = 0
  · subst h0
    go_enter Try.func31, Try.ntmps31
    go_wp2
    go_ret
    exact ⟨by simp [rightB, hl], rfl⟩
  · obtain ⟨b, off, x, rfl, hb, Hx, hc⟩ := h.get (j := n - 1) (by omega)
    have hx := Hx.out
    by_cases h32 : n ≤ 32
    · have he : ((n : Int) == 0) = false := by simp; omega
      have hfin : rightB xs = ((x : Int) != 0) := by
        simp [rightB, hl, h32, h0, hx, cast_bne0]
      have Hf := Lib.hid hfin
      clear hfin hx
      go_enter Try.func31, Try.ntmps31
      go_wp2
      go_ret
      rw [Hf.out]
      exact ⟨rfl, rfl⟩
    · go_enter Try.func31, Try.ntmps31
      go_wp2
      go_ret
      exact ⟨by simp [rightB, hl, h32], rfl⟩

set_option maxHeartbeats 400000 in
theorem nat_neat (A : Option Addr) (n c : Nat) (xs : List Nat) (w : World) (h : Nums .u32 w A n c xs) :
    Calls Try.prog 57 #[.slice A n c] w fun e w' => e = .returned (.slice A (neatL xs).length (neatL xs).length) ∧ Nums .u32 w A (neatL xs).length (neatL xs).length (neatL xs) ∧ w = w' := by
  have hl := h.len
  have hcap := h.cap
  go_enter Try.func57, Try.ntmps57
  go_wp2
  go_loop [3] (fun i => ∃ k : Nat, k ≤ n ∧ i = .int .i64 k ∧ neatL xs = neatL (xs.take k)) (fun i => (intOf i).toNat)
  case atStart => exact ⟨n, Nat.le_refl _, rfl, by rw [List.take_of_length_le (by omega)]⟩
  case round =>
    obtain ⟨k, hk, rfl, hrel⟩ := hrel
    have Hrel := Lib.hid hrel
    clear hrel
    by_cases hlt : 0 < k
    · obtain ⟨b, off, x, rfl, hb, Hx, hc⟩ := h.get (j := k - 1) (by omega)
      by_cases h0 : x = 0
      · subst h0
        go_wp2
        go_round
        case rel =>
          refine ⟨k - 1, by omega, by go_num, ?_⟩
          rw [Hrel.out]
          have := neatL_step xs (k - 1) (by omega) (by simp [Hx.out])
          rw [← this, show k - 1 + 1 = k from by omega]
        case measure => simp [intOf]; omega
      · have ht : ((x : Int) == 0) = false := by simp [h0]
        have hfin := neatL_stop xs (k - 1) (by omega) (by simpa [Hx.out] using h0)
        rw [show k - 1 + 1 = k from by omega, ← Hrel.out] at hfin
        have hfin2 : (neatL xs).length = k := by rw [hfin]; simp; omega
        have Hf := Lib.hid hfin
        have Hf2 := Lib.hid hfin2
        clear hfin hfin2
        go_wp2
        go_ret
        rw [Hf2.out]
        refine ⟨rfl, ?_, rfl⟩
        rw [Hf.out]
        exact h.take k k hk (Nat.le_refl _) (by omega)
    · have hfin : neatL xs = [] := by rw [Hrel.out, show k = 0 from by omega]; simp [neatL]
      have Hf := Lib.hid hfin
      clear hfin
      obtain rfl : k = 0 := by omega
      go_wp2
      go_ret
      rw [Hf.out]
      exact ⟨rfl, Nums.nil _ _ _ _ (by simp), rfl⟩

set_option maxHeartbeats 400000 in
theorem nat_fit (A : Option Addr) (n c : Nat) (xs : List Nat) (w : World) (h : Nums .u32 w A n c xs) (hx : Lim xs) :
    Calls Try.prog 53 #[.slice A n c] w (RetNat w (fitN (val xs))) := by
  have hf := fit_neat xs hx
  by_cases h32 : (neatL xs).length ≤ 32
  · rw [if_pos h32] at hf
    have Hf := Lib.hid hf
    clear hf
    go_enter Try.func53, Try.ntmps53
    go_wp2_with (go_at_call 57; refine (nat_neat _ _ _ _ _ h).mono ?_; rintro e w' ⟨rfl, hN, rfl⟩)
    go_ret2
    rw [← Hf.out]
    exact ⟨_, _, rfl, by assumption, Below.refl _ _⟩
  · rw [if_neg h32] at hf
    have Hf := Lib.hid hf
    clear hf
    go_enter Try.func53, Try.ntmps53
    go_wp2_with (go_at_call 57; refine (nat_neat _ _ _ _ _ h).mono ?_; rintro e w' ⟨rfl, hN, rfl⟩)
    go_ret2
    rw [← Hf.out]
    exact ⟨none, 0, rfl, Nums.nil _ _ _ _ (by simp), Below.refl _ _⟩

set_option maxHeartbeats 400000 in
theorem nat_of (x : Nat) (w : World) (hx : x < 18446744073709551616) :
    Calls Try.prog 38 #[.int .u64 (x : Int)] w (RetLimbs w (limbs x)) := by
  have hl : Lim [x % 4294967296, x / 4294967296] := Lim.mk (by omega) (Lim.mk (by omega) Lim.nil)
  have hv : val [x % 4294967296, x / 4294967296] = x := by simp [val]; omega
  have hn := neatL_limbs _ hl
  rw [hv] at hn
  have Hn := Lib.hid hn
  clear hn hv
  have hown := (Own.new w 34 .u32 [x % 4294967296, x / 4294967296]).nums (n := 2) (c := 2) rfl (Nat.le_refl _) (by omega)
  have e : (nums .u32 [x % 4294967296, x / 4294967296]).toArray = #[.int .u32 ((x : Int) % 4294967296), .int .u32 ((x : Int) / 4294967296)] := by simp [nums]
  rw [e] at hown
  clear e
  go_enter Try.func38, Try.ntmps38
  go_wp2_with (go_at_call 57; refine (nat_neat _ _ _ _ _ hown).mono ?_; rintro e w' ⟨rfl, hN, rfl⟩)
  go_ret
  rw [Hn.out] at hN ⊢
  exact ⟨_, _, rfl, hN, (Below.refl _ _).alloc (Nat.le_refl _) _⟩

set_option maxHeartbeats 400000 in
theorem cmp_int (a b : Int) (w : World) :
    Calls Try.prog 58 #[.int .i64 a, .int .i64 b] w fun e w' => e = .returned (.int .i64 (if a < b then -1 else if b < a then 1 else 0)) ∧ w = w' := by
  by_cases h1 : a < b
  · go_enter Try.func58, Try.ntmps58
    go_wp2
    go_ret
    exact ⟨by simp, rfl⟩
  · by_cases h2 : b < a
    · go_enter Try.func58, Try.ntmps58
      go_wp2
      go_ret
      exact ⟨by simp, rfl⟩
    · go_enter Try.func58, Try.ntmps58
      go_wp2
      go_ret
      exact ⟨by simp, rfl⟩

set_option maxHeartbeats 400000 in
theorem cmp_u32 (a b : Int) (w : World) :
    Calls Try.prog 59 #[.int .u32 a, .int .u32 b] w fun e w' => e = .returned (.int .i64 (if a < b then -1 else if b < a then 1 else 0)) ∧ w = w' := by
  by_cases h1 : a < b
  · go_enter Try.func59, Try.ntmps59
    go_wp2
    go_ret
    exact ⟨by simp, rfl⟩
  · by_cases h2 : b < a
    · go_enter Try.func59, Try.ntmps59
      go_wp2
      go_ret
      exact ⟨by simp, rfl⟩
    · go_enter Try.func59, Try.ntmps59
      go_wp2
      go_ret
      exact ⟨by simp, rfl⟩

end Go.Proofs.Ytapnnnciaagbdaa
