/- Walks: nat's Add and Sub. -/
import Derived.Test.YtapnnnciaagbdaaNatW2
namespace Go.Proofs.Ytapnnnciaagbdaa
open Go.RowKit
set_option linter.unusedVariables false
set_option linter.unusedSimpArgs false

theorem getD_of_get {xs : List Nat} {j x : Nat} (h : xs[j]? = some x) : xs.getD j 0 = x := by simp [h]
theorem getD_of_ge {xs : List Nat} {j : Nat} (h : xs.length ≤ j) : xs.getD j 0 = 0 := by simp [List.getElem?_eq_none h]

/-- the buffer after k rounds, and after one more -/
theorem buf_step (zs : List Nat) (k n s : Nat) (hk : zs.length = k) (hn : k < n) : (zs ++ List.replicate (n - k) 0).set k s = (zs ++ [s]) ++ List.replicate (n - (k + 1)) 0 := by
  subst hk
  rw [List.set_append_right _ _ (Nat.le_refl _), Nat.sub_self]
  have : n - zs.length = (n - (zs.length + 1)) + 1 := by omega
  rw [this, List.replicate_succ, List.set_cons_zero]
  simp

theorem bits_add32_zero (x c : Nat) (w : World) (hx : x < 4294967296) (hc : c ≤ 1) :
    Calls Try.prog 52 #[.int .u32 (x : Int), .int .u32 0, .int .u32 (c : Int)] w fun e w' =>
      e = .returned (.tuple #[.int .u32 (((x + 0 + c) % 4294967296 : Nat) : Int), .int .u32 (((x + 0 + c) / 4294967296 : Nat) : Int)]) ∧ w = w' :=
  bits_add32 x 0 c w hx (by omega) hc

/-- the loop of 'Add', the longer number ahead -/
def AddRel (w : World) (xs ys : List Nat) (n : Nat) (B : Nat) (c i : Value) (wr : World) : Prop :=
  ∃ k : Nat, k ≤ n ∧ i = .int .i64 (k : Int) ∧ c = .int .u32 ((addP xs ys k).2 : Int) ∧ Own wr B 34 .u32 ((addP xs ys k).1 ++ List.replicate (n + 1 - k) 0) ∧ Below B w wr

set_option maxHeartbeats 1000000 in
theorem nat_add_ge (A1 : Option Addr) (n c1 : Nat) (xs : List Nat) (A2 : Option Addr) (m c2 : Nat) (ys : List Nat) (w : World)
    (h1 : Nums .u32 w A1 n c1 xs) (h2 : Nums .u32 w A2 m c2 ys) (lx : Lim xs) (ly : Lim ys) (r1 : rightB xs = true) (r2 : rightB ys = true) (hmn : m ≤ n) :
    Calls Try.prog 25 #[.slice A1 n c1, .slice A2 m c2] w (RetNat w (addN xs ys)) := by
  have l1 := h1.len
  have l2 := h2.len
  have hn32 : n ≤ 32 := by simp [rightB] at r1; omega
  have hlt : ¬ (n < m) := by omega
  have hmk := run_make_nums (P := Try.prog) 23 34 .u32 4 Try.underlying23 Try.info34 (n + 1) (by omega) (by omega)
  have hmk' : ∀ w : World, (Instr.makeSlice 23 (.int .i64 ((n : Int) + 1)) (.int .i64 ((n : Int) + 1))).run Try.prog w = .ok (.slice (some ⟨w.heap.size, 0, none⟩) (n + 1) (n + 1)) (w.alloc (.cells (nums .u32 (List.replicate (n + 1) 0)).toArray 34)) := hmk
  clear hmk
  have Hl1 := Lib.hid l1
  have Hl2 := Lib.hid l2
  clear l1 l2
  go_enter Try.func25, Try.ntmps25
  go_wp2_with (first
    | (go_at_call 30; (with_reducible refine (nat_right _ _ _ _ _ h1).mono ?_); rintro e w' ⟨rfl, rfl⟩)
    | (go_at_call 30; (with_reducible refine (nat_right _ _ _ _ _ h2).mono ?_); rintro e w' ⟨rfl, rfl⟩))
  go_loopw [7, 31] (AddRel w xs ys n w.heap.size) (fun _ i _ => n - (intOf i).toNat)
  case atStart => exact ⟨0, Nat.zero_le _, rfl, rfl, Own.new _ _ _ _, (Below.refl _ _).alloc (Nat.le_refl _) _⟩
  case round =>
    obtain ⟨k, hk, rfl, rfl, hown, hbel⟩ := hrel
    have hcar := addP_carry xs ys lx ly k
    have hpl := addP_len xs ys k
    have Hpl := Lib.hid hpl
    clear hpl
    by_cases hlt : k < n
    · obtain ⟨b1, o1, x, rfl, hb1, Hx, hc1⟩ := (h1.below hbel).get (j := k) hlt
      have hxl := lx.of_get Hx.out
      have hfro := hown.frozen k
      obtain ⟨z, Hz, hcz⟩ := hown.cell (i := k) (by simp [Hpl.out]; omega)
      by_cases hkm : k < m
      · obtain ⟨b2, o2, y, rfl, hb2, Hy, hc2⟩ := (h2.below hbel).get (j := k) hkm
        have hyl := ly.of_get Hy.out
        go_wp2_with (go_at_call 52; (with_reducible refine (bits_add32 x y _ _ hxl hyl hcar).mono ?_); rintro e w' ⟨rfl, rfl⟩)
        go_roundw
        case rel =>
          refine ⟨k + 1, by omega, by go_num, ?_, ?_, hbel.setCell (by simp) _⟩
          · simp only [addP, getD_of_get Hx.out, getD_of_get Hy.out]; go_num
          · have := hown.set_ k ((x + y + (addP xs ys k).2) % 4294967296)
            rw [buf_step _ k (n + 1) _ Hpl.out (by omega)] at this
            simpa [addP, Hx.out, Hy.out] using this
        case measure => simp [intOf]; omega
      · have Hy0 := Lib.hid (getD_of_ge (xs := ys) (j := k) (by have := Hl2.out; omega))
        go_wp2_with (go_at_call 52; (with_reducible refine (bits_add32_zero x _ _ hxl hcar).mono ?_); rintro e w' ⟨rfl, rfl⟩)
        go_roundw
        case rel =>
          refine ⟨k + 1, by omega, by go_num, ?_, ?_, hbel.setCell (by simp) _⟩
          · simp only [addP, getD_of_get Hx.out, Hy0.out]; go_num
          · have := hown.set_ k ((x + 0 + (addP xs ys k).2) % 4294967296)
            rw [buf_step _ k (n + 1) _ Hpl.out (by omega)] at this
            have hy := Hy0.out
            rw [List.getD_eq_getElem?_getD] at hy
            simpa [addP, Hx.out, hy] using this
        case measure => simp [intOf]; omega
    · obtain rfl : k = n := by omega
      have hfro := hown.frozen k
      obtain ⟨z, Hz, hcz⟩ := hown.cell (i := k) (by simp [Hpl.out])
      have hown2 := hown.set_ k (addP xs ys k).2
      rw [buf_step _ k (k + 1) _ Hpl.out (by omega), Nat.sub_self, List.replicate_zero, List.append_nil] at hown2
      have hnums := hown2.nums (n := k + 1) (c := k + 1) (by simp [Hpl.out]) (Nat.le_refl _) (by omega)
      have hval := addP_all xs ys k (by have := Hl1.out; omega) (by have := Hl2.out; omega)
      have Hval := Lib.hid hval
      have hfin : addN xs ys = fitN (val xs + val ys) := by simp [addN, r1, r2]
      have Hfin := Lib.hid hfin
      clear hval hfin hown2
      go_wp2_with (go_at_call 53; (with_reducible refine (nat_fit _ _ _ _ _ hnums ((addP_lim xs ys k).append (Lim.mk (by omega) Lim.nil))).mono ?_); rintro e w' ⟨A, c, rfl, hN, hB⟩)
      go_ret2
      rw [Hfin.out, ← Hval.out]
      exact ⟨A, c, rfl, hN, below_tail (hbel.setCell (by simp) _) hB⟩

set_option maxHeartbeats 1000000 in
theorem nat_add_lt (A1 : Option Addr) (n c1 : Nat) (xs : List Nat) (A2 : Option Addr) (m c2 : Nat) (ys : List Nat) (w : World)
    (h1 : Nums .u32 w A1 n c1 xs) (h2 : Nums .u32 w A2 m c2 ys) (lx : Lim xs) (ly : Lim ys) (r1 : rightB xs = true) (r2 : rightB ys = true) (hmn : m < n) :
    Calls Try.prog 25 #[.slice A2 m c2, .slice A1 n c1] w (RetNat w (addN ys xs)) := by
  have l1 := h1.len
  have l2 := h2.len
  have hn32 : n ≤ 32 := by simp [rightB] at r1; omega
  have hlt : m < n := hmn
  have hmk := run_make_nums (P := Try.prog) 23 34 .u32 4 Try.underlying23 Try.info34 (n + 1) (by omega) (by omega)
  have hmk' : ∀ w : World, (Instr.makeSlice 23 (.int .i64 ((n : Int) + 1)) (.int .i64 ((n : Int) + 1))).run Try.prog w = .ok (.slice (some ⟨w.heap.size, 0, none⟩) (n + 1) (n + 1)) (w.alloc (.cells (nums .u32 (List.replicate (n + 1) 0)).toArray 34)) := hmk
  clear hmk
  have Hl1 := Lib.hid l1
  have Hl2 := Lib.hid l2
  clear l1 l2
  go_enter Try.func25, Try.ntmps25
  go_wp2_with (first
    | (go_at_call 30; (with_reducible refine (nat_right _ _ _ _ _ h2).mono ?_); rintro e w' ⟨rfl, rfl⟩)
    | (go_at_call 30; (with_reducible refine (nat_right _ _ _ _ _ h1).mono ?_); rintro e w' ⟨rfl, rfl⟩))
  go_loopw [7, 31] (AddRel w xs ys n w.heap.size) (fun _ i _ => n - (intOf i).toNat)
  case atStart => exact ⟨0, Nat.zero_le _, rfl, rfl, Own.new _ _ _ _, (Below.refl _ _).alloc (Nat.le_refl _) _⟩
  case round =>
    obtain ⟨k, hk, rfl, rfl, hown, hbel⟩ := hrel
    have hcar := addP_carry xs ys lx ly k
    have hpl := addP_len xs ys k
    have Hpl := Lib.hid hpl
    clear hpl
    by_cases hlt : k < n
    · obtain ⟨b1, o1, x, rfl, hb1, Hx, hc1⟩ := (h1.below hbel).get (j := k) hlt
      have hxl := lx.of_get Hx.out
      have hfro := hown.frozen k
      obtain ⟨z, Hz, hcz⟩ := hown.cell (i := k) (by simp [Hpl.out]; omega)
      by_cases hkm : k < m
      · obtain ⟨b2, o2, y, rfl, hb2, Hy, hc2⟩ := (h2.below hbel).get (j := k) hkm
        have hyl := ly.of_get Hy.out
        go_wp2_with (go_at_call 52; (with_reducible refine (bits_add32 x y _ _ hxl hyl hcar).mono ?_); rintro e w' ⟨rfl, rfl⟩)
        go_roundw
        case rel =>
          refine ⟨k + 1, by omega, by go_num, ?_, ?_, hbel.setCell (by simp) _⟩
          · simp only [addP, getD_of_get Hx.out, getD_of_get Hy.out]; go_num
          · have := hown.set_ k ((x + y + (addP xs ys k).2) % 4294967296)
            rw [buf_step _ k (n + 1) _ Hpl.out (by omega)] at this
            simpa [addP, Hx.out, Hy.out] using this
        case measure => simp [intOf]; omega
      · have Hy0 := Lib.hid (getD_of_ge (xs := ys) (j := k) (by have := Hl2.out; omega))
        go_wp2_with (go_at_call 52; (with_reducible refine (bits_add32_zero x _ _ hxl hcar).mono ?_); rintro e w' ⟨rfl, rfl⟩)
        go_roundw
        case rel =>
          refine ⟨k + 1, by omega, by go_num, ?_, ?_, hbel.setCell (by simp) _⟩
          · simp only [addP, getD_of_get Hx.out, Hy0.out]; go_num
          · have := hown.set_ k ((x + 0 + (addP xs ys k).2) % 4294967296)
            rw [buf_step _ k (n + 1) _ Hpl.out (by omega)] at this
            have hy := Hy0.out
            rw [List.getD_eq_getElem?_getD] at hy
            simpa [addP, Hx.out, hy] using this
        case measure => simp [intOf]; omega
    · obtain rfl : k = n := by omega
      have hfro := hown.frozen k
      obtain ⟨z, Hz, hcz⟩ := hown.cell (i := k) (by simp [Hpl.out])
      have hown2 := hown.set_ k (addP xs ys k).2
      rw [buf_step _ k (k + 1) _ Hpl.out (by omega), Nat.sub_self, List.replicate_zero, List.append_nil] at hown2
      have hnums := hown2.nums (n := k + 1) (c := k + 1) (by simp [Hpl.out]) (Nat.le_refl _) (by omega)
      have hval := addP_all xs ys k (by have := Hl1.out; omega) (by have := Hl2.out; omega)
      have Hval := Lib.hid hval
      have hfin : addN ys xs = fitN (val xs + val ys) := by simp [addN, r1, r2, Nat.add_comm]
      have Hfin := Lib.hid hfin
      clear hval hfin hown2
      go_wp2_with (go_at_call 53; (with_reducible refine (nat_fit _ _ _ _ _ hnums ((addP_lim xs ys k).append (Lim.mk (by omega) Lim.nil))).mono ?_); rintro e w' ⟨A, c, rfl, hN, hB⟩)
      go_ret2
      rw [Hfin.out, ← Hval.out]
      exact ⟨A, c, rfl, hN, below_tail (hbel.setCell (by simp) _) hB⟩

set_option maxHeartbeats 400000 in
theorem nat_add (A1 : Option Addr) (n c1 : Nat) (xs : List Nat) (A2 : Option Addr) (m c2 : Nat) (ys : List Nat) (w : World)
    (h1 : Nums .u32 w A1 n c1 xs) (h2 : Nums .u32 w A2 m c2 ys) (lx : Lim xs) (ly : Lim ys) :
    Calls Try.prog 25 #[.slice A1 n c1, .slice A2 m c2] w (RetNat w (addN xs ys)) := by
  by_cases r1 : rightB xs = true
  · by_cases r2 : rightB ys = true
    · by_cases hmn : m ≤ n
      · exact nat_add_ge A1 n c1 xs A2 m c2 ys w h1 h2 lx ly r1 r2 hmn
      · exact nat_add_lt A2 m c2 ys A1 n c1 xs w h2 h1 ly lx r2 r1 (by omega)
    · have r2' : rightB ys = false := by simpa using r2
      have hfin : addN xs ys = ([], 1) := by simp [addN, r2']
      rw [hfin]
      clear hfin r2
      go_enter Try.func25, Try.ntmps25
      go_wp2_with (first
        | (go_at_call 30; (with_reducible refine (nat_right _ _ _ _ _ h1).mono ?_); rintro e w' ⟨rfl, rfl⟩)
        | (go_at_call 30; (with_reducible refine (nat_right _ _ _ _ _ h2).mono ?_); rintro e w' ⟨rfl, rfl⟩))
      go_ret2
      exact ⟨none, 0, rfl, Nums.nil _ _ _ _ (by simp), Below.refl _ _⟩
  · have r1' : rightB xs = false := by simpa using r1
    have hfin : addN xs ys = ([], 1) := by simp [addN, r1']
    rw [hfin]
    clear hfin r1
    go_enter Try.func25, Try.ntmps25
    go_wp2_with (first
      | (go_at_call 30; (with_reducible refine (nat_right _ _ _ _ _ h1).mono ?_); rintro e w' ⟨rfl, rfl⟩)
      | (go_at_call 30; (with_reducible refine (nat_right _ _ _ _ _ h2).mono ?_); rintro e w' ⟨rfl, rfl⟩))
    go_ret2
    exact ⟨none, 0, rfl, Nums.nil _ _ _ _ (by simp), Below.refl _ _⟩

end Go.Proofs.Ytapnnnciaagbdaa
