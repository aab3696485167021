/- Walks: nat's Sub and take. -/
import Derived.Test.YtapnnnciaagbdaaNatW4
namespace Go.Proofs.Ytapnnnciaagbdaa
open Go.RowKit
set_option linter.unusedVariables false
set_option linter.unusedSimpArgs false

theorem buf_step2 (zs xs : List Nat) (k s : Nat) (hk : zs.length = k) (hn : k < xs.length) : (zs ++ xs.drop k).set k s = (zs ++ [s]) ++ xs.drop (k + 1) := by
  subst hk
  rw [List.set_append_right _ _ (Nat.le_refl _), Nat.sub_self, List.drop_eq_getElem_cons hn, List.set_cons_zero]
  simp
theorem buf_get2 (zs xs : List Nat) (k x : Nat) (hk : zs.length = k) (hx : xs[k]? = some x) : (zs ++ xs.drop k)[k]? = some x := by
  subst hk
  rw [List.getElem?_append_right (Nat.le_refl _), Nat.sub_self, List.getElem?_drop, Nat.add_zero, hx]

theorem bits_sub32_zero (x c : Nat) (w : World) (hx : x < 4294967296) (hc : c ≤ 1) :
    Calls Try.prog 56 #[.int .u32 (x : Int), .int .u32 0, .int .u32 (c : Int)] w fun e w' =>
      e = .returned (.tuple #[.int .u32 (((4294967296 + x - 0 - c) % 4294967296 : Nat) : Int), .int .u32 ((1 - (4294967296 + x - 0 - c) / 4294967296 : Nat) : Int)]) ∧ w = w' :=
  bits_sub32 x 0 c w hx (by omega) hc

/-- the loop of 'Sub' -/
def SubRel (w : World) (A : Option Addr) (n c : Nat) (xs ys : List Nat) (b i : Value) (wr : World) : Prop :=
  ∃ k : Nat, k ≤ n ∧ i = .int .i64 (k : Int) ∧ b = .int .u32 ((subP xs ys k).2 : Int) ∧
    wr.ownsRow w.heap.size 34 1 (.slice A n c) n (nums .u32 ((subP xs ys k).1 ++ xs.drop k)) ∧ Below w.heap.size w wr

set_option maxHeartbeats 1000000 in
theorem nat_sub_ok (A1 : Option Addr) (n c1 : Nat) (xs : List Nat) (A2 : Option Addr) (m c2 : Nat) (ys : List Nat) (w : World)
    (h1 : Nums .u32 w A1 n c1 xs) (h2 : Nums .u32 w A2 m c2 ys) (lx : Lim xs) (ly : Lim ys) (r1 : rightB xs = true) (r2 : rightB ys = true) (hge : val ys ≤ val xs) (hmn : m ≤ n) :
    Calls Try.prog 27 #[.slice A1 n c1, .slice A2 m c2] w (RetNat w (subN xs ys)) := by
  obtain rfl := h1.len
  obtain rfl := h2.len
  have hn32 : xs.length ≤ 32 := by simp [rightB] at r1; omega
  have hc0 : decide (cmpN xs ys < 0) = false := by
    simp only [cmpN, r1, r2, Bool.and_self, if_true, cmpI]
    rw [if_neg (by omega)]
    split <;> simp
  have hfin : subN xs ys = (limbs (val xs - val ys), 0) := by simp [subN, r1, r2]; omega
  rw [hfin]
  clear hfin
  go_enter Try.func27, Try.ntmps27
  go_wp2_with (first
    | (go_at_call 30; (with_reducible refine (nat_right _ _ _ _ _ h1).mono ?_); rintro e w' ⟨rfl, rfl⟩)
    | (go_at_call 30; (with_reducible refine (nat_right _ _ _ _ _ h2).mono ?_); rintro e w' ⟨rfl, rfl⟩)
    | (go_at_call 29; (with_reducible refine (nat_cmp _ _ _ _ _ _ _ _ _ h1 h2 lx ly).mono ?_); rintro e w1 ⟨rfl, hs1⟩)
    | (go_at_call 55; (with_reducible refine (clone_nat _ _ _ _ _ (h1.same hs1) (by omega)).mono ?_); rintro e w2 ⟨A, c, rfl, hown, hb2⟩))
  have hown' := own_mono hown (base' := w.heap.size) (by rw [hs1.size]; exact Nat.le_refl _)
  have hb2' : Below w.heap.size w w2 := (hs1.below _).trans (hb2.mono (by rw [hs1.size]; exact Nat.le_refl _))
  clear hown hb2 hs1
  go_loopw [7, 28] (SubRel w A xs.length c xs ys) (fun _ i _ => xs.length - (intOf i).toNat)
  case atStart => exact ⟨0, Nat.zero_le _, rfl, rfl, hown', hb2'⟩
  case round =>
    clear hown' hb2'
    obtain ⟨k, hk, rfl, rfl, hown, hbel⟩ := hrel
    have hbor := subP_borrow xs ys k
    have Hpl := Lib.hid (subP_len xs ys k)
    by_cases hlt : k < xs.length
    · obtain ⟨g, u, rfl, hg, hgl, Hu, hc1, hfro⟩ := own_at hown hlt
      obtain ⟨x, Hx⟩ : ∃ x, Hid (xs[k]? = some x) := ⟨_, Lib.hid (List.getElem?_eq_getElem hlt)⟩
      have hu : u = .int .u32 (x : Int) := by
        obtain ⟨x', hx', rfl⟩ := nums_get _ _ _ _ Hu.out
        rw [buf_get2 _ _ _ _ Hpl.out Hx.out] at hx'
        injection hx' with hx'
        rw [hx']
      subst hu
      have hxl := lx.of_get Hx.out
      by_cases hkm : k < ys.length
      · obtain ⟨b2, o2, y, rfl, hb2, Hy, hc2⟩ := (h2.below hbel).get (j := k) hkm
        have hyl := ly.of_get Hy.out
        go_wp2_with (go_at_call 56; (with_reducible refine (bits_sub32 x y _ _ hxl hyl hbor).mono ?_); rintro e w' ⟨rfl, rfl⟩)
        go_roundw
        case rel =>
          refine ⟨k + 1, by omega, by go_num, ?_, ?_, hbel.setCell hg _⟩
          · simp only [subP, getD_of_get Hx.out, getD_of_get Hy.out]
          · have := own_set hown k (.int .u32 (((4294967296 + x - y - (subP xs ys k).2) % 4294967296 : Nat) : Int))
            rw [← nums_set, buf_step2 _ xs k _ Hpl.out hlt] at this
            simpa [subP, Hx.out, Hy.out] using this
        case measure => simp [intOf]; omega
      · have Hy0 := Lib.hid (getD_of_ge (xs := ys) (j := k) (by omega))
        go_wp2_with (go_at_call 56; (with_reducible refine (bits_sub32_zero x _ _ hxl hbor).mono ?_); rintro e w' ⟨rfl, rfl⟩)
        go_roundw
        case rel =>
          refine ⟨k + 1, by omega, by go_num, ?_, ?_, hbel.setCell hg _⟩
          · simp only [subP, getD_of_get Hx.out, Hy0.out, Nat.sub_zero]
          · have := own_set hown k (.int .u32 (((4294967296 + x - 0 - (subP xs ys k).2) % 4294967296 : Nat) : Int))
            rw [← nums_set, buf_step2 _ xs k _ Hpl.out hlt] at this
            have hy := Hy0.out
            rw [List.getD_eq_getElem?_getD] at hy
            simpa [subP, Hx.out, hy] using this
        case measure => simp [intOf]; omega
    · obtain rfl : k = xs.length := by omega
      rw [List.drop_length, List.append_nil] at hown
      have hnums : Nums .u32 wr A xs.length c (subP xs ys xs.length).1 := own_sl hown
      have hval := subP_eq xs ys lx ly xs.length (Nat.le_refl _) hmn hge
      have hlim := subP_lim xs ys xs.length
      have Hfin := Lib.hid (neatL_limbs _ hlim)
      rw [hval] at Hfin
      have Hlen := Lib.hid (subP_len xs ys xs.length)
      clear hval
      go_wp2_with (go_at_call 57; (with_reducible refine (nat_neat _ _ _ _ _ hnums).mono ?_); rintro e w' ⟨rfl, hN, rfl⟩)
      go_ret2
      rw [Hfin.out] at hN ⊢
      exact ⟨_, _, rfl, hN, hbel⟩

set_option maxHeartbeats 1000000 in
theorem nat_sub (A1 : Option Addr) (n c1 : Nat) (xs : List Nat) (A2 : Option Addr) (m c2 : Nat) (ys : List Nat) (w : World)
    (h1 : Nums .u32 w A1 n c1 xs) (h2 : Nums .u32 w A2 m c2 ys) (lx : Lim xs) (ly : Lim ys) :
    Calls Try.prog 27 #[.slice A1 n c1, .slice A2 m c2] w (RetNat w (subN xs ys)) := by
  by_cases r1 : rightB xs = true
  case neg =>
    have r1' : rightB xs = false := by simpa using r1
    have hfin : subN xs ys = ([], 1) := by simp [subN, r1']
    rw [hfin]
    clear hfin r1
    go_enter Try.func27, Try.ntmps27
    go_wp2_with (first
      | (go_at_call 30; (with_reducible refine (nat_right _ _ _ _ _ h1).mono ?_); rintro e w' ⟨rfl, rfl⟩)
      | (go_at_call 30; (with_reducible refine (nat_right _ _ _ _ _ h2).mono ?_); rintro e w' ⟨rfl, rfl⟩))
    go_ret2
    exact ⟨none, 0, rfl, Nums.nil _ _ _ _ (by simp), Below.refl _ _⟩
  by_cases r2 : rightB ys = true
  case neg =>
    have r2' : rightB ys = false := by simpa using r2
    have hfin : subN xs ys = ([], 1) := by simp [subN, r2']
    rw [hfin]
    clear hfin r2
    go_enter Try.func27, Try.ntmps27
    go_wp2_with (first
      | (go_at_call 30; (with_reducible refine (nat_right _ _ _ _ _ h1).mono ?_); rintro e w' ⟨rfl, rfl⟩)
      | (go_at_call 30; (with_reducible refine (nat_right _ _ _ _ _ h2).mono ?_); rintro e w' ⟨rfl, rfl⟩))
    go_ret2
    exact ⟨none, 0, rfl, Nums.nil _ _ _ _ (by simp), Below.refl _ _⟩
  by_cases hge : val ys ≤ val xs
  · refine nat_sub_ok A1 n c1 xs A2 m c2 ys w h1 h2 lx ly r1 r2 hge ?_
    rcases Nat.lt_or_ge n m with hlt | hle
    · have := val_lt_of_len xs ys lx ly (tight_of_right ys r2) (by rw [h1.len, h2.len]; exact hlt)
      omega
    · exact hle
  · have hc0 : decide (cmpN xs ys < 0) = true := by
      simp only [cmpN, r1, r2, Bool.and_self, if_true, cmpI]
      rw [if_pos (by omega)]
      simp
    have hfin : subN xs ys = ([], 11) := by simp [subN, r1, r2]; omega
    rw [hfin]
    clear hfin
    go_enter Try.func27, Try.ntmps27
    go_wp2_with (first
      | (go_at_call 30; (with_reducible refine (nat_right _ _ _ _ _ h1).mono ?_); rintro e w' ⟨rfl, rfl⟩)
      | (go_at_call 30; (with_reducible refine (nat_right _ _ _ _ _ h2).mono ?_); rintro e w' ⟨rfl, rfl⟩)
      | (go_at_call 29; (with_reducible refine (nat_cmp _ _ _ _ _ _ _ _ _ h1 h2 lx ly).mono ?_); rintro e w1 ⟨rfl, hs1⟩))
    go_ret2
    exact ⟨none, 0, rfl, Nums.nil _ _ _ _ (by simp), hs1.below _⟩
end Go.Proofs.Ytapnnnciaagbdaa
