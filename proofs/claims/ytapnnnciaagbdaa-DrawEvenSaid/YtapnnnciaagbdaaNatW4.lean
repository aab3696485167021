/- Walks: slices.Clone, nat's Cmp and Sub. -/
import Derived.Test.YtapnnnciaagbdaaNatW3
import Derived.Test.YtapnnnciaagbdaaKit2
import Derived.Deep.RegionHeld3
namespace Go.Proofs.Ytapnnnciaagbdaa
open Go.RowKit
set_option linter.unusedVariables false
set_option linter.unusedSimpArgs false

/-- a list of limbs comes back in memory of the call's own -/
def RetOwn (w : World) (zs : List Nat) (e : Ending) (w' : World) : Prop :=
  ∃ A c, e = .returned (.slice A zs.length c) ∧ w'.ownsRow w.heap.size 34 1 (.slice A zs.length c) zs.length (nums .u32 zs) ∧ Below w.heap.size w w'

theorem Nums.sl {k : IntKind} {w : World} {A : Option Addr} {n c : Nat} {xs : List Nat} (h : Nums k w A n c xs) : Sl w A n c (nums k xs) := h

set_option maxHeartbeats 400000 in
theorem clone_nat (A : Option Addr) (n c : Nat) (xs : List Nat) (w : World) (h : Nums .u32 w A n c xs) (hb : n ≤ 1000000) :
    Calls Try.prog 55 #[.slice A n c] w (RetOwn w xs) := by
  have hl := h.len
  subst hl
  have heq : ∀ (A : Option Addr) (n c : Nat) (w : World), (binOp .eql 23 (.slice A n c) (.slice none 0 0)).run Try.prog w = .ok (.bool A.isNone) w := fun A n c w => Lib.run_eql_slice_nil w _ _ _ _ _ _ _ Try.underlying23
  rcases A with _ | ad
  · have h0 : xs.length = 0 := by
      rcases Nat.eq_zero_or_pos xs.length with h0 | h0
      · exact h0
      · obtain ⟨b, off, he, _⟩ := h.at_ h0
        cases he
    obtain rfl := List.eq_nil_of_length_eq_zero h0
    go_enter Try.func55, Try.ntmps55
    go_wp2
    go_ret
    exact ⟨none, 0, rfl, World.ownsRow_nil _ _ _ _, Below.refl _ _⟩
  · have hown := own_made w 34 0 [] rfl (by omega)
    have hs := h.sl.below ((Below.refl _ _).alloc (Nat.le_refl _) (.cells #[] 34))
    go_enter Try.func55, Try.ntmps55
    go_wp2_with (at_builtin; refine wpl_append rfl _ _ 23 rfl w.heap.size 34 (.int .u32 0) 4 Try.underlying23 Try.info34 rfl _ 0 0 [] rfl hown _ xs.length c (nums .u32 xs) rfl hs (nums_one _ _) (by omega) (by omega) (by simp) ?_; intro A' c' w' ho hg)
    go_ret
    simp only [Nat.zero_add, List.nil_append] at ho
    exact ⟨_, _, rfl, ho, below_append ((Below.refl _ _).alloc (Nat.le_refl _) _) hg hown (by simp)⟩

/-- the numbers of the last limbs decide -/
theorem cmpI_step (xs ys : List Nat) (hx : Lim xs) (hy : Lim ys) (k : Nat) :
    cmpI (val (xs.take (k + 1))) (val (ys.take (k + 1))) =
      if xs.getD k 0 < ys.getD k 0 then -1 else if ys.getD k 0 < xs.getD k 0 then 1 else cmpI (val (xs.take k)) (val (ys.take k)) := by
  have h1 := val_lt _ (hx.take k)
  have h2 := val_lt _ (hy.take k)
  have h3 : (4294967296 : Nat) ^ (xs.take k).length ≤ 4294967296 ^ k := Nat.pow_le_pow_right (by decide) (List.length_take_le _ _)
  have h4 : (4294967296 : Nat) ^ (ys.take k).length ≤ 4294967296 ^ k := Nat.pow_le_pow_right (by decide) (List.length_take_le _ _)
  rw [val_take_succ, val_take_succ]
  have h1' := Nat.lt_of_lt_of_le h1 h3
  have h2' := Nat.lt_of_lt_of_le h2 h4
  clear h1 h2 h3 h4
  generalize val (xs.take k) = a at *
  generalize val (ys.take k) = b at *
  generalize (4294967296 : Nat) ^ k = B at *
  generalize xs.getD k 0 = x at *
  generalize ys.getD k 0 = y at *
  by_cases hlt : x < y
  · rw [if_pos hlt]
    have : B * (x + 1) ≤ B * y := Nat.mul_le_mul_left _ (by omega)
    rw [Nat.mul_add] at this
    unfold cmpI
    rw [if_pos (by omega)]
  · rw [if_neg hlt]
    by_cases hgt : y < x
    · rw [if_pos hgt]
      have : B * (y + 1) ≤ B * x := Nat.mul_le_mul_left _ (by omega)
      rw [Nat.mul_add] at this
      unfold cmpI
      rw [if_neg (by omega), if_pos (by omega)]
    · rw [if_neg hgt]
      obtain rfl : x = y := by omega
      unfold cmpI
      by_cases hab : a < b
      · rw [if_pos hab, if_pos (by omega)]
      · rw [if_neg hab, if_neg (by omega)]
        by_cases hba : b < a
        · rw [if_pos hba, if_pos (by omega)]
        · rw [if_neg hba, if_neg (by omega)]

theorem val_lt_of_len (xs ys : List Nat) (lx : Lim xs) (ly : Lim ys) (ty : Tight ys) (h : xs.length < ys.length) : val xs < val ys := by
  have h1 := val_lt xs lx
  rcases List.eq_nil_or_concat ys with rfl | ⟨zs, z, rfl⟩
  · simp at h
  · rw [List.concat_eq_append] at *
    have h0 := ty zs z rfl
    simp at h
    have h2 : (4294967296 : Nat) ^ xs.length ≤ 4294967296 ^ zs.length := Nat.pow_le_pow_right (by decide) (by omega)
    have h3 : 4294967296 ^ zs.length * 1 ≤ 4294967296 ^ zs.length * z := Nat.mul_le_mul_left _ (by omega)
    rw [val_snoc]
    omega

set_option maxHeartbeats 1000000 in
theorem nat_cmp (A1 : Option Addr) (n c1 : Nat) (xs : List Nat) (A2 : Option Addr) (m c2 : Nat) (ys : List Nat) (w : World)
    (h1 : Nums .u32 w A1 n c1 xs) (h2 : Nums .u32 w A2 m c2 ys) (lx : Lim xs) (ly : Lim ys) :
    Calls Try.prog 29 #[.slice A1 n c1, .slice A2 m c2] w (Quiet w (.int .i64 (cmpN xs ys))) := by
  have l1 := h1.len
  have l2 := h2.len
  by_cases r1 : rightB xs = true
  case neg =>
    have r1' : rightB xs = false := by simpa using r1
    have hfin : cmpN xs ys = 0 := by simp [cmpN, r1']
    rw [hfin]
    clear hfin r1 l1 l2
    go_enter Try.func29, Try.ntmps29
    go_wp2_with (first
      | (go_at_call 30; (with_reducible refine (nat_right _ _ _ _ _ h1).mono ?_); rintro e w' ⟨rfl, rfl⟩)
      | (go_at_call 30; (with_reducible refine (nat_right _ _ _ _ _ h2).mono ?_); rintro e w' ⟨rfl, rfl⟩))
    go_ret
    exact ⟨rfl, Same.refl _⟩
  by_cases r2 : rightB ys = true
  case neg =>
    have r2' : rightB ys = false := by simpa using r2
    have hfin : cmpN xs ys = 0 := by simp [cmpN, r2']
    rw [hfin]
    clear hfin r2 l1 l2
    go_enter Try.func29, Try.ntmps29
    go_wp2_with (first
      | (go_at_call 30; (with_reducible refine (nat_right _ _ _ _ _ h1).mono ?_); rintro e w' ⟨rfl, rfl⟩)
      | (go_at_call 30; (with_reducible refine (nat_right _ _ _ _ _ h2).mono ?_); rintro e w' ⟨rfl, rfl⟩))
    go_ret
    exact ⟨rfl, Same.refl _⟩
  have hn32 : n ≤ 32 := by simp [rightB] at r1; omega
  have hm32 : m ≤ 32 := by simp [rightB] at r2; omega
  have hcn : cmpN xs ys = cmpI (val xs) (val ys) := by simp [cmpN, r1, r2]
  by_cases hlt : n < m
  · have hv := val_lt_of_len xs ys lx ly (tight_of_right ys r2) (by omega)
    have hfin : cmpN xs ys = -1 := by rw [hcn]; simp [cmpI, hv]
    rw [hfin]
    have hlt' : (n : Int) < m := by omega
    clear hfin hcn hv l1 l2
    go_enter Try.func29, Try.ntmps29
    go_wp2_with (first
      | (go_at_call 30; (with_reducible refine (nat_right _ _ _ _ _ h1).mono ?_); rintro e w' ⟨rfl, rfl⟩)
      | (go_at_call 30; (with_reducible refine (nat_right _ _ _ _ _ h2).mono ?_); rintro e w' ⟨rfl, rfl⟩)
      | (go_at_call 58; (with_reducible refine (cmp_int _ _ _).mono ?_); rintro e w' ⟨rfl, rfl⟩))
    go_ret
    exact ⟨rfl, Same.refl _⟩
  by_cases hgt : m < n
  · have hv := val_lt_of_len ys xs ly lx (tight_of_right xs r1) (by omega)
    have hfin : cmpN xs ys = 1 := by rw [hcn]; simp [cmpI, hv]; omega
    rw [hfin]
    have hlt' : ¬ (n : Int) < m := by omega
    have hgt' : (m : Int) < n := by omega
    clear hfin hcn hv l1 l2
    go_enter Try.func29, Try.ntmps29
    go_wp2_with (first
      | (go_at_call 30; (with_reducible refine (nat_right _ _ _ _ _ h1).mono ?_); rintro e w' ⟨rfl, rfl⟩)
      | (go_at_call 30; (with_reducible refine (nat_right _ _ _ _ _ h2).mono ?_); rintro e w' ⟨rfl, rfl⟩)
      | (go_at_call 58; (with_reducible refine (cmp_int _ _ _).mono ?_); rintro e w' ⟨rfl, rfl⟩))
    go_ret
    exact ⟨rfl, Same.refl _⟩
  obtain rfl : n = m := by omega
  have Hl1 := Lib.hid l1
  have Hl2 := Lib.hid l2
  have Hcn := Lib.hid hcn
  clear l1 l2 hcn hlt hgt
  go_enter Try.func29, Try.ntmps29
  go_wp2_with (first
    | (go_at_call 30; (with_reducible refine (nat_right _ _ _ _ _ h1).mono ?_); rintro e w' ⟨rfl, rfl⟩)
    | (go_at_call 30; (with_reducible refine (nat_right _ _ _ _ _ h2).mono ?_); rintro e w' ⟨rfl, rfl⟩)
    | (go_at_call 58; (with_reducible refine (cmp_int _ _ _).mono ?_); rintro e w' ⟨rfl, rfl⟩))
  go_loopw [6] (fun i wr => ∃ k : Nat, k ≤ n ∧ i = .int .i64 ((k : Int) - 1) ∧ cmpN xs ys = cmpI (val (xs.take k)) (val (ys.take k)) ∧ Same w wr) (fun i _ => (intOf i + 1).toNat)
  case atStart => exact ⟨n, Nat.le_refl _, rfl, by rw [Hcn.out, List.take_of_length_le (by rw [Hl1.out]; omega), List.take_of_length_le (by rw [Hl2.out]; omega)], Same.refl _⟩
  case round =>
    obtain ⟨k, hk, rfl, hrel, hsame⟩ := hrel
    have Hrel := Lib.hid hrel
    clear hrel
    by_cases hlt : 0 < k
    · obtain ⟨b1, o1, x, rfl, hb1, Hx, hc1⟩ := (h1.same hsame).get (j := k - 1) (by omega)
      obtain ⟨b2, o2, y, rfl, hb2, Hy, hc2⟩ := (h2.same hsame).get (j := k - 1) (by omega)
      have hxl := lx.of_get Hx.out
      have hyl := ly.of_get Hy.out
      have hst := cmpI_step xs ys lx ly (k - 1)
      rw [show k - 1 + 1 = k from by omega, ← Hrel.out, getD_of_get Hx.out, getD_of_get Hy.out] at hst
      have Hst := Lib.hid hst
      clear hst
      have i0 : (0 : Int) ≤ (k : Int) - 1 := by omega
      have i1 : (k : Int) - 1 < (n : Int) := by omega
      have i2 : ((k : Int) - 1).toNat = k - 1 := by omega
      by_cases hxy : x < y
      · have hxy' : (x : Int) < (y : Int) := by omega
        go_wp2
        go_quiet ((go_at_call 59; exact quiet_left (cmp_u32 _ _ _)))
        go_wp2
        go_ret
        rw [Hst.out, if_pos hxy]
        exact ⟨rfl, hsame.drewN _⟩
      · by_cases hyx : y < x
        · have hxy' : ¬ (x : Int) < (y : Int) := by omega
          have hyx' : (y : Int) < (x : Int) := by omega
          go_wp2
          go_quiet ((go_at_call 59; exact quiet_left (cmp_u32 _ _ _)))
          go_wp2
          go_ret
          rw [Hst.out, if_neg hxy, if_pos hyx]
          exact ⟨rfl, hsame.drewN _⟩
        · have hxy' : ¬ (x : Int) < (y : Int) := by omega
          have hyx' : ¬ (y : Int) < (x : Int) := by omega
          go_wp2
          go_quiet ((go_at_call 59; exact quiet_left (cmp_u32 _ _ _)))
          go_wp2
          go_roundw
          case rel => exact ⟨k - 1, by omega, by go_num, by rw [Hst.out, if_neg hxy, if_neg hyx], hsame.drewN _⟩
          case measure => simp [intOf]; omega
    · obtain rfl : k = 0 := by omega
      have hfin : cmpN xs ys = 0 := by rw [Hrel.out]; simp [cmpI, val]
      have Hf := Lib.hid hfin
      clear hfin
      go_wp2
      go_ret
      rw [Hf.out]
      exact ⟨rfl, hsame⟩
end Go.Proofs.Ytapnnnciaagbdaa
