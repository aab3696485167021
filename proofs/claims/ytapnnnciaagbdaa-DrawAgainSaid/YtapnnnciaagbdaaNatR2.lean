/- Walks: the reference's Mul, Div and Bits. -/
import Derived.Test.YtapnnnciaagbdaaNatR1
import Derived.Test.YtapnnnciaagbdaaNatPlain2
namespace Go.Proofs.Ytapnnnciaagbdaa
open Go.RowKit
set_option linter.unusedVariables false
set_option linter.unusedSimpArgs false

/-- the loops of the reference's 'Mul' -/
def RMulRel (w : World) (xs ys : List Nat) (i : Value) (wr : World) : Prop :=
  ∃ (k : Nat) (bs : List Nat), k ≤ xs.length ∧ i = .int .i64 (k : Int) ∧ bs.length = 64 ∧ Lim bs ∧ val bs = val (xs.take k) * val ys ∧
    Own wr w.heap.size 34 .u32 bs ∧ Below w.heap.size w wr
def RMulRel2 (w : World) (x : Nat) (ys bs : List Nat) (i : Nat) (c q : Value) (wr : World) : Prop :=
  ∃ k : Nat, i + k ≤ 64 ∧ q = .int .i64 (k : Int) ∧ c = .int .u64 ((mulP x ys (bs.drop i) k).2 : Int) ∧ Own wr w.heap.size 34 .u32 (mulBuf x ys bs i k) ∧ Below w.heap.size w wr

theorem zeros_lim (n : Nat) : Lim (List.replicate n 0) := fun y hy => by
  have := List.eq_of_mem_replicate hy
  omega
theorem zeros_val (n : Nat) : val (List.replicate n 0) = 0 := by
  induction n with
  | zero => rfl
  | succ n ih => simp [List.replicate_succ, val, ih]
theorem i64w {n : Int} (h0 : 0 ≤ n) (h1 : n < 9223372036854775808) : IntKind.i64.wrap n = n := by rw [IntKind.wrap_i64]; omega
theorem u64w {n : Int} (h0 : 0 ≤ n) (h1 : n < 18446744073709551616) : IntKind.u64.wrap n = n := by rw [IntKind.wrap_u64]; omega

theorem val_take_le (xs : List Nat) (k : Nat) : val (xs.take k) ≤ val xs := by
  by_cases h : k ≤ xs.length
  · rw [val_split xs k h]; omega
  · rw [List.take_of_length_le (by omega)]; exact Nat.le_refl _

theorem mul_fits (xs ys : List Nat) (lx : Lim xs) (ly : Lim ys) (h1 : xs.length ≤ 32) (h2 : ys.length ≤ 32) (k : Nat) (hk : k < xs.length) :
    val (xs.take k) * val ys + 4294967296 ^ k * (xs.getD k 0 * val ys) < 4294967296 ^ 64 := by
  have e : val (xs.take k) * val ys + 4294967296 ^ k * (xs.getD k 0 * val ys) = val (xs.take (k + 1)) * val ys := by
    rw [val_take_succ, Nat.add_mul, Nat.mul_assoc]
  rw [e]
  have a1 := val_take_le xs (k + 1)
  have a2 := val_lt xs lx
  have a3 := val_lt ys ly
  have b1 : (4294967296 : Nat) ^ xs.length ≤ 4294967296 ^ 32 := Nat.pow_le_pow_right (by decide) h1
  have b2 : (4294967296 : Nat) ^ ys.length ≤ 4294967296 ^ 32 := Nat.pow_le_pow_right (by decide) h2
  have e2 : (4294967296 : Nat) ^ 64 = 4294967296 ^ 32 * 4294967296 ^ 32 := by rw [← Nat.pow_add]
  rw [e2]
  exact Nat.mul_lt_mul'' (by omega) (by omega)

set_option maxHeartbeats 1000000 in
theorem ref_mul (A1 : Option Addr) (n c1 : Nat) (xs : List Nat) (A2 : Option Addr) (m c2 : Nat) (ys : List Nat) (w : World)
    (h1 : Nums .u32 w A1 n c1 xs) (h2 : Nums .u32 w A2 m c2 ys) (lx : Lim xs) (ly : Lim ys) :
    Calls Try.prog 33 #[.slice A1 n c1, .slice A2 m c2] w (RetNat w (mulN xs ys)) := by
  by_cases r1 : rightB xs = true
  case neg =>
    have r1' : rightB xs = false := by simpa using r1
    have hfin : mulN xs ys = ([], 1) := by simp [mulN, r1']
    rw [hfin]
    clear hfin r1
    go_enter Try.func33, Try.ntmps33
    go_wp2_with (first
      | (go_at_call 31; (with_reducible refine (ref_right _ _ _ _ _ h1).mono ?_); rintro e w' ⟨rfl, rfl⟩)
      | (go_at_call 31; (with_reducible refine (ref_right _ _ _ _ _ h2).mono ?_); rintro e w' ⟨rfl, rfl⟩))
    go_ret2
    exact ⟨none, 0, rfl, Nums.nil _ _ _ _ (by simp), Below.refl _ _⟩
  by_cases r2 : rightB ys = true
  case neg =>
    have r2' : rightB ys = false := by simpa using r2
    have hfin : mulN xs ys = ([], 1) := by simp [mulN, r2']
    rw [hfin]
    clear hfin r2
    go_enter Try.func33, Try.ntmps33
    go_wp2_with (first
      | (go_at_call 31; (with_reducible refine (ref_right _ _ _ _ _ h1).mono ?_); rintro e w' ⟨rfl, rfl⟩)
      | (go_at_call 31; (with_reducible refine (ref_right _ _ _ _ _ h2).mono ?_); rintro e w' ⟨rfl, rfl⟩))
    go_ret2
    exact ⟨none, 0, rfl, Nums.nil _ _ _ _ (by simp), Below.refl _ _⟩
  have hn32 := right_len xs r1
  have hm32 := right_len ys r2
  obtain rfl := h1.len
  obtain rfl := h2.len
  have hmk := run_make_nums (P := Try.prog) 23 34 .u32 4 Try.underlying23 Try.info34 64 (by omega) (by omega)
  have hmk' : ∀ w : World, (Instr.makeSlice 23 (.int .i64 64) (.int .i64 64)).run Try.prog w = .ok (.slice (some ⟨w.heap.size, 0, none⟩) 64 64) (w.alloc (.cells (nums .u32 (List.replicate 64 0)).toArray 34)) := hmk
  clear hmk
  obtain ⟨z64, Hz64⟩ : ∃ zs, Hid (List.replicate 64 0 = zs) := ⟨_, Lib.hid rfl⟩
  rw [Hz64.out] at hmk'
  have hfin : mulN xs ys = fitN (val xs * val ys) := by simp [mulN, r1, r2]
  rw [hfin]
  clear hfin
  go_enter Try.func33, Try.ntmps33
  go_wp2_with (first
    | (go_at_call 31; (with_reducible refine (ref_right _ _ _ _ _ h1).mono ?_); rintro e w' ⟨rfl, rfl⟩)
    | (go_at_call 31; (with_reducible refine (ref_right _ _ _ _ _ h2).mono ?_); rintro e w' ⟨rfl, rfl⟩))
  go_loopw [7] (RMulRel w xs ys) (fun i _ => xs.length - (intOf i).toNat)
  case atStart =>
    refine ⟨0, z64, Nat.zero_le _, rfl, ?_, ?_, ?_, Own.new _ _ _ _, (Below.refl _ _).alloc (Nat.le_refl _) _⟩
    · rw [← Hz64.out]; rfl
    · rw [← Hz64.out]
      exact zeros_lim 64
    · rw [← Hz64.out, zeros_val]
      simp [val]
  case round =>
    obtain ⟨i, bs, hi, rfl, hbl, hblim, hbv, hown, hbel⟩ := hrel
    have Hbl := Lib.hid hbl
    have Hbv := Lib.hid hbv
    clear hbl hbv hmk'
    by_cases hlt : i < xs.length
    · obtain ⟨x, Hx⟩ : ∃ x, Hid (xs[i]? = some x) := ⟨_, Lib.hid (List.getElem?_eq_getElem hlt)⟩
      have hxl := lx.of_get Hx.out
      have hfits := mul_fits xs ys lx ly hn32 hm32 i hlt
      rw [getD_of_get Hx.out] at hfits
      have Hfits := Lib.hid hfits
      clear hfits
      go_wp2
      obtain ⟨wo, rfl⟩ : ∃ wo : World, wo = wr := ⟨_, rfl⟩
      go_loopw [8, 9] (RMulRel2 w x ys bs i) (fun _ q _ => (64 - intOf q).toNat)
      case atStart => exact ⟨0, by omega, rfl, rfl, by rw [mulBuf_zero]; exact hown, hbel⟩
      case round =>
        clear hown hbel
        obtain ⟨k, hk, rfl, rfl, hown, hbel⟩ := hrel
        have hcar := mulP_carry x ys (bs.drop i) hxl ly (hblim.drop _) k
        by_cases hlt2 : i + k < 64
        · obtain ⟨b1, o1, x', rfl, hb1, Hx', hc1⟩ := (h1.below hbel).get (j := i) hlt
          obtain rfl : x = x' := by have h1 := Hx.out; rw [Hx'.out] at h1; injection h1 with h1; exact h1.symm
          have hyl := ly.getD k
          obtain ⟨y, Hy⟩ : ∃ y, Hid (ys.getD k 0 = y) := ⟨_, Lib.hid rfl⟩
          have Hlb := Lib.hid (mulBuf_len x ys bs i k (by rw [Hbl.out]; omega))
          obtain ⟨z, Hz, hcz⟩ := hown.cell (i := i + k) (by rw [Hlb.out, Hbl.out]; omega)
          have hfro := hown.frozen (i + k)
          have Hz2 : Hid (bs[i + k]? = some z) := Lib.hid (by rw [← mulBuf_get x ys bs i k (by rw [Hbl.out]; omega)]; exact Hz.out)
          have hzl := hblim.of_get Hz2.out
          rw [Hy.out] at hyl
          have hb := mul_bound hxl hyl hzl hcar
          have hxy0 : (0 : Int) ≤ (x : Int) * (y : Int) := by rw [← Int.natCast_mul]; omega
          have hxy1 : (x : Int) * (y : Int) + (z : Int) + ((mulP x ys (bs.drop i) k).2 : Int) < 18446744073709551616 := by rw [← Int.natCast_mul]; omega
          have hxy2 : (z : Int) + (x : Int) * (y : Int) + ((mulP x ys (bs.drop i) k).2 : Int) < 18446744073709551616 := by omega
          have Hset := Lib.hid (mulBuf_succ x ys bs i k (by rw [Hbl.out]; omega))
          have hl2 : ∀ q, Calls Try.prog 50 #[.slice A2 ys.length c2, .int .i64 (k : Int)] (wr.drewN q) fun e w' => e = .returned (.int .u64 (y : Int)) ∧ wr.drewN q = w' := fun q => by
            have := ref_limb A2 ys.length c2 ys k (wr.drewN q) ((h2.below hbel).drewN q) ly
            rw [Hy.out] at this
            exact this
          have Hl2 := Lib.hid hl2
          clear hb hl2
          have j1 : (0 : Int) ≤ (i : Int) + (k : Int) := by omega
          have j2 : (i : Int) + (k : Int) < 64 := by omega
          have j3 : (0 : Int) ≤ (i : Int) := by omega
          have j4 : (i : Int) < (xs.length : Int) := by omega
          have e1 : IntKind.i64.wrap ((i : Int) + (k : Int)) = (i : Int) + (k : Int) := i64w (by omega) (by omega)
          have e2 : ((i : Int) + (k : Int)).toNat = i + k := by omega
          have e3 : IntKind.u64.wrap ((x : Int) * (y : Int)) = (x : Int) * (y : Int) := u64w (by omega) (by omega)
          have e4 : IntKind.u64.wrap ((z : Int) + (x : Int) * (y : Int)) = (z : Int) + (x : Int) * (y : Int) := u64w (by omega) (by omega)
          have e5 : IntKind.u64.wrap ((z : Int) + (x : Int) * (y : Int) + ((mulP x ys (bs.drop i) k).2 : Int)) = (z : Int) + (x : Int) * (y : Int) + ((mulP x ys (bs.drop i) k).2 : Int) := u64w (by omega) (by omega)
          go_wp2
          go_quiet ((go_at_call 50; exact quiet_left (Hl2.out _)))
          clear e1 e2 e3 e4 e5
          go_wp2
          go_roundw
          case rel =>
            refine ⟨k + 1, by omega, by go_num, ?_, ?_, (below_drewN hbel _).setCell (by simp) _⟩
            · have hz2 := Hz2.out
              simp only [mulP, Hy.out]
              rw [show (bs.drop i).getD k 0 = z from by simp [List.getElem?_drop, hz2]]
              go_num
            · have := (hown.drewN nq).set_ (i + k) ((x * y + z + (mulP x ys (bs.drop i) k).2) % 4294967296)
              have hs := Hset.out
              rw [Hy.out, getD_of_get Hz2.out] at hs
              rw [hs] at this
              rw [show ((z : Int) + (x : Int) * (y : Int) + ((mulP x ys (bs.drop i) k).2 : Int)) = (x : Int) * (y : Int) + (z : Int) + ((mulP x ys (bs.drop i) k).2 : Int) from by omega]
              simpa using this
          case measure => simp [intOf] <;> omega
        · obtain rfl : k = 64 - i := by omega
          have hrow := mul_row_full x ys bs i (by rw [Hbl.out]; omega) (by rw [Hbv.out, Hbl.out]; exact Hfits.out) (by rw [Hbl.out]; omega)
          rw [Hbl.out] at hrow
          have Hrow := Lib.hid hrow
          have hge : ¬ (i : Int) + ((64 - i : Nat) : Int) < 64 := by omega
          clear hrow
          go_wp2
          go_roundw
          case rel =>
            obtain ⟨e1, e2⟩ := Hrow.out
            refine ⟨i + 1, _, by omega, by go_num, e2, mulBuf_lim x ys bs i _ hblim, ?_, hown, hbel⟩
            rw [e1, Hbv.out, val_take_succ, getD_of_get Hx.out, Nat.add_mul, Nat.mul_assoc]
          case measure => simp [intOf] <;> omega
    · obtain rfl : i = xs.length := by omega
      have hval := Hbv.out
      rw [List.take_length] at hval
      have hnums := hown.nums (n := 64) (c := 64) Hbl.out (Nat.le_refl _) (by omega)
      have Hval := Lib.hid hval
      clear hval
      go_wp2_with (go_at_call 54; (with_reducible refine (ref_small _ _ _ _ _ hnums hblim).mono ?_); rintro e w' ⟨A, c, rfl, hN, hB⟩)
      go_ret2
      rw [← Hval.out]
      exact ⟨A, c, rfl, hN, below_tail hbel hB⟩

/-- the loop of the reference's 'Div' -/
def RDivRel (w : World) (xs : List Nat) (d : Nat) (r i : Value) (wr : World) : Prop :=
  ∃ j : Nat, j ≤ xs.length ∧ i = .int .i64 ((xs.length - j : Nat) - 1 : Int) ∧ r = .int .u64 ((divP xs d j).2 : Int) ∧
    Own wr w.heap.size 34 .u32 (List.replicate (xs.length - j) 0 ++ (divP xs d j).1) ∧ Below w.heap.size w wr

set_option maxHeartbeats 1000000 in
theorem ref_div (A1 : Option Addr) (n c1 : Nat) (xs : List Nat) (d : Nat) (w : World)
    (h1 : Nums .u32 w A1 n c1 xs) (lx : Lim xs) (hd : d < 4294967296) :
    Calls Try.prog 37 #[.slice A1 n c1, .int .u32 (d : Int)] w (RetDiv w (divN xs d)) := by
  obtain rfl := h1.len
  by_cases r1 : rightB xs = true
  case neg =>
    have r1' : rightB xs = false := by simpa using r1
    have hfin : divN xs d = ([], 0, 1) := by simp [divN, r1']
    rw [hfin]
    clear hfin r1
    go_enter Try.func37, Try.ntmps37
    go_wp2_with (go_at_call 31; (with_reducible refine (ref_right _ _ _ _ _ h1).mono ?_); rintro e w' ⟨rfl, rfl⟩)
    go_ret3
    exact ⟨none, 0, rfl, Nums.nil _ _ _ _ (by simp), Below.refl _ _, fun _ _ h => by cases h⟩
  by_cases hd0 : d = 0
  · subst hd0
    have hfin : divN xs 0 = ([], 0, 1) := by simp [divN]
    rw [hfin]
    clear hfin
    go_enter Try.func37, Try.ntmps37
    go_wp2_with (go_at_call 31; (with_reducible refine (ref_right _ _ _ _ _ h1).mono ?_); rintro e w' ⟨rfl, rfl⟩)
    go_ret3
    exact ⟨none, 0, rfl, Nums.nil _ _ _ _ (by simp), Below.refl _ _, fun _ _ h => by cases h⟩
  have hn32 := right_len xs r1
  have hdne : ((d : Int) == 0) = false := by simp [hd0]
  have hmk' := run_make_nums (P := Try.prog) 23 34 .u32 4 Try.underlying23 Try.info34 xs.length (by omega) (by omega)
  have hfin : divN xs d = (limbs (val xs / d), val xs % d, 0) := by simp [divN, r1, hd0]
  rw [hfin]
  clear hfin
  go_enter Try.func37, Try.ntmps37
  go_wp2_with (go_at_call 31; (with_reducible refine (ref_right _ _ _ _ _ h1).mono ?_); rintro e w' ⟨rfl, rfl⟩)
  go_loopw [8, 9] (RDivRel w xs d) (fun _ i _ => (intOf i + 1).toNat)
  case atStart => exact ⟨0, Nat.zero_le _, by simp, rfl, by simpa [divP] using Own.new w 34 .u32 (List.replicate xs.length 0), (Below.refl _ _).alloc (Nat.le_refl _) _⟩
  case round =>
    obtain ⟨j, hj, rfl, rfl, hown, hbel⟩ := hrel
    have hrest := divP_rest xs d (by omega) j
    have Hpl := Lib.hid (divP_len xs d j)
    by_cases hlt : j < xs.length
    · have hk : ((xs.length - j : Nat) : Int) - 1 = ((xs.length - j - 1 : Nat) : Int) := by omega
      rw [hk]
      obtain ⟨b1, o1, x, rfl, hb1, Hx, hc1⟩ := (h1.below hbel).get (j := xs.length - j - 1) (by omega)
      have hxl := lx.of_get Hx.out
      obtain ⟨z, Hz, hcz⟩ := hown.cell (i := xs.length - j - 1) (by simp [Hpl.out]; omega)
      have hfro := hown.frozen (xs.length - j - 1)
      generalize hkk : xs.length - j - 1 = k at *
      have Hkk := Lib.hid hkk
      have hkl : k < xs.length := by omega
      clear hk hkk
      have hql : ((divP xs d j).2 * 4294967296 + x) / d < 4294967296 := div_lt hrest hxl
      have hq0 : (0 : Int) ≤ (((divP xs d j).2 : Int) * 4294967296 + (x : Int)) / (d : Int) := Int.ediv_nonneg (by omega) (by omega)
      have hq1 : (((divP xs d j).2 : Int) * 4294967296 + (x : Int)) / (d : Int) < 4294967296 := by
        rw [show (((divP xs d j).2 : Int) * 4294967296 + (x : Int)) / (d : Int) = ((((divP xs d j).2 * 4294967296 + x) / d : Nat) : Int) from by rw [Int.natCast_ediv]; simp]
        omega
      have hr0 : (0 : Int) ≤ (((divP xs d j).2 : Int) * 4294967296 + (x : Int)) % (d : Int) := Int.emod_nonneg _ (by omega)
      clear hql
      go_wp2
      go_roundw
      case rel =>
        have hk1 := Hkk.out
        have hx := getD_of_get Hx.out
        refine ⟨j + 1, by omega, by go_num, ?_, ?_, hbel.setCell (by simp) _⟩
        · simp only [divP, show xs.length - 1 - j = k from by omega, hx]
          go_num
        · have := hown.set_ k (((divP xs d j).2 * 4294967296 + x) / d)
          rw [← hk1, div_buf _ _ _ _ hlt, hk1] at this
          simp only [divP, show xs.length - 1 - j = k from by omega, hx]
          simpa using this
      case measure => simp [intOf] <;> omega
    · obtain rfl : j = xs.length := by omega
      rw [Nat.sub_self] at *
      simp only [List.replicate_zero, List.nil_append] at hown
      have hnums := hown.nums (n := xs.length) (c := xs.length) Hpl.out (Nat.le_refl _) (by omega)
      obtain ⟨e1, e2⟩ := divP_all xs d (by omega)
      have Hfin := Lib.hid (neatL_limbs _ (divP_lim xs d (by omega) lx xs.length))
      rw [e1] at Hfin
      have He2 := Lib.hid e2
      clear e1 e2
      go_wp2_with (go_at_call 51; (with_reducible refine (ref_neat _ _ _ _ _ hnums).mono ?_); rintro e w' ⟨rfl, hN, rfl⟩)
      go_ret3
      rw [Hfin.out] at hN ⊢
      rw [← He2.out]
      exact ⟨_, _, rfl, hN, hbel, fun b off h => by injection h with h; injection h with h; omega⟩

theorem bitLen_half (t : Nat) (h : t ≠ 0) : bitLen t = bitLen (t / 2) + 1 := by
  by_cases h1 : t / 2 = 0
  · have ht : t = 1 := by omega
    subst ht
    rfl
  · have := Go.bitLen_shift t 1 (by simpa using h1)
    show Go.bitLen t = Go.bitLen (t / 2) + 1
    rw [this, Nat.add_comm]

set_option maxHeartbeats 1000000 in
theorem ref_bits (A1 : Option Addr) (n c1 : Nat) (xs : List Nat) (w : World) (h1 : Nums .u32 w A1 n c1 xs) (lx : Lim xs) :
    Calls Try.prog 35 #[.slice A1 n c1] w fun e w' => e = .returned (.int .i64 (bitsN xs : Int)) ∧ w = w' := by
  obtain rfl := h1.len
  by_cases r1 : rightB xs = true
  case neg =>
    have r1' : rightB xs = false := by simpa using r1
    have hfin : bitsN xs = 0 := by simp [bitsN, r1']
    rw [hfin]
    clear hfin r1
    go_enter Try.func35, Try.ntmps35
    go_wp2_with (go_at_call 31; (with_reducible refine (ref_right _ _ _ _ _ h1).mono ?_); rintro e w' ⟨rfl, rfl⟩)
    go_ret
    exact ⟨rfl, rfl⟩
  rcases List.eq_nil_or_concat xs with rfl | ⟨zs, z, rfl⟩
  · have hfin : bitsN [] = 0 := by decide
    rw [hfin]
    clear hfin
    simp only [List.length_nil] at h1 ⊢
    go_enter Try.func35, Try.ntmps35
    go_wp2_with (go_at_call 31; (with_reducible refine (ref_right _ _ _ _ _ h1).mono ?_); rintro e w' ⟨rfl, rfl⟩)
    go_ret
    exact ⟨rfl, rfl⟩
  · rw [List.concat_eq_append] at *
    have hz0 := tight_of_right _ r1 zs z rfl
    have hzl : z < 4294967296 := lx z (by simp)
    have hlz : Lim zs := fun y hy => lx y (by simp [hy])
    have hfin : bitsN (zs ++ [z]) = 32 * zs.length + bitLen z := by simp only [bitsN, r1, if_true]; exact bitLen_top zs z hlz hz0
    have Hfin := Lib.hid hfin
    clear hfin
    have hlen : (zs ++ [z]).length = zs.length + 1 := by simp
    obtain ⟨b1, o1, x, rfl, hb1, Hx, hc1⟩ := h1.get (j := zs.length) (by omega)
    have hxz : x = z := by have := Hx.out; simp at this; omega
    subst hxz
    have hn32 : zs.length + 1 ≤ 32 := by have := right_len _ r1; omega
    have hb8 : bitLen x ≤ 32 := by
      rw [← bitLen_lib64 x hzl]
      exact Lib.bitLenAux_le 64 x 32 hzl
    rw [hlen] at h1 ⊢
    clear hlen
    go_enter Try.func35, Try.ntmps35
    go_wp2_with (go_at_call 31; (with_reducible refine (ref_right _ _ _ _ _ h1).mono ?_); rintro e w' ⟨rfl, rfl⟩)
    go_loop [3, 4] (fun n t => ∃ (m y : Nat), n = .int .i64 (m : Int) ∧ t = .int .u32 (y : Int) ∧ y < 4294967296 ∧ m + bitLen y = 32 * zs.length + bitLen x) (fun _ t => (intOf t).toNat)
    case atStart => exact ⟨32 * zs.length, x, by go_num, rfl, hzl, rfl⟩
    case round =>
      obtain ⟨m, y, rfl, rfl, hyl, hsum⟩ := hrel
      have hm : m ≤ 1024 := by omega
      have Hsum := Lib.hid hsum
      clear hsum
      by_cases hy : 0 < y
      · have hh := bitLen_half y (by omega)
        have Hh := Lib.hid hh
        clear hh
        go_wp2
        go_round
        case rel => exact ⟨m + 1, y / 2, by go_num, by go_num, by omega, by have := Hsum.out; have := Hh.out; omega⟩
        case measure => simp [intOf] <;> omega
      · obtain rfl : y = 0 := by omega
        go_wp2
        go_ret
        rw [Hfin.out, ← Hsum.out]
        exact ⟨ret_num (by rw [show bitLen 0 = 0 from rfl]; rfl), rfl⟩
end Go.Proofs.Ytapnnnciaagbdaa
