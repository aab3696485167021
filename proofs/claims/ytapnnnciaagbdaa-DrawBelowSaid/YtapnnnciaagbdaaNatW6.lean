/- Walks: nat's Mul, Div and Bits. -/
import Derived.Test.YtapnnnciaagbdaaNatW5
import Derived.Test.YtapnnnciaagbdaaNatPlain2
namespace Go.Proofs.Ytapnnnciaagbdaa
open Go.RowKit
set_option linter.unusedVariables false
set_option linter.unusedSimpArgs false

/-- the outer loop of 'Mul' -/
def MulRel (w : World) (xs ys : List Nat) (i : Value) (wr : World) : Prop :=
  ∃ (k : Nat) (bs : List Nat), k ≤ xs.length ∧ i = .int .i64 (k : Int) ∧ bs.length = xs.length + ys.length ∧ Lim bs ∧ val bs = val (xs.take k) * val ys ∧
    (∀ j, k + ys.length ≤ j → bs.getD j 0 = 0) ∧ Own wr w.heap.size 34 .u32 bs ∧ Below w.heap.size w wr
/-- the inner one -/
def MulRel2 (w : World) (x : Nat) (ys bs : List Nat) (i : Nat) (c q : Value) (wr : World) : Prop :=
  ∃ k : Nat, k ≤ ys.length ∧ q = .int .i64 (k : Int) ∧ c = .int .u64 ((mulP x ys (bs.drop i) k).2 : Int) ∧ Own wr w.heap.size 34 .u32 (mulBuf x ys bs i k) ∧ Below w.heap.size w wr

set_option maxHeartbeats 2000000 in
theorem nat_mul_ok (A1 : Option Addr) (n c1 : Nat) (xs : List Nat) (A2 : Option Addr) (m c2 : Nat) (ys : List Nat) (w : World)
    (h1 : Nums .u32 w A1 n c1 xs) (h2 : Nums .u32 w A2 m c2 ys) (lx : Lim xs) (ly : Lim ys) (r1 : rightB xs = true) (r2 : rightB ys = true) :
    Calls Try.prog 32 #[.slice A1 n c1, .slice A2 m c2] w (RetNat w (mulN xs ys)) := by
  obtain rfl := h1.len
  obtain rfl := h2.len
  have hn32 : xs.length ≤ 32 := by simp [rightB] at r1; omega
  have hm32 : ys.length ≤ 32 := by simp [rightB] at r2; omega
  have hmk := run_make_nums (P := Try.prog) 23 34 .u32 4 Try.underlying23 Try.info34 (xs.length + ys.length) (by omega) (by omega)
  have hmk' : ∀ w : World, (Instr.makeSlice 23 (.int .i64 ((xs.length : Int) + (ys.length : Int))) (.int .i64 ((xs.length : Int) + (ys.length : Int)))).run Try.prog w = .ok (.slice (some ⟨w.heap.size, 0, none⟩) (xs.length + ys.length) (xs.length + ys.length)) (w.alloc (.cells (nums .u32 (List.replicate (xs.length + ys.length) 0)).toArray 34)) := hmk
  clear hmk
  have hfin : mulN xs ys = fitN (val xs * val ys) := by simp [mulN, r1, r2]
  rw [hfin]
  clear hfin
  go_enter Try.func32, Try.ntmps32
  go_wp2_with (first
    | (go_at_call 30; (with_reducible refine (nat_right _ _ _ _ _ h1).mono ?_); rintro e w' ⟨rfl, rfl⟩)
    | (go_at_call 30; (with_reducible refine (nat_right _ _ _ _ _ h2).mono ?_); rintro e w' ⟨rfl, rfl⟩))
  go_loopw [29] (MulRel w xs ys) (fun i _ => xs.length - (intOf i).toNat)
  case atStart =>
    refine ⟨0, List.replicate (xs.length + ys.length) 0, Nat.zero_le _, rfl, by simp, ?_, ?_, ?_, Own.new _ _ _ _, (Below.refl _ _).alloc (Nat.le_refl _) _⟩
    · intro y hy
      have := List.eq_of_mem_replicate hy
      omega
    · have := drop_zeros_val (List.replicate (xs.length + ys.length) 0) 0 (fun i _ => by simp [List.getElem?_replicate]; split <;> rfl)
      simpa [val] using this
    · intro j _
      simp [List.getElem?_replicate]
      split <;> rfl
  case round =>
    obtain ⟨i, bs, hi, rfl, hbl, hblim, hbv, hbz, hown, hbel⟩ := hrel
    have Hbl := Lib.hid hbl
    have Hbv := Lib.hid hbv
    have Hbz := Lib.hid hbz
    clear hbl hbv hbz
    by_cases hlt : i < xs.length
    · obtain ⟨b1, o1, x, rfl, hb1, Hx, hc1⟩ := (h1.below hbel).get (j := i) hlt
      have hxl := lx.of_get Hx.out
      go_wp2
      obtain ⟨wo, rfl⟩ : ∃ wo : World, wo = wr := ⟨_, rfl⟩
      go_loopw [9, 36] (MulRel2 w x ys bs i) (fun _ q _ => ys.length - (intOf q).toNat)
      case atStart => exact ⟨0, Nat.zero_le _, rfl, rfl, by rw [mulBuf_zero]; exact hown, hbel⟩
      case round =>
        clear hown hbel hc1
        obtain ⟨k, hk, rfl, rfl, hown, hbel⟩ := hrel
        have hcar := mulP_carry x ys (bs.drop i) hxl ly (hblim.drop _) k
        by_cases hlt2 : k < ys.length
        · obtain ⟨b2, o2, y, rfl, hb2, Hy, hc2⟩ := (h2.below hbel).get (j := k) hlt2
          have hyl := ly.of_get Hy.out
          have Hlb := Lib.hid (mulBuf_len x ys bs i k (by rw [Hbl.out]; omega))
          obtain ⟨z, Hz, hcz⟩ := hown.cell (i := i + k) (by rw [Hlb.out, Hbl.out]; omega)
          have hfro := hown.frozen (i + k)
          have Hz2 : Hid (bs[i + k]? = some z) := Lib.hid (by rw [← mulBuf_get x ys bs i k (by rw [Hbl.out]; omega)]; exact Hz.out)
          have hzl := hblim.of_get Hz2.out
          have hb := mul_bound hxl hyl hzl hcar
          have hxy0 : (0 : Int) ≤ (x : Int) * (y : Int) := by rw [← Int.natCast_mul]; omega
          have hxy1 : (x : Int) * (y : Int) + (z : Int) + ((mulP x ys (bs.drop i) k).2 : Int) < 18446744073709551616 := by rw [← Int.natCast_mul]; omega
          have Hset := Lib.hid (mulBuf_succ x ys bs i k (by rw [Hbl.out]; omega))
          clear hb
          go_wp2
          go_roundw
          case rel =>
            refine ⟨k + 1, by omega, by go_num, ?_, ?_, hbel.setCell (by simp) _⟩
            · have hz2 := Hz2.out
              simp only [mulP, getD_of_get Hy.out]
              rw [show (bs.drop i).getD k 0 = z from by simp [List.getElem?_drop, hz2]]
              go_num
            · have := hown.set_ (i + k) ((x * y + z + (mulP x ys (bs.drop i) k).2) % 4294967296)
              have hs := Hset.out
              rw [getD_of_get Hy.out, getD_of_get Hz2.out] at hs
              rw [hs] at this
              simpa using this
          case measure => simp [intOf]; omega
        · obtain rfl : k = ys.length := by omega
          have hrow := mul_row x ys bs i (by rw [Hbl.out]; omega) Hbz.out
          have Hrow := Lib.hid hrow
          clear hrow
          have Hlb := Lib.hid (mulBuf_len x ys bs i ys.length (by rw [Hbl.out]; omega))
          obtain ⟨z, Hz, hcz⟩ := hown.cell (i := i + ys.length) (by rw [Hlb.out, Hbl.out]; omega)
          have hfro := hown.frozen (i + ys.length)
          go_wp2
          go_roundw
          case rel =>
            obtain ⟨e1, e2, e3⟩ := Hrow.out
            refine ⟨i + 1, _, by omega, by go_num, ?_, ?_, ?_, e3, ?_, hbel.setCell (by simp) _⟩
            · rw [e2, Hbl.out]
            · intro v hv
              rcases List.mem_or_eq_of_mem_set hv with h | h
              · exact mulBuf_lim x ys bs i ys.length hblim v h
              · omega
            · rw [e1, Hbv.out, val_take_succ, getD_of_get Hx.out, Nat.add_mul, Nat.mul_assoc]
            · have := hown.set_ (i + ys.length) (mulP x ys (bs.drop i) ys.length).2
              simpa using this
          case measure => simp [intOf]; omega
    · obtain rfl : i = xs.length := by omega
      have hval := Hbv.out
      rw [List.take_length] at hval
      have hnums := hown.nums (n := xs.length + ys.length) (c := xs.length + ys.length) Hbl.out (Nat.le_refl _) (by omega)
      have Hval := Lib.hid hval
      clear hval
      go_wp2_with (go_at_call 53; (with_reducible refine (nat_fit _ _ _ _ _ hnums hblim).mono ?_); rintro e w' ⟨A, c, rfl, hN, hB⟩)
      go_ret2
      rw [← Hval.out]
      exact ⟨A, c, rfl, hN, below_tail hbel hB⟩

set_option maxHeartbeats 1000000 in
theorem nat_mul (A1 : Option Addr) (n c1 : Nat) (xs : List Nat) (A2 : Option Addr) (m c2 : Nat) (ys : List Nat) (w : World)
    (h1 : Nums .u32 w A1 n c1 xs) (h2 : Nums .u32 w A2 m c2 ys) (lx : Lim xs) (ly : Lim ys) :
    Calls Try.prog 32 #[.slice A1 n c1, .slice A2 m c2] w (RetNat w (mulN xs ys)) := by
  by_cases r1 : rightB xs = true
  case neg =>
    have r1' : rightB xs = false := by simpa using r1
    have hfin : mulN xs ys = ([], 1) := by simp [mulN, r1']
    rw [hfin]
    clear hfin r1
    go_enter Try.func32, Try.ntmps32
    go_wp2_with (first
      | (go_at_call 30; (with_reducible refine (nat_right _ _ _ _ _ h1).mono ?_); rintro e w' ⟨rfl, rfl⟩)
      | (go_at_call 30; (with_reducible refine (nat_right _ _ _ _ _ h2).mono ?_); rintro e w' ⟨rfl, rfl⟩))
    go_ret2
    exact ⟨none, 0, rfl, Nums.nil _ _ _ _ (by simp), Below.refl _ _⟩
  by_cases r2 : rightB ys = true
  case neg =>
    have r2' : rightB ys = false := by simpa using r2
    have hfin : mulN xs ys = ([], 1) := by simp [mulN, r2']
    rw [hfin]
    clear hfin r2
    go_enter Try.func32, Try.ntmps32
    go_wp2_with (first
      | (go_at_call 30; (with_reducible refine (nat_right _ _ _ _ _ h1).mono ?_); rintro e w' ⟨rfl, rfl⟩)
      | (go_at_call 30; (with_reducible refine (nat_right _ _ _ _ _ h2).mono ?_); rintro e w' ⟨rfl, rfl⟩))
    go_ret2
    exact ⟨none, 0, rfl, Nums.nil _ _ _ _ (by simp), Below.refl _ _⟩
  exact nat_mul_ok A1 n c1 xs A2 m c2 ys w h1 h2 lx ly r1 r2

/-- a quotient, what is left, and an error's number come back -/
def RetDiv (w : World) (p : List Nat × Nat × Nat) (e : Ending) (w' : World) : Prop :=
  ∃ A c, e = .returned (.tuple #[.slice A p.1.length c, .int .u32 (p.2.1 : Int), .int .i64 (p.2.2 : Int)]) ∧ Nums .u32 w' A p.1.length c p.1 ∧ Below w.heap.size w w' ∧ (∀ b off, A = some ⟨b, off, none⟩ → w.heap.size ≤ b)

/-- the loop of 'Div' -/
def DivRel (w : World) (xs : List Nat) (d : Nat) (r i : Value) (wr : World) : Prop :=
  ∃ j : Nat, j ≤ xs.length ∧ i = .int .i64 ((xs.length - j : Nat) - 1 : Int) ∧ r = .int .u32 ((divP xs d j).2 : Int) ∧
    Own wr w.heap.size 34 .u32 (List.replicate (xs.length - j) 0 ++ (divP xs d j).1) ∧ Below w.heap.size w wr

theorem div_buf (n j q : Nat) (qs : List Nat) (hj : j < n) : (List.replicate (n - j) 0 ++ qs).set (n - j - 1) q = List.replicate (n - (j + 1)) 0 ++ q :: qs := by
  have : n - j = (n - (j + 1)) + 1 := by omega
  rw [this, List.replicate_succ', List.append_assoc, List.set_append_right _ _ (by simp)]
  simp

set_option maxHeartbeats 2000000 in
theorem nat_div (A1 : Option Addr) (n c1 : Nat) (xs : List Nat) (d : Nat) (w : World)
    (h1 : Nums .u32 w A1 n c1 xs) (lx : Lim xs) (hd : d < 4294967296) :
    Calls Try.prog 36 #[.slice A1 n c1, .int .u32 (d : Int)] w (RetDiv w (divN xs d)) := by
  obtain rfl := h1.len
  by_cases r1 : rightB xs = true
  case neg =>
    have r1' : rightB xs = false := by simpa using r1
    have hfin : divN xs d = ([], 0, 1) := by simp [divN, r1']
    rw [hfin]
    clear hfin r1
    go_enter Try.func36, Try.ntmps36
    go_wp2_with (go_at_call 30; (with_reducible refine (nat_right _ _ _ _ _ h1).mono ?_); rintro e w' ⟨rfl, rfl⟩)
    go_ret3
    exact ⟨none, 0, rfl, Nums.nil _ _ _ _ (by simp), Below.refl _ _, fun _ _ h => by cases h⟩
  by_cases hd0 : d = 0
  · subst hd0
    have hfin : divN xs 0 = ([], 0, 1) := by simp [divN]
    rw [hfin]
    clear hfin
    go_enter Try.func36, Try.ntmps36
    go_wp2_with (go_at_call 30; (with_reducible refine (nat_right _ _ _ _ _ h1).mono ?_); rintro e w' ⟨rfl, rfl⟩)
    go_ret3
    exact ⟨none, 0, rfl, Nums.nil _ _ _ _ (by simp), Below.refl _ _, fun _ _ h => by cases h⟩
  have hn32 : xs.length ≤ 32 := by simp [rightB] at r1; omega
  have hdne : ((d : Int) == 0) = false := by simp [hd0]
  have hmk' := run_make_nums (P := Try.prog) 23 34 .u32 4 Try.underlying23 Try.info34 xs.length (by omega) (by omega)
  have hfin : divN xs d = (limbs (val xs / d), val xs % d, 0) := by simp [divN, r1, hd0]
  rw [hfin]
  clear hfin
  go_enter Try.func36, Try.ntmps36
  go_wp2_with (go_at_call 30; (with_reducible refine (nat_right _ _ _ _ _ h1).mono ?_); rintro e w' ⟨rfl, rfl⟩)
  go_loopw [8, 9] (DivRel w xs d) (fun _ i _ => (intOf i + 1).toNat)
  case atStart => exact ⟨0, Nat.zero_le _, by simp, rfl, by simpa [divP] using Own.new w 34 .u32 (List.replicate xs.length 0), (Below.refl _ _).alloc (Nat.le_refl _) _⟩
  case round =>
    obtain ⟨j, hj, rfl, rfl, hown, hbel⟩ := hrel
    have hrest := divP_rest xs d (by omega) j
    have Hpl := Lib.hid (divP_len xs d j)
    by_cases hlt : j < xs.length
    · have hk : ((xs.length - j : Nat) : Int) - 1 = ((xs.length - j - 1 : Nat) : Int) := by omega
      rw [hk]
      obtain ⟨b1, o1, x, rfl, hb1, Hx, hc1⟩ := (h1.below hbel).get (j := xs.length - j - 1) (by omega)
      have hxl := lx.of_get Hx.out
      obtain ⟨z, Hz, hcz⟩ := hown.cell (i := xs.length - j - 1) (by simp [Hpl.out]; omega)
      have hfro := hown.frozen (xs.length - j - 1)
      generalize hkk : xs.length - j - 1 = k at *
      have Hkk := Lib.hid hkk
      have hkl : k < xs.length := by omega
      clear hk hkk
      go_wp2_with (go_at_call 61; (with_reducible refine (bits_div32 _ x d _ hrest hxl hd).mono ?_); rintro e w' ⟨rfl, q, rfl⟩)
      go_roundw
      case rel =>
        have hk1 := Hkk.out
        have hx := getD_of_get Hx.out
        refine ⟨j + 1, by omega, by go_num, ?_, ?_, (below_drewN hbel _).setCell (by simp) _⟩
        · simp only [divP, show xs.length - 1 - j = k from by omega, hx]
          go_num
        · have := (hown.drewN q).set_ k (((divP xs d j).2 * 4294967296 + x) / d)
          rw [← hk1, div_buf _ _ _ _ hlt, hk1] at this
          simp only [divP, show xs.length - 1 - j = k from by omega, hx]
          simpa using this
      case measure => simp [intOf] <;> omega
    · obtain rfl : j = xs.length := by omega
      rw [Nat.sub_self] at *
      simp only [List.replicate_zero, List.nil_append] at hown
      have hnums := hown.nums (n := xs.length) (c := xs.length) Hpl.out (Nat.le_refl _) (by omega)
      obtain ⟨e1, e2⟩ := divP_all xs d (by omega)
      have Hfin := Lib.hid (neatL_limbs _ (divP_lim xs d (by omega) lx xs.length))
      rw [e1] at Hfin
      have He2 := Lib.hid e2
      clear e1 e2
      go_wp2_with (go_at_call 57; (with_reducible refine (nat_neat _ _ _ _ _ hnums).mono ?_); rintro e w' ⟨rfl, hN, rfl⟩)
      go_ret3
      rw [Hfin.out] at hN ⊢
      rw [← He2.out]
      exact ⟨_, _, rfl, hN, hbel, fun b off h => by injection h with h; injection h with h; omega⟩

theorem bitLen_lib : ∀ (f x : Nat), x < 2 ^ f → Lib.bitLenAux f x = bitLen x := by
  intro f
  induction f with
  | zero => intro x h; simp at h; subst h; rfl
  | succ f ih =>
    intro x h
    unfold Lib.bitLenAux
    by_cases h0 : x = 0
    · subst h0; rfl
    · rw [if_neg h0, ih (x / 2) (by rw [Nat.pow_succ] at h; omega)]
      by_cases h1 : x / 2 = 0
      · have hx : x = 1 := by omega
        subst hx
        rfl
      · have := Go.bitLen_shift x 1 (by simpa using h1)
        exact this.symm

theorem bitLen_lib64 (x : Nat) (h : x < 4294967296) : Lib.bitLen x = bitLen x := bitLen_lib 64 x (by omega)

theorem bitLen_top (zs : List Nat) (z : Nat) (lz : Lim zs) (hz : z ≠ 0) : bitLen (val (zs ++ [z])) = 32 * zs.length + bitLen z := by
  have hl := val_lt zs lz
  rw [val_snoc]
  have hp : (4294967296 : Nat) ^ zs.length = 2 ^ (32 * zs.length) := by rw [Nat.pow_mul]
  rw [hp] at hl ⊢
  generalize val zs = a at *
  generalize 32 * zs.length = k at *
  have h0 : 0 < 2 ^ k := Nat.two_pow_pos k
  have hpos : 2 ^ k * 1 ≤ 2 ^ k * z := Nat.mul_le_mul_left _ (by omega)
  unfold bitLen
  rw [if_neg (by omega), if_neg hz]
  have e : (a + 2 ^ k * z) / 2 ^ k = z := by
    rw [Nat.add_mul_div_left _ _ h0, Nat.div_eq_of_lt hl, Nat.zero_add]
  have h1 : 2 ^ (z.log2 + k) ≤ a + 2 ^ k * z := by
    have := Nat.log2_self_le hz
    rw [Nat.pow_add, Nat.mul_comm]
    have := Nat.mul_le_mul_left (2 ^ k) this
    omega
  have h2 : a + 2 ^ k * z < 2 ^ (z.log2 + k + 1) := by
    have h3 : z < 2 ^ (z.log2 + 1) := Nat.lt_log2_self
    have h4 : 2 ^ k * (z + 1) ≤ 2 ^ k * 2 ^ (z.log2 + 1) := Nat.mul_le_mul_left _ (by omega)
    rw [← Nat.pow_add, Nat.mul_add] at h4
    rw [show z.log2 + k + 1 = k + (z.log2 + 1) from by omega]
    omega
  have : (a + 2 ^ k * z).log2 = z.log2 + k := by
    have hne : a + 2 ^ k * z ≠ 0 := by omega
    apply Nat.le_antisymm
    · have := (Nat.log2_lt hne).2 h2
      omega
    · exact (Nat.le_log2 hne).2 h1
  omega

set_option maxHeartbeats 1000000 in
theorem nat_bits (A1 : Option Addr) (n c1 : Nat) (xs : List Nat) (w : World) (h1 : Nums .u32 w A1 n c1 xs) (lx : Lim xs) :
    Calls Try.prog 34 #[.slice A1 n c1] w fun e w' => e = .returned (.int .i64 (bitsN xs : Int)) ∧ w = w' := by
  obtain rfl := h1.len
  by_cases r1 : rightB xs = true
  case neg =>
    have r1' : rightB xs = false := by simpa using r1
    have hfin : bitsN xs = 0 := by simp [bitsN, r1']
    rw [hfin]
    clear hfin r1
    go_enter Try.func34, Try.ntmps34
    go_wp2_with (go_at_call 30; (with_reducible refine (nat_right _ _ _ _ _ h1).mono ?_); rintro e w' ⟨rfl, rfl⟩)
    go_ret
    exact ⟨rfl, rfl⟩
  rcases List.eq_nil_or_concat xs with rfl | ⟨zs, z, rfl⟩
  · have hfin : bitsN [] = 0 := by decide
    rw [hfin]
    clear hfin
    simp only [List.length_nil] at h1 ⊢
    go_enter Try.func34, Try.ntmps34
    go_wp2_with (go_at_call 30; (with_reducible refine (nat_right _ _ _ _ _ h1).mono ?_); rintro e w' ⟨rfl, rfl⟩)
    go_ret
    exact ⟨rfl, rfl⟩
  · rw [List.concat_eq_append] at *
    have hz0 := tight_of_right _ r1 zs z rfl
    have hzl : z < 4294967296 := lx z (by simp)
    have hlz : Lim zs := fun y hy => lx y (by simp [hy])
    have hfin : bitsN (zs ++ [z]) = 32 * zs.length + bitLen z := by simp only [bitsN, r1, if_true]; exact bitLen_top zs z hlz hz0
    have Hfin := Lib.hid hfin
    clear hfin
    have hlen : (zs ++ [z]).length = zs.length + 1 := by simp
    obtain ⟨b1, o1, x, rfl, hb1, Hx, hc1⟩ := h1.get (j := zs.length) (by omega)
    have hxz : x = z := by have := Hx.out; simp at this; omega
    subst hxz
    have hn32 : zs.length + 1 ≤ 32 := by simp [rightB] at r1; omega
    rw [hlen] at h1 ⊢
    have hb8 : bitLen x ≤ 32 := by
      rw [← bitLen_lib64 x hzl]
      exact Lib.bitLenAux_le 64 x 32 hzl
    have hz8 := bitLen_lib64 x hzl
    have Hz8 := Lib.hid hz8
    clear hz8 hlen
    go_enter Try.func34, Try.ntmps34
    go_wp2_with (first
     | (go_at_call 30; (with_reducible refine (nat_right _ _ _ _ _ h1).mono ?_); rintro e w' ⟨rfl, rfl⟩)
     | (go_at_call 60; (with_reducible refine (bits_len32 _ _ (by omega) (by omega)).mono ?_); rintro e w' ⟨rfl, rfl⟩))
    go_ret
    rw [Hfin.out]
    exact ⟨ret_num (by rw [wrap64_small _ (by omega) (by have := Hz8.out; omega), Hz8.out]; omega), rfl⟩
end Go.Proofs.Ytapnnnciaagbdaa
