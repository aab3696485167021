/- Walks: the reference's limb, neat, small, Of, Copy, Cmp, Add and Sub. -/
import Derived.Test.YtapnnnciaagbdaaNatW9
namespace Go.Proofs.Ytapnnnciaagbdaa
open Go.RowKit
set_option linter.unusedVariables false
set_option linter.unusedSimpArgs false

set_option maxHeartbeats 400000 in
theorem ref_limb (A : Option Addr) (n c : Nat) (xs : List Nat) (i : Nat) (w : World) (h : Nums .u32 w A n c xs) (lx : Lim xs) :
    Calls Try.prog 50 #[.slice A n c, .int .i64 (i : Int)] w fun e w' => e = .returned (.int .u64 ((xs.getD i 0 : Nat) : Int)) ∧ w = w' := by
  obtain rfl := h.len
  obtain ⟨y, Hy⟩ : ∃ y, Hid (xs.getD i 0 = y) := ⟨_, Lib.hid rfl⟩
  rw [Hy.out]
  by_cases hi : i < xs.length
  · obtain ⟨b, off, x, rfl, hb, Hx, hc⟩ := h.get hi
    have hge : ¬ (xs.length : Int) ≤ (i : Int) := by omega
    have hxl := lx.of_get Hx.out
    go_enter Try.func50, Try.ntmps50
    go_wp2
    go_ret
    rw [← Hy.out, getD_of_get Hx.out]
    exact ⟨rfl, rfl⟩
  · have hge : (xs.length : Int) ≤ (i : Int) := by omega
    have H0 := Lib.hid (getD_of_ge (xs := xs) (j := i) (by omega))
    go_enter Try.func50, Try.ntmps50
    go_wp2
    go_ret
    rw [← Hy.out, H0.out]
    exact ⟨rfl, rfl⟩

set_option maxHeartbeats 400000 in
theorem ref_neat (A : Option Addr) (n c : Nat) (xs : List Nat) (w : World) (h : Nums .u32 w A n c xs) :
    Calls Try.prog 51 #[.slice A n c] w fun e w' => e = .returned (.slice A (neatL xs).length c) ∧ Nums .u32 w A (neatL xs).length c (neatL xs) ∧ w = w' := by
  have hl := h.len
  have hcap := h.cap
  go_enter Try.func51, Try.ntmps51
  go_wp2
  go_loop [0] (fun v => ∃ k : Nat, k ≤ n ∧ v = .slice A k c ∧ neatL xs = neatL (xs.take k)) (fun v => lenOf v)
  case atStart => exact ⟨n, Nat.le_refl _, rfl, by rw [List.take_of_length_le (by omega)]⟩
  case round =>
    obtain ⟨k, hk, rfl, hrel⟩ := hrel
    have Hrel := Lib.hid hrel
    clear hrel
    by_cases hlt : 0 < k
    · obtain ⟨b, off, x, rfl, hb, Hx, hc⟩ := h.get (j := k - 1) (by omega)
      by_cases h0 : x = 0
      · subst h0
        go_wp2
        go_round
        case rel =>
          refine ⟨k - 1, by omega, by go_num, ?_⟩
          rw [Hrel.out]
          have := neatL_step xs (k - 1) (by omega) (by simp [Hx.out])
          rw [← this, show k - 1 + 1 = k from by omega]
        case measure => simp [lenOf]; omega
      · have ht : ((x : Int) == 0) = false := by simp [h0]
        have hfin := neatL_stop xs (k - 1) (by omega) (by simpa [Hx.out] using h0)
        rw [show k - 1 + 1 = k from by omega, ← Hrel.out] at hfin
        have hfin2 : (neatL xs).length = k := by rw [hfin]; simp; omega
        have Hf := Lib.hid hfin
        have Hf2 := Lib.hid hfin2
        clear hfin hfin2
        go_wp2
        go_ret
        rw [Hf2.out]
        refine ⟨rfl, ?_, rfl⟩
        rw [Hf.out]
        exact h.take k c hk (by omega) (by omega)
    · have hfin : neatL xs = [] := by rw [Hrel.out, show k = 0 from by omega]; simp [neatL]
      have Hf := Lib.hid hfin
      clear hfin
      obtain rfl : k = 0 := by omega
      go_wp2
      go_ret
      rw [Hf.out]
      exact ⟨rfl, Nums.nil _ _ _ _ (by omega), rfl⟩

set_option maxHeartbeats 400000 in
theorem ref_small (A : Option Addr) (n c : Nat) (xs : List Nat) (w : World) (h : Nums .u32 w A n c xs) (hx : Lim xs) :
    Calls Try.prog 54 #[.slice A n c] w (RetNat w (fitN (val xs))) := by
  have hf := fit_neat xs hx
  by_cases h32 : (neatL xs).length ≤ 32
  · rw [if_pos h32] at hf
    have Hf := Lib.hid hf
    clear hf
    go_enter Try.func54, Try.ntmps54
    go_wp2_with (go_at_call 51; refine (ref_neat _ _ _ _ _ h).mono ?_; rintro e w' ⟨rfl, hN, rfl⟩)
    go_ret2
    rw [← Hf.out]
    exact ⟨_, _, rfl, by assumption, Below.refl _ _⟩
  · rw [if_neg h32] at hf
    have Hf := Lib.hid hf
    clear hf
    go_enter Try.func54, Try.ntmps54
    go_wp2_with (go_at_call 51; refine (ref_neat _ _ _ _ _ h).mono ?_; rintro e w' ⟨rfl, hN, rfl⟩)
    go_ret2
    rw [← Hf.out]
    exact ⟨none, 0, rfl, Nums.nil _ _ _ _ (by simp), Below.refl _ _⟩

set_option maxHeartbeats 400000 in
theorem ref_of (x : Nat) (w : World) (hx : x < 18446744073709551616) :
    Calls Try.prog 22 #[.int .u64 (x : Int)] w (RetLimbs w (limbs x)) := by
  have hl : Lim [x % 4294967296, x / 4294967296] := Lim.mk (by omega) (Lim.mk (by omega) Lim.nil)
  have hv : val [x % 4294967296, x / 4294967296] = x := by simp [val]; omega
  have hn := neatL_limbs _ hl
  rw [hv] at hn
  have Hn := Lib.hid hn
  clear hn hv
  have hown := (Own.new w 34 .u32 [x % 4294967296, x / 4294967296]).nums (n := 2) (c := 2) rfl (Nat.le_refl _) (by omega)
  have e : (nums .u32 [x % 4294967296, x / 4294967296]).toArray = #[.int .u32 ((x : Int) % 4294967296), .int .u32 ((x : Int) / 4294967296)] := by simp [nums]
  rw [e] at hown
  clear e
  go_enter Try.func22, Try.ntmps22
  go_wp2_with (go_at_call 51; refine (ref_neat _ _ _ _ _ hown).mono ?_; rintro e w' ⟨rfl, hN, rfl⟩)
  go_ret
  rw [Hn.out] at hN ⊢
  exact ⟨_, _, rfl, hN, (Below.refl _ _).alloc (Nat.le_refl _) _⟩

set_option maxHeartbeats 400000 in
theorem ref_copy (A : Option Addr) (n c : Nat) (xs : List Nat) (w : World) (h : Nums .u32 w A n c xs) (hb : n ≤ 1000000) :
    Calls Try.prog 24 #[.slice A n c] w (RetOwn w xs) := by
  obtain rfl := h.len
  have hown := own_made w 34 0 [] rfl (by omega)
  have hs := h.sl.below ((Below.refl _ _).alloc (Nat.le_refl _) (.cells #[] 34))
  go_enter Try.func24, Try.ntmps24
  go_wp2_with (at_builtin; refine wpl_append rfl _ _ 23 rfl w.heap.size 34 (.int .u32 0) 4 Try.underlying23 Try.info34 rfl _ 0 0 [] rfl hown _ xs.length c (nums .u32 xs) rfl hs (nums_one _ _) (by omega) (by omega) (by simp) ?_; intro A' c' w' ho hg)
  go_ret
  simp only [Nat.zero_add, List.nil_append] at ho
  exact ⟨_, _, rfl, ho, below_append ((Below.refl _ _).alloc (Nat.le_refl _) _) hg hown (by simp)⟩

theorem right_len (xs : List Nat) (h : rightB xs = true) : xs.length ≤ 32 := by simp [rightB] at h; omega

set_option maxHeartbeats 1000000 in
theorem ref_cmp (A1 : Option Addr) (n c1 : Nat) (xs : List Nat) (A2 : Option Addr) (m c2 : Nat) (ys : List Nat) (w : World)
    (h1 : Nums .u32 w A1 n c1 xs) (h2 : Nums .u32 w A2 m c2 ys) (lx : Lim xs) (ly : Lim ys) :
    Calls Try.prog 21 #[.slice A1 n c1, .slice A2 m c2] w (Quiet w (.int .i64 (cmpN xs ys))) := by
  by_cases r1 : rightB xs = true
  case neg =>
    have r1' : rightB xs = false := by simpa using r1
    have hfin : cmpN xs ys = 0 := by simp [cmpN, r1']
    rw [hfin]
    clear hfin r1
    go_enter Try.func21, Try.ntmps21
    go_wp2_with (first
      | (go_at_call 31; (with_reducible refine (ref_right _ _ _ _ _ h1).mono ?_); rintro e w' ⟨rfl, rfl⟩)
      | (go_at_call 31; (with_reducible refine (ref_right _ _ _ _ _ h2).mono ?_); rintro e w' ⟨rfl, rfl⟩))
    go_ret
    exact ⟨rfl, Same.refl _⟩
  by_cases r2 : rightB ys = true
  case neg =>
    have r2' : rightB ys = false := by simpa using r2
    have hfin : cmpN xs ys = 0 := by simp [cmpN, r2']
    rw [hfin]
    clear hfin r2
    go_enter Try.func21, Try.ntmps21
    go_wp2_with (first
      | (go_at_call 31; (with_reducible refine (ref_right _ _ _ _ _ h1).mono ?_); rintro e w' ⟨rfl, rfl⟩)
      | (go_at_call 31; (with_reducible refine (ref_right _ _ _ _ _ h2).mono ?_); rintro e w' ⟨rfl, rfl⟩))
    go_ret
    exact ⟨rfl, Same.refl _⟩
  have hn32 := right_len xs r1
  have hm32 := right_len ys r2
  have hcn : cmpN xs ys = cmpI (val xs) (val ys) := by simp [cmpN, r1, r2]
  have Hcn := Lib.hid hcn
  clear hcn
  go_enter Try.func21, Try.ntmps21
  go_wp2_with (first
    | (go_at_call 31; (with_reducible refine (ref_right _ _ _ _ _ h1).mono ?_); rintro e w' ⟨rfl, rfl⟩)
    | (go_at_call 31; (with_reducible refine (ref_right _ _ _ _ _ h2).mono ?_); rintro e w' ⟨rfl, rfl⟩))
  go_loop [5] (fun i => ∃ k : Nat, k ≤ 32 ∧ i = .int .i64 ((k : Int) - 1) ∧ cmpN xs ys = cmpI (val (xs.take k)) (val (ys.take k))) (fun i => (intOf i + 1).toNat)
  case atStart => exact ⟨32, Nat.le_refl _, rfl, by rw [Hcn.out, List.take_of_length_le hn32, List.take_of_length_le hm32]⟩
  case round =>
    obtain ⟨k, hk, rfl, hrel⟩ := hrel
    have Hrel := Lib.hid hrel
    clear hrel
    by_cases hlt : 0 < k
    · have hst := cmpI_step xs ys lx ly (k - 1)
      rw [show k - 1 + 1 = k from by omega, ← Hrel.out] at hst
      have Hst := Lib.hid hst
      clear hst
      have e1 : ((k : Int) - 1) = ((k - 1 : Nat) : Int) := by omega
      rw [e1]
      generalize hj : k - 1 = j at *
      have Hj := Lib.hid hj
      have hj32 : j < 32 := by omega
      clear hj e1
      by_cases hxy : xs.getD j 0 < ys.getD j 0
      · have hxy' : ((xs.getD j 0 : Nat) : Int) < ((ys.getD j 0 : Nat) : Int) := by omega
        have Hxy := Lib.hid hxy
        clear hxy
        go_wp2_with (first
          | (go_at_call 50; (with_reducible refine (ref_limb _ _ _ _ _ _ h1 lx).mono ?_); rintro e w' ⟨rfl, rfl⟩)
          | (go_at_call 50; (with_reducible refine (ref_limb _ _ _ _ _ _ h2 ly).mono ?_); rintro e w' ⟨rfl, rfl⟩))
        go_ret
        rw [Hst.out, if_pos Hxy.out]
        exact ⟨rfl, Same.refl _⟩
      · have hxy' : ¬ ((xs.getD j 0 : Nat) : Int) < ((ys.getD j 0 : Nat) : Int) := by omega
        have Hxy := Lib.hid hxy
        clear hxy
        by_cases hyx : ys.getD j 0 < xs.getD j 0
        · have hyx' : ((ys.getD j 0 : Nat) : Int) < ((xs.getD j 0 : Nat) : Int) := by omega
          have Hyx := Lib.hid hyx
          clear hyx
          go_wp2_with (first
            | (go_at_call 50; (with_reducible refine (ref_limb _ _ _ _ _ _ h1 lx).mono ?_); rintro e w' ⟨rfl, rfl⟩)
            | (go_at_call 50; (with_reducible refine (ref_limb _ _ _ _ _ _ h2 ly).mono ?_); rintro e w' ⟨rfl, rfl⟩))
          go_ret
          rw [Hst.out, if_neg Hxy.out, if_pos Hyx.out]
          exact ⟨rfl, Same.refl _⟩
        · have hyx' : ¬ ((ys.getD j 0 : Nat) : Int) < ((xs.getD j 0 : Nat) : Int) := by omega
          have Hyx := Lib.hid hyx
          clear hyx
          go_wp2_with (first
            | (go_at_call 50; (with_reducible refine (ref_limb _ _ _ _ _ _ h1 lx).mono ?_); rintro e w' ⟨rfl, rfl⟩)
            | (go_at_call 50; (with_reducible refine (ref_limb _ _ _ _ _ _ h2 ly).mono ?_); rintro e w' ⟨rfl, rfl⟩))
          go_round
          case rel => exact ⟨j, by have := Hj.out; omega, rfl, by rw [Hst.out, if_neg Hxy.out, if_neg Hyx.out]⟩
          case measure => simp [intOf] <;> omega
    · obtain rfl : k = 0 := by omega
      have hfin : cmpN xs ys = 0 := by rw [Hrel.out]; simp [cmpI, val]
      have Hf := Lib.hid hfin
      clear hfin
      go_wp2
      go_ret
      rw [Hf.out]
      exact ⟨rfl, Same.refl _⟩

/-- the loop of the reference's 'Add' -/
def RAddRel (w : World) (xs ys : List Nat) (o c i : Value) (wr : World) : Prop :=
  ∃ (k : Nat) (A : Option Addr) (cp : Nat), k ≤ 33 ∧ i = .int .i64 (k : Int) ∧ c = .int .u64 ((addP xs ys k).2 : Int) ∧ o = .slice A k cp ∧
    wr.ownsRow w.heap.size 34 1 (.slice A k cp) k (nums .u32 (addP xs ys k).1) ∧ Below w.heap.size w wr

set_option maxHeartbeats 1000000 in
theorem ref_add (A1 : Option Addr) (n c1 : Nat) (xs : List Nat) (A2 : Option Addr) (m c2 : Nat) (ys : List Nat) (w : World)
    (h1 : Nums .u32 w A1 n c1 xs) (h2 : Nums .u32 w A2 m c2 ys) (lx : Lim xs) (ly : Lim ys) :
    Calls Try.prog 26 #[.slice A1 n c1, .slice A2 m c2] w (RetNat w (addN xs ys)) := by
  by_cases r1 : rightB xs = true
  case neg =>
    have r1' : rightB xs = false := by simpa using r1
    have hfin : addN xs ys = ([], 1) := by simp [addN, r1']
    rw [hfin]
    clear hfin r1
    go_enter Try.func26, Try.ntmps26
    go_wp2_with (first
      | (go_at_call 31; (with_reducible refine (ref_right _ _ _ _ _ h1).mono ?_); rintro e w' ⟨rfl, rfl⟩)
      | (go_at_call 31; (with_reducible refine (ref_right _ _ _ _ _ h2).mono ?_); rintro e w' ⟨rfl, rfl⟩))
    go_ret2
    exact ⟨none, 0, rfl, Nums.nil _ _ _ _ (by simp), Below.refl _ _⟩
  by_cases r2 : rightB ys = true
  case neg =>
    have r2' : rightB ys = false := by simpa using r2
    have hfin : addN xs ys = ([], 1) := by simp [addN, r2']
    rw [hfin]
    clear hfin r2
    go_enter Try.func26, Try.ntmps26
    go_wp2_with (first
      | (go_at_call 31; (with_reducible refine (ref_right _ _ _ _ _ h1).mono ?_); rintro e w' ⟨rfl, rfl⟩)
      | (go_at_call 31; (with_reducible refine (ref_right _ _ _ _ _ h2).mono ?_); rintro e w' ⟨rfl, rfl⟩))
    go_ret2
    exact ⟨none, 0, rfl, Nums.nil _ _ _ _ (by simp), Below.refl _ _⟩
  have hn32 := right_len xs r1
  have hm32 := right_len ys r2
  have hfin : addN xs ys = fitN (val xs + val ys) := by simp [addN, r1, r2]
  rw [hfin]
  clear hfin
  go_enter Try.func26, Try.ntmps26
  go_wp2_with (first
    | (go_at_call 31; (with_reducible refine (ref_right _ _ _ _ _ h1).mono ?_); rintro e w' ⟨rfl, rfl⟩)
    | (go_at_call 31; (with_reducible refine (ref_right _ _ _ _ _ h2).mono ?_); rintro e w' ⟨rfl, rfl⟩))
  go_loopw [6, 7, 8] (RAddRel w xs ys) (fun _ _ i _ => (33 - intOf i).toNat)
  case atStart => exact ⟨0, none, 0, Nat.zero_le _, rfl, rfl, rfl, World.ownsRow_nil _ _ _ _, Below.refl _ _⟩
  case round =>
    obtain ⟨k, A, cp, hk, rfl, rfl, rfl, hown, hbel⟩ := hrel
    have hcar := addP_carry xs ys lx ly k
    have hbs := hbel.size
    by_cases hlt : k < 33
    · have hxl := lx.getD k
      have hyl := ly.getD k
      obtain ⟨x, Hx⟩ : ∃ x, Hid (xs.getD k 0 = x) := ⟨_, Lib.hid rfl⟩
      obtain ⟨y, Hy⟩ : ∃ y, Hid (ys.getD k 0 = y) := ⟨_, Lib.hid rfl⟩
      have hl1 := ref_limb A1 n c1 xs k wr (h1.below hbel) lx
      have hl2 := ref_limb A2 m c2 ys k wr (h2.below hbel) ly
      rw [Hx.out] at hl1 hxl
      rw [Hy.out] at hl2 hyl
      have Hl1 := Lib.hid hl1
      have Hl2 := Lib.hid hl2
      clear hl1 hl2
      go_wp2_with (first
        | (go_at_call 50; (with_reducible refine Hl1.out.mono ?_); rintro e w' ⟨rfl, rfl⟩)
        | (go_at_call 50; (with_reducible refine Hl2.out.mono ?_); rintro e w' ⟨rfl, rfl⟩)
        | (at_builtin; refine wpl_append1 (w := wr) rfl _ _ 23 rfl w.heap.size 34 (.int .u32 0) 4 Try.underlying23 Try.info34 rfl _ k _ _ rfl hown (.int .u32 (((x : Int) + (y : Int) + ((addP xs ys k).2 : Int)) % 4294967296)) rfl rfl (by omega) (by omega) (by omega) ?_; intro A4 c4 w2 ho hg))
      go_roundw
      case rel =>
        refine ⟨k + 1, A4, c4, by omega, by go_num, ?_, rfl, ?_, below_append hbel hg hown hbs⟩
        · simp only [addP, Hx.out, Hy.out]; go_num
        · simp only [addP, Hx.out, Hy.out, nums_snoc]
          simpa using ho
      case measure => simp [intOf]; omega
    · obtain rfl : k = 33 := by omega
      have hval := addP_full xs ys lx ly 32 hn32 hm32
      have Hval := Lib.hid hval
      clear hval
      have hnums : Nums .u32 wr A 33 cp (addP xs ys 33).1 := own_sl hown
      go_wp2_with (go_at_call 54; (with_reducible refine (ref_small _ _ _ _ _ hnums (addP_lim xs ys 33)).mono ?_); rintro e w' ⟨A', c', rfl, hN, hB⟩)
      go_ret2
      rw [← Hval.out]
      exact ⟨A', c', rfl, hN, below_tail hbel hB⟩

/-- the loop of the reference's 'Sub' -/
def RSubRel (w : World) (xs ys : List Nat) (o c i : Value) (wr : World) : Prop :=
  ∃ (k : Nat) (A : Option Addr) (cp : Nat), k ≤ 32 ∧ i = .int .i64 (k : Int) ∧ c = .int .u64 ((subP xs ys k).2 : Int) ∧ o = .slice A k cp ∧
    wr.ownsRow w.heap.size 34 1 (.slice A k cp) k (nums .u32 (subP xs ys k).1) ∧ Below w.heap.size w wr

set_option maxHeartbeats 1000000 in
theorem ref_sub (A1 : Option Addr) (n c1 : Nat) (xs : List Nat) (A2 : Option Addr) (m c2 : Nat) (ys : List Nat) (w : World)
    (h1 : Nums .u32 w A1 n c1 xs) (h2 : Nums .u32 w A2 m c2 ys) (lx : Lim xs) (ly : Lim ys) :
    Calls Try.prog 28 #[.slice A1 n c1, .slice A2 m c2] w (RetNat w (subN xs ys)) := by
  by_cases r1 : rightB xs = true
  case neg =>
    have r1' : rightB xs = false := by simpa using r1
    have hfin : subN xs ys = ([], 1) := by simp [subN, r1']
    rw [hfin]
    clear hfin r1
    go_enter Try.func28, Try.ntmps28
    go_wp2_with (first
      | (go_at_call 31; (with_reducible refine (ref_right _ _ _ _ _ h1).mono ?_); rintro e w' ⟨rfl, rfl⟩)
      | (go_at_call 31; (with_reducible refine (ref_right _ _ _ _ _ h2).mono ?_); rintro e w' ⟨rfl, rfl⟩))
    go_ret2
    exact ⟨none, 0, rfl, Nums.nil _ _ _ _ (by simp), Below.refl _ _⟩
  by_cases r2 : rightB ys = true
  case neg =>
    have r2' : rightB ys = false := by simpa using r2
    have hfin : subN xs ys = ([], 1) := by simp [subN, r2']
    rw [hfin]
    clear hfin r2
    go_enter Try.func28, Try.ntmps28
    go_wp2_with (first
      | (go_at_call 31; (with_reducible refine (ref_right _ _ _ _ _ h1).mono ?_); rintro e w' ⟨rfl, rfl⟩)
      | (go_at_call 31; (with_reducible refine (ref_right _ _ _ _ _ h2).mono ?_); rintro e w' ⟨rfl, rfl⟩))
    go_ret2
    exact ⟨none, 0, rfl, Nums.nil _ _ _ _ (by simp), Below.refl _ _⟩
  have hn32 := right_len xs r1
  have hm32 := right_len ys r2
  by_cases hge : val ys ≤ val xs
  case neg =>
    have hc0 : decide (cmpN xs ys < 0) = true := by
      simp only [cmpN, r1, r2, Bool.and_self, if_true, cmpI]
      rw [if_pos (by omega)]
      simp
    have hfin : subN xs ys = ([], 11) := by simp [subN, r1, r2]; omega
    rw [hfin]
    clear hfin
    go_enter Try.func28, Try.ntmps28
    go_wp2_with (first
      | (go_at_call 31; (with_reducible refine (ref_right _ _ _ _ _ h1).mono ?_); rintro e w' ⟨rfl, rfl⟩)
      | (go_at_call 31; (with_reducible refine (ref_right _ _ _ _ _ h2).mono ?_); rintro e w' ⟨rfl, rfl⟩)
      | (go_at_call 21; (with_reducible refine (ref_cmp _ _ _ _ _ _ _ _ _ h1 h2 lx ly).mono ?_); rintro e w1 ⟨rfl, hs1⟩))
    go_ret2
    exact ⟨none, 0, rfl, Nums.nil _ _ _ _ (by simp), hs1.below _⟩
  have hc0 : decide (cmpN xs ys < 0) = false := by
    simp only [cmpN, r1, r2, Bool.and_self, if_true, cmpI]
    rw [if_neg (by omega)]
    split <;> simp
  have hfin : subN xs ys = (limbs (val xs - val ys), 0) := by simp [subN, r1, r2]; omega
  rw [hfin]
  clear hfin
  go_enter Try.func28, Try.ntmps28
  go_wp2_with (first
    | (go_at_call 31; (with_reducible refine (ref_right _ _ _ _ _ h1).mono ?_); rintro e w' ⟨rfl, rfl⟩)
    | (go_at_call 31; (with_reducible refine (ref_right _ _ _ _ _ h2).mono ?_); rintro e w' ⟨rfl, rfl⟩)
    | (go_at_call 21; (with_reducible refine (ref_cmp _ _ _ _ _ _ _ _ _ h1 h2 lx ly).mono ?_); rintro e w1 ⟨rfl, hs1⟩))
  go_loopw [6, 7, 8] (RSubRel w xs ys) (fun _ _ i _ => (32 - intOf i).toNat)
  case atStart => exact ⟨0, none, 0, Nat.zero_le _, rfl, rfl, rfl, World.ownsRow_nil _ _ _ _, hs1.below _⟩
  case round =>
    clear hs1
    obtain ⟨k, A, cp, hk, rfl, rfl, rfl, hown, hbel⟩ := hrel
    have hbor := subP_borrow xs ys k
    have hbs := hbel.size
    by_cases hlt : k < 32
    · have hxl := lx.getD k
      have hyl := ly.getD k
      obtain ⟨x, Hx⟩ : ∃ x, Hid (xs.getD k 0 = x) := ⟨_, Lib.hid rfl⟩
      obtain ⟨y, Hy⟩ : ∃ y, Hid (ys.getD k 0 = y) := ⟨_, Lib.hid rfl⟩
      have hl1 := ref_limb A1 n c1 xs k wr (h1.below hbel) lx
      have hl2 := ref_limb A2 m c2 ys k wr (h2.below hbel) ly
      rw [Hx.out] at hl1 hxl
      rw [Hy.out] at hl2 hyl
      have Hl1 := Lib.hid hl1
      have Hl2 := Lib.hid hl2
      have Hsub : Hid (4294967296 + (x : Int) - (y : Int) - ((subP xs ys k).2 : Int) = ((4294967296 + x - y - (subP xs ys k).2 : Nat) : Int)) := Lib.hid (by omega)
      clear hl1 hl2
      go_wp2_with (first
        | (go_at_call 50; (with_reducible refine Hl1.out.mono ?_); rintro e w' ⟨rfl, rfl⟩)
        | (go_at_call 50; (with_reducible refine Hl2.out.mono ?_); rintro e w' ⟨rfl, rfl⟩)
        | (at_builtin; refine wpl_append1 (w := wr) rfl _ _ 23 rfl w.heap.size 34 (.int .u32 0) 4 Try.underlying23 Try.info34 rfl _ k _ _ rfl hown (.int .u32 ((4294967296 + (x : Int) - (y : Int) - ((subP xs ys k).2 : Int)) % 4294967296)) rfl rfl (by omega) (by omega) (by omega) ?_; intro A4 c4 w2 ho hg))
      go_roundw
      case rel =>
        refine ⟨k + 1, A4, c4, by omega, by go_num, ?_, rfl, ?_, below_append hbel hg hown hbs⟩
        · simp only [subP, Hx.out, Hy.out]; rw [Hsub.out]; go_num
        · rw [Hsub.out] at ho
          simp only [subP, Hx.out, Hy.out, nums_snoc]
          simpa using ho
      case measure => simp [intOf]; omega
    · obtain rfl : k = 32 := by omega
      have hval := subP_eq xs ys lx ly 32 hn32 hm32 hge
      have hfit : fitN (val xs - val ys) = (limbs (val xs - val ys), 0) := fitN_ok (by have := (limbs_of_right xs lx r1).2; omega)
      have Hval := Lib.hid hval
      have Hfit := Lib.hid hfit
      clear hval hfit
      have hnums : Nums .u32 wr A 32 cp (subP xs ys 32).1 := own_sl hown
      have hsm := ref_small _ _ _ _ _ hnums (subP_lim xs ys 32)
      rw [Hval.out, Hfit.out] at hsm
      have Hsm := Lib.hid hsm
      clear hsm
      go_wp2_with (go_at_call 54; (with_reducible refine Hsm.out.mono ?_); rintro e w' ⟨A', c', rfl, hN, hB⟩)
      go_ret2
      exact ⟨A', c', rfl, hN, below_tail hbel hB⟩

end Go.Proofs.Ytapnnnciaagbdaa
