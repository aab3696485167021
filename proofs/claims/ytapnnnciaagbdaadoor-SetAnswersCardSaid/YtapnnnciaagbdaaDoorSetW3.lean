/- set: the rest of the walks. -/
import Derived.Test.YtapnnnciaagbdaaDoorSetW2
namespace Go.Proofs.YtapnnnciaagbdaaDoor
open Go.RowKit
set_option linter.unusedVariables false
set_option linter.unusedSimpArgs false

theorem set_least (s : Nat) (w : World) (hs : s < 4294967296) (hT : TabAt w) :
    Calls Tryd.prog 16 #[.int .u32 (s : Int)] w fun e w' => e = .returned (.int .i64 (leastN s)) ∧ w = w' := by
  by_cases h0 : s = 0
  · subst h0
    have e : leastN 0 = -1 := by simp [leastN, mems_zero]
    rw [e]
    clear e
    go_enter Tryd.func16, Tryd.ntmps16
    go_wp2
    go_ret
    exact ⟨rfl, rfl⟩
  · have e := least_step s h0 hs
    have hc := tz32 s w h0 hs hT
    have hz : ((s : Int) == 0) = false := by rw [beq_eq_false_iff_ne]; omega
    rw [e]
    generalize Lib.ctz 32 s = k at *
    have Hc := Lib.hid hc
    clear hc e
    go_enter Tryd.func16, Tryd.ntmps16
    go_wp2_with (go_at_call 22; (with_reducible refine Hc.out.mono ?_); rintro e w' ⟨rfl, rfl⟩)
    go_ret
    exact ⟨rfl, rfl⟩

theorem belowS_big (n : Int) (h : 32 ≤ n) : belowS n = 4294967295 := by
  unfold belowS
  rw [Int.min_eq_right h]
  rfl
theorem belowS_neg (n : Int) (h : n < 0) : belowS n = 0 := by
  unfold belowS
  rw [Int.min_eq_left (by omega), show n.toNat = 0 from by omega]
theorem belowS_mid (r : Nat) (h : r ≤ 32) : belowS (r : Int) = 2 ^ r - 1 := by
  unfold belowS
  rw [Int.min_eq_left (by omega)]
  simp

theorem set_below (n : Int) (w : World) :
    Calls Tryd.prog 18 #[.int .i64 n] w fun e w' => e = .returned (.int .u32 ((belowS n : Nat) : Int)) ∧ w = w' := by
  by_cases h0 : 32 ≤ n
  · rw [belowS_big n h0]
    go_enter Tryd.func18, Tryd.ntmps18
    go_wp2
    go_ret
    exact ⟨rfl, rfl⟩
  by_cases h1 : n < 0
  · rw [belowS_neg n h1]
    go_enter Tryd.func18, Tryd.ntmps18
    go_wp2
    go_ret
    exact ⟨rfl, rfl⟩
  obtain ⟨r, rfl⟩ : ∃ r : Nat, n = (r : Int) := ⟨n.toNat, by omega⟩
  have hr : (r : Int) < 32 := by omega
  have h : (2 : Nat) ^ r < 4294967296 := by
    have := Nat.pow_lt_pow_right (a := 2) (by decide) (show r < 32 by omega)
    simpa using this
  have hp := Nat.two_pow_pos r
  have hs : ((2 : Int) ^ r % 4294967296 - 1) = ((2 ^ r - 1 : Nat) : Int) := by
    have e : (2 : Int) ^ r = ((2 ^ r : Nat) : Int) := by simp
    rw [e]
    omega
  have hs2 : (2 : Int) ^ r % 4294967296 = ((2 ^ r : Nat) : Int) := by
    have e : (2 : Int) ^ r = ((2 ^ r : Nat) : Int) := by simp
    rw [e]
    omega
  rw [belowS_mid r (by omega)]
  generalize (2 : Nat) ^ r = p at *
  rw [hs2] at hs
  have hfin : ((p : Int) - 1) % 4294967296 = ((p - 1 : Nat) : Int) := by omega
  clear h0 h1
  go_enter Tryd.func18, Tryd.ntmps18
  go_wp2
  go_ret
  first
    | exact ⟨rfl, rfl⟩
    | exact ⟨congrArg Ending.returned (congrArg (Value.int .u32) (by rw [hs2]; first | exact hfin | exact hs)), rfl⟩

theorem below_step (k : Nat) : 2 ^ k - 1 ||| 2 ^ k = 2 ^ (k + 1) - 1 := by
  apply Nat.eq_of_testBit_eq
  intro i
  rw [Nat.testBit_or, Nat.testBit_two_pow_sub_one, Nat.testBit_two_pow_sub_one, Nat.testBit_two_pow]
  rcases Nat.lt_trichotomy i k with h | h | h
  · simp [h, show i < k + 1 by omega]
  · simp [h]
  · simp [show ¬ i < k by omega, show ¬ i < k + 1 by omega, show ¬ k = i by omega]

set_option maxHeartbeats 400000 in
theorem ref_below3 (n : Int) (w : World) (hn : n ≤ 9223372036854775807) :
    Calls Tryd.prog 19 #[.int .i64 n] w fun e w' => e = .returned (.int .u32 ((belowS n : Nat) : Int)) ∧ w = w' := by
  go_enter Tryd.func19, Tryd.ntmps19
  go_wp2
  go_loop [3, 4] (fun s i => ∃ k p : Nat, k ≤ 32 ∧ ((k : Int) ≤ n ∨ k = 0) ∧ i = .int .i64 (k : Int) ∧ s = .int .u32 (p : Int) ∧ Hid (p = 2 ^ k - 1)) (fun _ i => 32 - (intOf i).toNat)
  case atStart => exact ⟨0, 0, Nat.zero_le _, .inr rfl, rfl, rfl, Lib.hid rfl⟩
  case round =>
    obtain ⟨k, p, hk, hk2, rfl, rfl, Hp⟩ := hrel
    by_cases hlt : (k : Int) < n ∧ k < 32
    · obtain ⟨hlt1, hlt2⟩ := hlt
      have h32 : 2 ^ k < 4294967296 := by
        have := Nat.pow_lt_pow_right (a := 2) (by decide) hlt2
        simpa using this
      have hc := ref_bit (k : Int) w
      have hb : bitN (k : Int) = 2 ^ k := by simp [bitN]; omega
      rw [hb] at hc
      have hor := or32 p (2 ^ k) (by rw [Hp.out]; omega) h32
      have hst := below_step k
      rw [← Hp.out] at hst
      rw [hst] at hor
      clear hb hst
      obtain ⟨q, Hq⟩ : ∃ q, Hid (2 ^ (k + 1) - 1 = q) := ⟨_, Lib.hid rfl⟩
      rw [Hq.out] at hor
      generalize 2 ^ k = t at *
      have Hc := Lib.hid hc
      clear hc
      have hk32 : (k : Int) < 32 := by omega
      go_wp2_with (go_at_call 21; (with_reducible refine Hc.out.mono ?_); rintro e w' ⟨rfl, rfl⟩)
      go_round
      case rel => exact ⟨k + 1, q, by omega, .inl (by omega), by go_num, rfl, Lib.hid Hq.out.symm⟩
      case measure => simp [intOf]; omega
    · have hfin : belowS n = p := by
        rw [Hp.out]
        rcases hk2 with h | h
        · rcases Nat.lt_or_ge k 32 with h3 | h3
          · have : n = (k : Int) := by omega
            rw [this, belowS_mid k hk]
          · obtain rfl : k = 32 := by omega
            rw [belowS_big n (by omega)]
        · subst h
          by_cases hn0 : n < 0
          · rw [belowS_neg n hn0]
          · obtain rfl : n = ((0 : Nat) : Int) := by omega
            rw [belowS_mid 0 (by omega)]
      have Hfin := Lib.hid hfin
      clear hfin
      by_cases hn1 : (k : Int) < n
      · have hk32 : (32 : Int) ≤ (k : Int) := by omega
        clear hlt
        go_wp2
        go_ret
        exact ⟨by rw [Hfin.out]; rfl, rfl⟩
      · have hn2 : n ≤ (k : Int) := by omega
        clear hlt
        go_wp2
        go_ret
        exact ⟨by rw [Hfin.out]; rfl, rfl⟩

/-- the members below a number -/
def memsTo (s k : Nat) : List Nat := (List.range k).filter (fun n => s.testBit n)
theorem memsTo_succ (s k : Nat) : memsTo s (k + 1) = memsTo s k ++ (if s.testBit k then [k] else []) := by
  unfold memsTo
  rw [List.range_succ, List.filter_append]
  congr 1
  cases h : s.testBit k <;> simp [h]
theorem memsTo_len (s k : Nat) : (memsTo s k).length ≤ k := by
  have := List.length_filter_le (fun n => s.testBit n) (List.range k)
  simpa [memsTo] using this

set_option maxHeartbeats 1000000 in
theorem ref_members (s : Nat) (w : World) (hs : s < 4294967296) :
    Calls Tryd.prog 13 #[.int .u32 (s : Int)] w (RetInts .i64 w (intsOf (memsN s))) := by
  go_enter Tryd.func13, Tryd.ntmps13
  go_wp2
  go_loopw [3, 4] (fun o i wr => ∃ (k : Nat) (A : Option Addr) (cp : Nat) (pre : List Nat), k ≤ 32 ∧ i = .int .i64 (k : Int) ∧ Hid (pre = memsTo s k) ∧ pre.length ≤ k ∧ o = .slice A pre.length cp ∧
      wr.ownsRow w.heap.size 3 1 (.slice A pre.length cp) pre.length (ints .i64 (intsOf pre)) ∧ Below w.heap.size w wr) (fun _ i _ => 32 - (intOf i).toNat)
  case atStart => exact ⟨0, none, 0, [], Nat.zero_le _, rfl, Lib.hid rfl, Nat.le_refl _, rfl, World.ownsRow_nil _ _ _ _, Below.refl _ _⟩
  case round =>
    obtain ⟨k, A, cp, pre, hk, rfl, Hm, hpl, rfl, hown, hbel⟩ := hrel
    have hbs := hbel.size
    by_cases hlt : k < 32
    · have hc := ref_has s (k : Int) wr hs
      have hh : hasN s (k : Int) = s.testBit k := by simp [hasN]; omega
      rw [hh] at hc
      have hst := memsTo_succ s k
      rw [← Hm.out] at hst
      clear hh
      cases hb : s.testBit k
      · rw [hb] at hc hst
        have Hc := Lib.hid hc
        have Hst := Lib.hid hst
        clear hc hst hb
        go_wp2_with (go_at_call 10; (with_reducible refine Hc.out.mono ?_); rintro e w' ⟨rfl, rfl⟩)
        go_roundw
        case rel => exact ⟨k + 1, A, cp, pre, by omega, by go_num, Lib.hid (by rw [Hst.out]; simp), by omega, rfl, hown, hbel⟩
        case measure => simp [intOf]; omega
      · rw [hb] at hc hst
        have Hc := Lib.hid hc
        have Hst := Lib.hid hst
        clear hc hst hb
        go_wp2_with (first
          | (go_at_call 10; (with_reducible refine Hc.out.mono ?_); rintro e w' ⟨rfl, rfl⟩)
          | (at_builtin; refine wpl_append1 (w := wr) rfl _ _ 23 rfl w.heap.size 3 (.int .i64 0) 8 Tryd.underlying23 Tryd.infoInt rfl _ pre.length _ _ rfl hown (.int .i64 ((k : Int))) rfl rfl (by omega) (by omega) (by omega) ?_; intro A4 c4 w2 ho hg))
        go_roundw
        case rel =>
          have e : ints .i64 (intsOf (pre ++ [k])) = ints .i64 (intsOf pre) ++ [.int .i64 (k : Int)] := by simp [ints, intsOf]
          have e2 : (pre ++ [k]).length = pre.length + 1 := by simp
          refine ⟨k + 1, A4, c4, pre ++ [k], by omega, by go_num, Lib.hid (by rw [Hst.out]; simp), by omega, by rw [e2], ?_, below_append hbel hg hown hbs⟩
          rw [e, e2]
          exact ho
        case measure => simp [intOf]; omega
    · obtain rfl : k = 32 := by omega
      have hm : memsN s = pre := Hm.out.symm
      have Hm2 := Lib.hid hm
      clear hm
      go_wp2
      go_ret
      have e : intsOf (memsN s) = intsOf pre := by rw [Hm2.out]
      rw [e]
      refine ⟨A, cp, by rw [intsOf_length]; rfl, ?_, hbel⟩
      rw [intsOf_length]
      exact own_sl hown

set_option maxHeartbeats 400000 in
theorem ref_count (s : Nat) (w : World) (hs : s < 4294967296) :
    Calls Tryd.prog 15 #[.int .u32 (s : Int)] w fun e w' => e = .returned (.int .i64 ((countN s : Nat) : Int)) ∧ Below w.heap.size w w' := by
  have hc := ref_members s w hs
  unfold countN
  have hl := intsOf_length (memsN s)
  have Hl := Lib.hid hl
  clear hl
  generalize hz : intsOf (memsN s) = zs at *
  clear hz
  have Hc := Lib.hid hc
  clear hc
  go_enter Tryd.func15, Tryd.ntmps15
  go_wp2_with (go_at_call 13; (with_reducible refine Hc.out.mono ?_); rintro e w1 ⟨A, c, rfl, hz, hB⟩)
  go_ret
  exact ⟨by rw [← Hl.out]; rfl, hB⟩

set_option maxHeartbeats 400000 in
theorem ref_least (s : Nat) (w : World) (hs : s < 4294967296) :
    Calls Tryd.prog 17 #[.int .u32 (s : Int)] w fun e w' => e = .returned (.int .i64 (leastN s)) ∧ Below w.heap.size w w' := by
  have hc := ref_members s w hs
  unfold leastN
  cases hm : memsN s with
  | nil =>
    rw [hm] at hc
    have Hc := Lib.hid hc
    clear hc hm
    go_enter Tryd.func17, Tryd.ntmps17
    go_wp2_with (go_at_call 13; (with_reducible refine Hc.out.mono ?_); rintro e w1 ⟨A, c, rfl, hz, hB⟩)
    go_ret
    exact ⟨rfl, hB⟩
  | cons m l =>
    rw [hm] at hc
    have Hc := Lib.hid hc
    clear hc hm
    go_enter Tryd.func17, Tryd.ntmps17
    go_wp2_with fail
    refine Hc.out.mono ?_
    rintro e w1 ⟨A, c, rfl, hz, hB⟩
    obtain ⟨b, off, x, rfl, hb, Hx, hcell⟩ := hz.get (j := 0) (by simp [intsOf])
    have hx : x = (m : Int) := by have := Hx.out; simpa [intsOf] using this.symm
    subst hx
    rw [Nat.add_zero] at hcell
    have hl : (intsOf (m :: l)).length = l.length + 1 := by simp [intsOf]
    go_wp2_with fail
    go_ret
    exact ⟨rfl, hB⟩

set_option maxHeartbeats 400000 in
theorem ref_ints (A1 : Option Addr) (n c1 : Nat) (xs : List Int) (A2 : Option Addr) (m c2 : Nat) (ys : List Int) (w : World)
    (h1 : Ints .i64 w A1 n c1 xs) (h2 : Ints .i64 w A2 m c2 ys) :
    Calls Tryd.prog 11 #[.slice A1 n c1, .slice A2 m c2] w fun e w' => e = .returned (.bool (xs == ys)) ∧ Same w w' := by
  obtain rfl := h1.len
  obtain rfl := h2.len
  have hcap1 := h1.cap
  have hcap2 := h2.cap
  by_cases hne : xs.length = ys.length
  case neg =>
    have e : (xs == ys) = false := by rw [beq_eq_false_iff_ne]; intro h; exact hne (by rw [h])
    have hi : ((xs.length : Int) != (ys.length : Int)) = true := by rw [bne_iff_ne]; omega
    rw [e]
    clear e hne
    go_enter Tryd.func11, Tryd.ntmps11
    go_wp2
    go_ret
    exact ⟨rfl, Same.refl _⟩
  have hi : ((xs.length : Int) != (ys.length : Int)) = false := by rw [bne_eq_false_iff_eq]; omega
  have Hne := Lib.hid hne
  clear hne
  go_enter Tryd.func11, Tryd.ntmps11
  go_wp2
  go_loopw [5] (fun i wr => ∃ k : Nat, k ≤ xs.length ∧ i = .int .i64 (k : Int) ∧ Hid (xs.take k = ys.take k) ∧ Same w wr) (fun i _ => xs.length - (intOf i).toNat)
  case atStart => exact ⟨0, Nat.zero_le _, rfl, Lib.hid rfl, Same.refl _⟩
  case round =>
    obtain ⟨k, hk, rfl, Ht, hS⟩ := hrel
    by_cases hlt : k < xs.length
    · obtain ⟨b1, o1, x, rfl, hb1, Hx, hc1⟩ := (h1.same hS).get (j := k) hlt
      obtain ⟨b2, o2, y, rfl, hb2, Hy, hc2⟩ := (h2.same hS).get (j := k) (by have := Hne.out; omega)
      have g0 : (0 : Int) ≤ (k : Int) := by omega
      have g1 : (k : Int) < (xs.length : Int) := by omega
      have g2 : (k : Int) < (ys.length : Int) := by have := Hne.out; omega
      by_cases hxy : x = y
      · subst hxy
        go_wp2
        go_quiet (fail)
        go_wp2
        go_roundw
        case rel => exact ⟨k + 1, by omega, by go_num, Lib.hid (by rw [List.take_add_one, List.take_add_one, Ht.out, Hx.out, Hy.out]), hS.drewN _⟩
        case measure => simp [intOf]; omega
      · have e : (xs == ys) = false := by
          rw [beq_eq_false_iff_ne]
          rintro rfl
          have := Hx.out.symm.trans Hy.out
          exact hxy (by simpa using this)
        have hd : (x != y) = true := by rw [bne_iff_ne]; exact hxy
        have He := Lib.hid e
        clear e hxy
        go_wp2
        go_quiet (fail)
        go_wp2
        go_ret
        exact ⟨by rw [He.out]; rfl, hS.drewN _⟩
    · have e : (xs == ys) = true := by
        have := Ht.out
        have := Hne.out
        rw [List.take_of_length_le (by omega), List.take_of_length_le (by omega)] at *
        simpa using ‹_ = _›
      have He := Lib.hid e
      clear e
      go_wp2
      go_ret
      exact ⟨by rw [He.out]; rfl, hS⟩
end Go.Proofs.YtapnnnciaagbdaaDoor
