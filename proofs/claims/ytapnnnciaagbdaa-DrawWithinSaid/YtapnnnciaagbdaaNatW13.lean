/- Walks: the reference's Quo. -/
import Derived.Test.YtapnnnciaagbdaaNatW12
namespace Go.Proofs.Ytapnnnciaagbdaa
open Go.RowKit
set_option linter.unusedVariables false
set_option linter.unusedSimpArgs false

theorem limbs_one : limbs 1 = [1] := by
  have := limbs_val [1] (Lim.mk (by decide) Lim.nil) (tight_of_right [1] (by decide))
  simpa [val] using this

theorem one_nums (w : World) : Nums .u32 (w.alloc (.cells #[.int .u32 1] 34)) (some ⟨w.heap.size, 0, none⟩) 1 1 [1] :=
  (Own.new w 34 .u32 [1]).nums (n := 1) (c := 1) rfl (Nat.le_refl _) (by omega)

/-- the loops of the reference's 'Quo' -/
def RQuoRel (w : World) (xs : List Nat) (b : Nat) (q r i : Value) (wr : World) : Prop :=
  ∃ (k : Nat) (A : Option Addr) (c : Nat) (A' : Option Addr) (c' : Nat) (qs rs : List Nat), i = .int .i64 ((k : Int) - 1) ∧ k ≤ 32 * xs.length ∧
    q = .slice A qs.length c ∧ Nums .u32 wr A qs.length c qs ∧ r = .slice A' rs.length c' ∧ Nums .u32 wr A' rs.length c' rs ∧
    Below w.heap.size w wr ∧ Hid (qs = limbs (val xs / 2 ^ k / b)) ∧ Hid (rs = limbs (val xs / 2 ^ k % b))
def RDblRel (w : World) (rs zs : List Nat) (bt : Nat) (c q : Value) (wr : World) : Prop :=
  ∃ j : Nat, j ≤ 33 ∧ q = .int .i64 (j : Int) ∧ c = .int .u64 ((twP rs bt j).2 : Int) ∧ Own wr w.heap.size 34 .u32 ((twP rs bt j).1 ++ zs.drop j) ∧ Below w.heap.size w wr

theorem dbl_done (rs : List Nat) (lr : Lim rs) (bt : Nat) (hb : bt ≤ 1) (hl : rs.length ≤ 32) (q : Nat) (hq : q = 33) : val (twP rs bt q).1 = 2 * val rs + bt := by
  subst hq
  have h := twP_val rs bt 33
  rw [List.take_of_length_le (by omega)] at h
  have h1 := val_lt rs lr
  have h2 : (4294967296 : Nat) ^ rs.length ≤ 4294967296 ^ 32 := Nat.pow_le_pow_right (by decide) hl
  have h3 : (4294967296 : Nat) ^ 33 = 4294967296 ^ 32 * 4294967296 := by rw [Nat.pow_succ]
  have h4 := twP_carry rs bt hb lr 33
  rw [h3] at h
  generalize (4294967296 : Nat) ^ 32 = B at *
  generalize (twP rs bt 33).2 = c at *
  have hc : c = 0 ∨ c = 1 := by omega
  rcases hc with rfl | rfl <;> omega

set_option maxHeartbeats 2000000 in
theorem ref_quo (A1 : Option Addr) (n c1 : Nat) (xs : List Nat) (A2 : Option Addr) (m c2 : Nat) (ys : List Nat) (w : World)
    (h1 : Nums .u32 w A1 n c1 xs) (h2 : Nums .u32 w A2 m c2 ys) (lx : Lim xs) (ly : Lim ys) :
    Calls Try.prog 44 #[.slice A1 n c1, .slice A2 m c2] w (RetQuo w (quoN xs ys)) := by
  obtain rfl := h1.len
  obtain rfl := h2.len
  by_cases r1 : rightB xs = true
  case neg =>
    have r1' : rightB xs = false := by simpa using r1
    have hfin : quoN xs ys = ([], [], 1) := by simp [quoN, r1']
    rw [hfin]
    clear hfin r1
    go_enter Try.func44, Try.ntmps44
    go_wp2_with (first
      | (go_at_call 31; (with_reducible refine (ref_right _ _ _ _ _ h1).mono ?_); rintro e w' ⟨rfl, rfl⟩)
      | (go_at_call 31; (with_reducible refine (ref_right _ _ _ _ _ h2).mono ?_); rintro e w' ⟨rfl, rfl⟩))
    go_ret3
    unfold RetQuo
    exact ⟨none, 0, none, 0, rfl, Nums.nil _ _ _ _ (by simp), Nums.nil _ _ _ _ (by simp), Below.refl _ _⟩
  by_cases r2 : rightB ys = true
  case neg =>
    have r2' : rightB ys = false := by simpa using r2
    have hfin : quoN xs ys = ([], [], 1) := by simp [quoN, r2']
    rw [hfin]
    clear hfin r2
    go_enter Try.func44, Try.ntmps44
    go_wp2_with (first
      | (go_at_call 31; (with_reducible refine (ref_right _ _ _ _ _ h1).mono ?_); rintro e w' ⟨rfl, rfl⟩)
      | (go_at_call 31; (with_reducible refine (ref_right _ _ _ _ _ h2).mono ?_); rintro e w' ⟨rfl, rfl⟩))
    go_ret3
    unfold RetQuo
    exact ⟨none, 0, none, 0, rfl, Nums.nil _ _ _ _ (by simp), Nums.nil _ _ _ _ (by simp), Below.refl _ _⟩
  by_cases hy0 : ys.length = 0
  · have hfin : quoN xs ys = ([], [], 1) := by simp [quoN, hy0]
    rw [hfin]
    clear hfin
    have hyi : ((ys.length : Int) == 0) = true := by simp [hy0]
    clear hy0
    go_enter Try.func44, Try.ntmps44
    go_wp2_with (first
      | (go_at_call 31; (with_reducible refine (ref_right _ _ _ _ _ h1).mono ?_); rintro e w' ⟨rfl, rfl⟩)
      | (go_at_call 31; (with_reducible refine (ref_right _ _ _ _ _ h2).mono ?_); rintro e w' ⟨rfl, rfl⟩))
    go_ret3
    unfold RetQuo
    exact ⟨none, 0, none, 0, rfl, Nums.nil _ _ _ _ (by simp), Nums.nil _ _ _ _ (by simp), Below.refl _ _⟩
  have hyi : ((ys.length : Int) == 0) = false := by rw [beq_eq_false_iff_ne]; omega
  have hn32 : xs.length ≤ 32 := right_len xs r1
  have hm32 : ys.length ≤ 32 := right_len ys r2
  have ty := tight_of_right ys r2
  have hypos : 0 < val ys := by
    rcases Nat.eq_zero_or_pos (val ys) with h | h
    · have := limbs_val ys ly ty
      rw [h, limbs_zero] at this
      rw [← this] at hy0
      simp at hy0
    · exact h
  have hmk := run_make_nums (P := Try.prog) 23 34 .u32 4 Try.underlying23 Try.info34 33 (by omega) (by omega)
  have hmk' : ∀ w : World, (Instr.makeSlice 23 (.int .i64 33) (.int .i64 33)).run Try.prog w = .ok (.slice (some ⟨w.heap.size, 0, none⟩) 33 33) (w.alloc (.cells (nums .u32 (List.replicate 33 0)).toArray 34)) := hmk
  clear hmk
  obtain ⟨zs, Hz33⟩ : ∃ zs, Hid (List.replicate 33 0 = zs) := ⟨_, Lib.hid rfl⟩
  rw [Hz33.out] at hmk'
  have Hzl : Hid (zs.length = 33) := Lib.hid (by rw [← Hz33.out]; simp)
  have hfin : quoN xs ys = (limbs (val xs / val ys), limbs (val xs % val ys), 0) := by simp [quoN, r1, r2, hy0]
  have Hvb := Lib.hid (limbs_of_right xs lx r1).2
  have hy32 : val ys < 4294967296 ^ 32 := Nat.lt_of_lt_of_le (val_lt ys ly) (Nat.pow_le_pow_right (by decide) hm32)
  have Hy32 := Lib.hid hy32
  rw [hfin]
  clear hfin hy32
  go_enter Try.func44, Try.ntmps44
  go_wp2_with (first
    | (go_at_call 31; (with_reducible refine (ref_right _ _ _ _ _ h1).mono ?_); rintro e w' ⟨rfl, rfl⟩)
    | (go_at_call 31; (with_reducible refine (ref_right _ _ _ _ _ h2).mono ?_); rintro e w' ⟨rfl, rfl⟩))
  go_loopw [7, 8, 9] (RQuoRel w xs (val ys)) (fun _ _ i _ => (intOf i + 1).toNat)
  case atStart =>
    have hz : val xs / 2 ^ (32 * xs.length) = 0 := Nat.div_eq_of_lt (by
      have := val_lt xs lx
      rwa [show (4294967296 : Nat) = 2 ^ 32 from rfl, ← Nat.pow_mul] at this)
    have e2 : [] = limbs (val xs / 2 ^ (32 * xs.length) / val ys) := by rw [hz, Nat.zero_div, limbs_zero]
    have e3 : [] = limbs (val xs / 2 ^ (32 * xs.length) % val ys) := by rw [hz, Nat.zero_mod, limbs_zero]
    exact ⟨32 * xs.length, none, 0, none, 0, [], [], by go_num, Nat.le_refl _, rfl, Nums.nil _ _ _ _ (by simp), rfl, Nums.nil _ _ _ _ (by simp), Below.refl _ _, Lib.hid e2, Lib.hid e3⟩
  case round =>
    obtain ⟨k, A, c, A', c', qs, rs, rfl, hk, rfl, hqn, rfl, hrn, hbel, Hqs, Hrs⟩ := hrel
    by_cases hk0 : 0 < k
    · obtain ⟨i, rfl⟩ : ∃ i, k = i + 1 := ⟨k - 1, by omega⟩
      clear hk0
      have hii : ((i + 1 : Nat) : Int) - 1 = (i : Int) := by omega
      rw [hii]
      clear hii
      have hin : i / 32 < xs.length := by omega
      have Hbo := Lib.hid (bit_of xs lx i)
      have Hst := Lib.hid (quo_step (val xs) (val ys) i hypos)
      obtain ⟨j, r, hij, hr⟩ : ∃ j r, i = 32 * j + r ∧ r < 32 := ⟨i / 32, i % 32, by omega, by omega⟩
      have hj : i / 32 = j := by omega
      have hr' : i % 32 = r := by omega
      rw [hj] at hin Hbo
      rw [hr'] at Hbo
      have hji : (i : Int) / 32 = (j : Int) := by omega
      have hri : (i : Int) % 32 = (r : Int) := by omega
      have Hij := Lib.hid hij
      clear hij hj hr'
      obtain ⟨b1, o1, u, rfl, hb1, Hu, hc1⟩ := (h1.below hbel).get (j := j) hin
      have hul := lx.of_get Hu.out
      have hpi : (2 : Int) ^ r = ((2 ^ r : Nat) : Int) := by simp
      have hzi : (u : Int) / ((2 ^ r : Nat) : Int) = ((u / 2 ^ r : Nat) : Int) := by simp
      have hgd := getD_of_get Hu.out
      have hbt1 : u / 2 ^ r % 2 = val xs / 2 ^ i % 2 := by have := Hbo.out; rwa [hgd] at this
      have hzl : u / 2 ^ r < 4294967296 := Nat.lt_of_le_of_lt (Nat.div_le_self _ _) hul
      have hbi : ((u / 2 ^ r : Nat) : Int) % 2 = ((u / 2 ^ r % 2 : Nat) : Int) := by omega
      have hbt2 : u / 2 ^ r % 2 ≤ 1 := by omega
      generalize u / 2 ^ r = z at *
      generalize hbt : z % 2 = bt at *
      have Hbt := Lib.hid hbt1
      clear hbt hbt1 hgd Hbo
      generalize hpw : (2 : Nat) ^ r = pw at *
      clear hpw
      have hvr : val rs = val xs / 2 ^ (i + 1) % val ys := by rw [Hrs.out, val_limbs]
      have lr : Lim rs := by rw [Hrs.out]; exact limbs_lim _
      have hrl : rs.length ≤ 32 := by
        rw [Hrs.out, limbs_len_le]
        exact Nat.lt_trans (Nat.mod_lt _ hypos) Hy32.out
      have hr2 := Hst.out
      have hzl2 : (limbs (2 * val rs + bt)).length ≤ 33 := by
        have hy32 := Hy32.out
        rw [limbs_len_le, Nat.pow_succ]
        have : val rs < val ys := by rw [hvr]; exact Nat.mod_lt _ hypos
        generalize (4294967296 : Nat) ^ 32 = B at *
        omega
      have Hvr := Lib.hid hvr
      simp only [] at hr2
      rw [← Hbt.out, ← Hvr.out] at hr2
      have Hr2 := Lib.hid hr2
      clear hr2 Hst hvr
      obtain ⟨wo, rfl⟩ : ∃ wo : World, wo = wr := ⟨_, rfl⟩
      go_wp2
      go_loopw [12, 13] (RDblRel wo rs zs bt) (fun _ q _ => (33 - intOf q).toNat)
      case atStart => exact ⟨0, Nat.zero_le _, rfl, congrArg _ hbi, by simpa [twP] using Own.new wo 34 .u32 zs, (Below.refl _ _).alloc (Nat.le_refl _) _⟩
      case round =>
        clear hc1 hmk' hpi hzi hbi hji hri
        obtain ⟨q, hq, rfl, rfl, hown, hbel2⟩ := hrel
        have hcar := twP_carry rs bt hbt2 lr q
        have Hpl := Lib.hid (twP_len rs bt q)
        by_cases hlt2 : q < 33
        · have hyl := lr.getD q
          obtain ⟨y, Hy⟩ : ∃ y, Hid (rs.getD q 0 = y) := ⟨_, Lib.hid rfl⟩
          have hl := ref_limb A' rs.length c' rs q wr (hrn.below hbel2) lr
          rw [Hy.out] at hl hyl
          have Hl := Lib.hid hl
          obtain ⟨v, Hv, hcv⟩ := hown.cell (i := q) (by rw [List.length_append, Hpl.out, List.length_drop, Hzl.out]; omega)
          have hfro := hown.frozen q
          clear hl
          go_wp2_with (go_at_call 50; (with_reducible refine Hl.out.mono ?_); rintro e w' ⟨rfl, rfl⟩)
          go_roundw
          case rel =>
            refine ⟨q + 1, by omega, by go_num, ?_, ?_, hbel2.setCell (by simp) _⟩
            · simp only [twP, Hy.out]
              go_num
            · have := hown.set_ q ((2 * y + (twP rs bt q).2) % 4294967296)
              rw [buf_step2 _ zs q _ Hpl.out (by rw [Hzl.out]; exact hlt2)] at this
              simp only [twP, Hy.out]
              simpa using this
          case measure => simp [intOf]; omega
        · have hq33 : q = 33 := by omega
          rw [List.drop_eq_nil_of_le (by rw [Hzl.out]; omega), List.append_nil] at hown
          have hnums := hown.nums (n := 33) (c := 33) (by rw [Hpl.out]; exact hq33) (Nat.le_refl _) (by omega)
          have Hfin := Lib.hid (neatL_limbs _ (twP_lim rs bt q))
          rw [dbl_done rs lr bt hbt2 hrl q hq33] at Hfin
          have hqv : qs = limbs (val xs / 2 ^ (i + 1) / val ys) := Hqs.out
          have Hab : Hid (val xs / 2 ^ (i + 1) / val ys < big) := Lib.hid (by
            have h1 := Hvb.out
            have h2 := Nat.div_le_self (val xs) (2 ^ (i + 1))
            have h3 := Nat.div_le_self (val xs / 2 ^ (i + 1)) (val ys)
            omega)
          have Hib : Hid (val xs / 2 ^ i / val ys < big) := Lib.hid (by
            have h1 := Hvb.out
            have h2 := Nat.div_le_self (val xs) (2 ^ i)
            have h3 := Nat.div_le_self (val xs / 2 ^ i) (val ys)
            omega)
          clear Hqs
          generalize hq0 : val xs / 2 ^ (i + 1) / val ys = q0 at *
          clear hq0
          subst hqv
          have hbw : Below w.heap.size w wr := hbel.trans (hbel2.mono hbel.size)
          have hqw := hqn.below hbel2
          have hbsz := hbw.size
          have Hls := Lib.hid hzl2
          have Hyl : Hid (ys.length ≤ 33) := Lib.hid (by omega)
          have lys := Lib.hid ly
          clear hown Hpl hcar hq33 hrn hqn hzl2
          generalize hp : (twP rs bt q).1 = ps at *
          clear hp
          by_cases hok : val ys ≤ 2 * val rs + bt
          · have hc1 : decide (cmpI (2 * val rs + bt) (val ys) = -1) = false := by
              unfold cmpI
              rw [if_neg (by omega)]
              split <;> rfl
            have hr := Hr2.out.1 hok
            have Hr := Lib.hid hr
            have Hok := Lib.hid hok
            have hf1 : fitN (q0 + q0) = (limbs (q0 + q0), 0) := fitN_ok (by have := Hib.out; rw [hr.2] at this; omega)
            have hf2 : fitN (q0 + q0 + 1) = (limbs (q0 + q0 + 1), 0) := fitN_ok (by have := Hib.out; rw [hr.2] at this; omega)
            have Hbq : Hid (q0 + q0 < big) := Lib.hid (by have := Hib.out; rw [hr.2] at this; omega)
            have Hf1 := Lib.hid hf1
            have Hf2 := Lib.hid hf2
            clear hf1 hf2 hr hok Hr2
            generalize hv2 : 2 * val rs + bt = v2 at *
            clear hv2
            have hadd : ∀ w' A c A' c', Nums .u32 w' A (limbs q0).length c (limbs q0) → Nums .u32 w' A' (limbs q0).length c' (limbs q0) → Calls Try.prog 26 #[.slice A (limbs q0).length c, .slice A' (limbs q0).length c'] w' (RetNat w' (limbs (q0 + q0), 0)) := by
              intro w' A c A' c' ha hb
              have := ref_add_l A c q0 A' c' q0 w' ha hb Hab.out Hab.out
              rwa [Hf1.out] at this
            have hadd1 : ∀ w' A c A' c', Nums .u32 w' A (limbs (q0 + q0)).length c (limbs (q0 + q0)) → Nums .u32 w' A' 1 c' [1] → Calls Try.prog 26 #[.slice A (limbs (q0 + q0)).length c, .slice A' 1 c'] w' (RetNat w' (limbs (q0 + q0 + 1), 0)) := by
              intro w' A c A' c' ha hb
              have e := limbs_one
              have hb' : Nums .u32 w' A' (limbs 1).length c' (limbs 1) := by rw [e]; exact hb
              have := ref_add_l A c (q0 + q0) A' c' 1 w' ha hb' Hbq.out (small_big 1 (by decide))
              rw [Hf2.out, e] at this
              exact this
            have Hadd := Lib.hid hadd
            have Hadd1 := Lib.hid hadd1
            clear hadd hadd1
            go_wp2_with (first
              | (go_at_call 51; (with_reducible refine (ref_neat _ _ _ _ _ hnums).mono ?_); rintro e w' ⟨rfl, hN, rfl⟩; rw [Hfin.out] at hN ⊢)
              | (go_at_call 65; (with_reducible refine (ref_below _ _ _ _ _ _ _ _ _ (hN.below hB1) ((h2.below hbw).below hB1) (limbs_lim _) lys.out Hls.out Hyl.out).mono ?_); rintro e w' ⟨rfl, rfl⟩; rw [val_limbs, hc1])
              | (go_at_call 66; (with_reducible refine (ref_less _ _ _ _ _ _ _ _ _ (hN.below hB1) ((h2.below hbw).below hB1) (limbs_lim _) lys.out Hls.out Hyl.out (by rw [val_limbs]; exact Hok.out)).mono ?_); rintro e w3 ⟨A5, c5, rfl, hl5, hB3⟩; rw [val_limbs] at hl5 ⊢)
              | (go_at_call 26; (with_reducible refine (Hadd.out _ _ _ _ _ hqw hqw).mono ?_); rintro e w1 ⟨A4, c4, rfl, hq4, hB1⟩)
              | (go_at_call 26; (with_reducible refine (Hadd1.out _ _ _ _ _ ((hq4.below hB3).below ((Below.refl _ _).alloc (Nat.le_refl _) _)) (one_nums w3)).mono ?_); rintro e w6 ⟨A6, c6, rfl, hq6, hB6⟩))
            have hBa : Below w3.heap.size w3 (w3.alloc (.cells #[.int .u32 1] 34)) := (Below.refl _ _).alloc (Nat.le_refl _) _
            have hBw := below_tail (below_tail (below_tail (below_tail hbw hB1) hB3) hBa) hB6
            go_roundw
            case rel =>
              obtain ⟨e1, e2⟩ := Hr.out
              refine ⟨i, A6, c6, A5, c5, limbs (q0 + q0 + 1), limbs (v2 - val ys), by go_num, by omega, rfl, hq6, rfl, (hl5.below hBa).below hB6, hBw, Lib.hid ?_, Lib.hid ?_⟩
              · rw [e2, Nat.two_mul]
              · rw [e1]
            case measure => simp [intOf] <;> omega
          · have hc1 : decide (cmpI (2 * val rs + bt) (val ys) = -1) = true := by
              unfold cmpI
              rw [if_pos (by omega)]
              rfl
            have hr := Hr2.out.2 (by omega)
            have Hr := Lib.hid hr
            have hf1 : fitN (q0 + q0) = (limbs (q0 + q0), 0) := fitN_ok (by have := Hib.out; rw [hr.2] at this; omega)
            have Hf1 := Lib.hid hf1
            clear hf1 hr hok Hr2
            generalize hv2 : 2 * val rs + bt = v2 at *
            clear hv2
            have hadd : ∀ w' A c A' c', Nums .u32 w' A (limbs q0).length c (limbs q0) → Nums .u32 w' A' (limbs q0).length c' (limbs q0) → Calls Try.prog 26 #[.slice A (limbs q0).length c, .slice A' (limbs q0).length c'] w' (RetNat w' (limbs (q0 + q0), 0)) := by
              intro w' A c A' c' ha hb
              have := ref_add_l A c q0 A' c' q0 w' ha hb Hab.out Hab.out
              rwa [Hf1.out] at this
            have Hadd := Lib.hid hadd
            clear hadd
            go_wp2_with (first
              | (go_at_call 51; (with_reducible refine (ref_neat _ _ _ _ _ hnums).mono ?_); rintro e w' ⟨rfl, hN, rfl⟩; rw [Hfin.out] at hN ⊢)
              | (go_at_call 65; (with_reducible refine (ref_below _ _ _ _ _ _ _ _ _ (hN.below hB1) ((h2.below hbw).below hB1) (limbs_lim _) lys.out Hls.out Hyl.out).mono ?_); rintro e w' ⟨rfl, rfl⟩; rw [val_limbs, hc1])
              | (go_at_call 26; (with_reducible refine (Hadd.out _ _ _ _ _ hqw hqw).mono ?_); rintro e w1 ⟨A4, c4, rfl, hq4, hB1⟩))
            have hBw := below_tail hbw hB1
            go_roundw
            case rel =>
              obtain ⟨e1, e2⟩ := Hr.out
              refine ⟨i, A4, c4, _, 33, limbs (q0 + q0), limbs v2, by go_num, by omega, rfl, hq4, rfl, hN.below hB1, hBw, Lib.hid ?_, Lib.hid ?_⟩
              · rw [e2, Nat.two_mul]
              · rw [e1]
            case measure => simp [intOf] <;> omega
    · obtain rfl : k = 0 := by omega
      have hqv := Hqs.out
      rw [Nat.pow_zero, Nat.div_one] at hqv
      have hrv := Hrs.out
      rw [Nat.pow_zero, Nat.div_one] at hrv
      have Hqv := Lib.hid hqv
      have Hrv := Lib.hid hrv
      clear hqv hrv
      go_wp2
      go_ret3
      rw [← Hqv.out, ← Hrv.out]
      unfold RetQuo
      exact ⟨_, _, _, _, rfl, hqn, hrn, hbel⟩
end Go.Proofs.Ytapnnnciaagbdaa
