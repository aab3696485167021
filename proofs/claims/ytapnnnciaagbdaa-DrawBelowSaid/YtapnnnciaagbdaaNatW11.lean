/- Walks: nat's Quo. -/
import Derived.Test.YtapnnnciaagbdaaNatW10
namespace Go.Proofs.Ytapnnnciaagbdaa
open Go.RowKit
set_option linter.unusedVariables false
set_option linter.unusedSimpArgs false

theorem zz_lim (n : Nat) : Lim (List.replicate n 0) := fun x hx => by
  have := List.eq_of_mem_replicate hx
  omega
theorem zz_val (n : Nat) : val (List.replicate n 0) = 0 := by
  induction n with
  | zero => rfl
  | succ n ih => simp [List.replicate_succ, val, ih]
theorem bitLen_lt (v : Nat) : v < 2 ^ bitLen v := by
  unfold bitLen
  split
  · omega
  · exact Nat.lt_log2_self
theorem bitLen_le (v k : Nat) (hk : k < bitLen v) : 2 ^ k ≤ v := by
  unfold bitLen at hk
  split at hk
  · omega
  · rename_i h
    exact Nat.le_trans (Nat.pow_le_pow_right (by decide) (by omega)) (Nat.log2_self_le h)
theorem bit_in (xs : List Nat) (lx : Lim xs) (k : Nat) (hk : k < bitLen (val xs)) : k / 32 < xs.length := by
  rcases Nat.lt_or_ge (k / 32) xs.length with h | h
  · exact h
  · have h1 := bitLen_le _ _ hk
    have h2 := val_lt _ lx
    have h3 : (4294967296 : Nat) ^ xs.length = 2 ^ (32 * xs.length) := by rw [Nat.pow_mul]
    have h4 : 2 ^ (32 * xs.length) ≤ 2 ^ k := Nat.pow_le_pow_right (by decide) (by omega)
    omega

theorem own_cell {w : World} {g : Nat} {t : TypeId} {k : IntKind} {zs : List Nat} (h : Own w g t k zs) {i x : Nat} (hi : zs[i]? = some x) : w.cell? ⟨g, i, none⟩ = some (.int k (x : Int)) := by
  obtain ⟨y, Hy, hc⟩ := h.cell (i := i) (by rcases Nat.lt_or_ge i zs.length with h | h; exact h; rw [List.getElem?_eq_none h] at hi; cases hi)
  have := Hy.out
  rw [hi] at this
  injection this with this
  rw [this]; exact hc

/-- what 'take' gives, in numbers -/
@[irreducible] def RetTk (w : World) (a b : Nat) (e : Ending) (w' : World) : Prop :=
  ∃ (A : Option Addr) (c : Nat) (zs : List Nat), e = .returned (.tuple #[.slice A zs.length c, .bool (decide (b ≤ a))]) ∧
    Nums .u32 w' A zs.length c zs ∧ Below w.heap.size w w' ∧ (∀ b off, A = some ⟨b, off, none⟩ → w.heap.size ≤ b) ∧ Hid (b ≤ a → zs = limbs (a - b))

theorem nat_tk (A1 : Option Addr) (n c1 : Nat) (xs : List Nat) (A2 : Option Addr) (m c2 : Nat) (ys : List Nat) (w : World)
    (h1 : Nums .u32 w A1 n c1 xs) (h2 : Nums .u32 w A2 m c2 ys) (lx : Lim xs) (ly : Lim ys) (ty : Tight ys) (hn : n ≤ 1000) :
    Calls Try.prog 64 #[.slice A1 n c1, .slice A2 m c2] w (RetTk w (val xs) (val ys)) := by
  refine (nat_take _ _ _ _ _ _ _ _ _ h1 h2 lx ly hn).mono ?_
  intro e w' h
  unfold RetTake at h
  unfold RetTk
  obtain ⟨A, c, rfl, hN, hb, hf⟩ := h
  refine ⟨A, c, _, ?_, hN, hb, hf, ?_⟩
  · have hd : decide ((subP xs ys xs.length).2 = 0 ∧ ys.length ≤ xs.length) = decide (val ys ≤ val xs) := ?_
    · rw [hd]
    rw [decide_eq_decide]
    by_cases hl : ys.length ≤ xs.length
    · rw [subP_less xs ys lx ly _ (Nat.le_refl _) hl]
      split <;> omega
    · have := val_lt_of_len xs ys lx ly ty (by omega)
      constructor
      · intro h; omega
      · intro h; omega
  · refine Lib.hid fun hle => ?_
    have hl : ys.length ≤ xs.length := by
      rcases Nat.lt_or_ge xs.length ys.length with h | h
      · have := val_lt_of_len xs ys lx ly ty h
        omega
      · exact h
    rw [neatL_limbs _ (subP_lim xs ys _), subP_eq xs ys lx ly _ (Nat.le_refl _) hl hle]

/-- a quotient, what is left, and an error's number come back -/
@[irreducible] def RetQuo (w : World) (p : List Nat × List Nat × Nat) (e : Ending) (w' : World) : Prop :=
  ∃ A c A' c', e = .returned (.tuple #[.slice A p.1.length c, .slice A' p.2.1.length c', .int .i64 (p.2.2 : Int)]) ∧ Nums .u32 w' A p.1.length c p.1 ∧ Nums .u32 w' A' p.2.1.length c' p.2.1 ∧ Below w.heap.size w w'

/-- the loop of 'Quo' -/
def QuoRel (w : World) (xs : List Nat) (b : Nat) (r i : Value) (wr : World) : Prop :=
  ∃ (k : Nat) (A : Option Addr) (c : Nat) (qs rs : List Nat), i = .int .i64 ((k : Int) - 1) ∧ k ≤ bitLen (val xs) ∧ r = .slice A rs.length c ∧ Nums .u32 wr A rs.length c rs ∧
    (∀ b off, A = some ⟨b, off, none⟩ → w.heap.size < b) ∧ Own wr w.heap.size 34 .u32 qs ∧ Below w.heap.size w wr ∧
    Hid (qs.length = xs.length) ∧ Lim qs ∧ Hid (val qs = val xs / 2 ^ k / b * 2 ^ k) ∧ Hid (rs = limbs (val xs / 2 ^ k % b))

theorem shr_hand (u r : Nat) (hr : r < 32) : Op.shift .shr .u32 (u : Int) .i64 (r : Int) = pure (.int .u32 ((u / 2 ^ r : Nat) : Int)) := by
  rw [shift_shr _ _ _ _ (by omega) (by show (r : Int) ≤ 32; omega)]
  simp
theorem shl_hand (r : Nat) (hr : r < 32) : Op.shift .shl .u32 1 .i64 (r : Int) = pure (.int .u32 ((2 ^ r : Nat) : Int)) := by
  rw [shift_shl _ _ _ _ (by omega) (by show (r : Int) ≤ 32; omega)]
  have h : (2 : Nat) ^ r < 4294967296 := by
    have := Nat.pow_lt_pow_right (a := 2) (by decide) hr
    simpa using this
  have e : (1 : Int) * 2 ^ (r : Int).toNat = ((2 ^ r : Nat) : Int) := by simp
  rw [e, IntKind.wrap_u32]
  generalize (2 : Nat) ^ r = z at *
  clear e
  have : (z : Int) % 4294967296 = (z : Int) := by omega
  rw [this]

set_option maxHeartbeats 1000000 in
theorem nat_quo (A1 : Option Addr) (n c1 : Nat) (xs : List Nat) (A2 : Option Addr) (m c2 : Nat) (ys : List Nat) (w : World)
    (h1 : Nums .u32 w A1 n c1 xs) (h2 : Nums .u32 w A2 m c2 ys) (lx : Lim xs) (ly : Lim ys) :
    Calls Try.prog 43 #[.slice A1 n c1, .slice A2 m c2] w (RetQuo w (quoN xs ys)) := by
  obtain rfl := h1.len
  obtain rfl := h2.len
  by_cases r1 : rightB xs = true
  case neg =>
    have r1' : rightB xs = false := by simpa using r1
    have hfin : quoN xs ys = ([], [], 1) := by simp [quoN, r1']
    rw [hfin]
    clear hfin r1
    go_enter Try.func43, Try.ntmps43
    go_wp2_with (first
      | (go_at_call 30; (with_reducible refine (nat_right _ _ _ _ _ h1).mono ?_); rintro e w' ⟨rfl, rfl⟩)
      | (go_at_call 30; (with_reducible refine (nat_right _ _ _ _ _ h2).mono ?_); rintro e w' ⟨rfl, rfl⟩))
    go_ret3
    unfold RetQuo
    exact ⟨none, 0, none, 0, rfl, Nums.nil _ _ _ _ (by simp), Nums.nil _ _ _ _ (by simp), Below.refl _ _⟩
  by_cases r2 : rightB ys = true
  case neg =>
    have r2' : rightB ys = false := by simpa using r2
    have hfin : quoN xs ys = ([], [], 1) := by simp [quoN, r2']
    rw [hfin]
    clear hfin r2
    go_enter Try.func43, Try.ntmps43
    go_wp2_with (first
      | (go_at_call 30; (with_reducible refine (nat_right _ _ _ _ _ h1).mono ?_); rintro e w' ⟨rfl, rfl⟩)
      | (go_at_call 30; (with_reducible refine (nat_right _ _ _ _ _ h2).mono ?_); rintro e w' ⟨rfl, rfl⟩))
    go_ret3
    unfold RetQuo
    exact ⟨none, 0, none, 0, rfl, Nums.nil _ _ _ _ (by simp), Nums.nil _ _ _ _ (by simp), Below.refl _ _⟩
  by_cases hy0 : ys.length = 0
  · have hfin : quoN xs ys = ([], [], 1) := by simp [quoN, hy0]
    rw [hfin]
    clear hfin
    have hyi : ((ys.length : Int) == 0) = true := by simp [hy0]
    clear hy0
    go_enter Try.func43, Try.ntmps43
    go_wp2_with (first
      | (go_at_call 30; (with_reducible refine (nat_right _ _ _ _ _ h1).mono ?_); rintro e w' ⟨rfl, rfl⟩)
      | (go_at_call 30; (with_reducible refine (nat_right _ _ _ _ _ h2).mono ?_); rintro e w' ⟨rfl, rfl⟩))
    go_ret3
    unfold RetQuo
    exact ⟨none, 0, none, 0, rfl, Nums.nil _ _ _ _ (by simp), Nums.nil _ _ _ _ (by simp), Below.refl _ _⟩
  have hyi : ((ys.length : Int) == 0) = false := by rw [beq_eq_false_iff_ne]; omega
  have hn32 : xs.length ≤ 32 := by simp [rightB] at r1; omega
  have ty := tight_of_right ys r2
  have hypos : 0 < val ys := by
    rcases Nat.eq_zero_or_pos (val ys) with h | h
    · have := limbs_val ys ly ty
      rw [h, limbs_zero] at this
      rw [← this] at hy0
      simp at hy0
    · exact h
  have hmk' := run_make_nums (P := Try.prog) 23 34 .u32 4 Try.underlying23 Try.info34 xs.length (by omega) (by omega)
  have hfin : quoN xs ys = (limbs (val xs / val ys), limbs (val xs % val ys), 0) := by simp [quoN, r1, r2, hy0]
  have hbn : bitsN xs = bitLen (val xs) := by simp [bitsN, r1]
  have hbl : bitLen (val xs) ≤ 1024 := by
    rcases Nat.lt_or_ge 1024 (bitLen (val xs)) with h | h
    · have := bit_in xs lx 1024 h
      omega
    · exact h
  rw [hfin]
  have Hbn := Lib.hid hbn
  clear hfin hbn
  go_enter Try.func43, Try.ntmps43
  go_wp2_with (first
    | (go_at_call 30; (with_reducible refine (nat_right _ _ _ _ _ h1).mono ?_); rintro e w' ⟨rfl, rfl⟩)
    | (go_at_call 30; (with_reducible refine (nat_right _ _ _ _ _ h2).mono ?_); rintro e w' ⟨rfl, rfl⟩)
    | (go_at_call 34; (with_reducible refine (nat_bits _ _ _ _ _ (h1.below ((Below.refl _ _).alloc (Nat.le_refl _) _)) lx).mono ?_); rintro e w' ⟨rfl, rfl⟩; rw [Hbn.out]))
  go_loopw [8, 9] (QuoRel w xs (val ys)) (fun _ i _ => (intOf i + 1).toNat)
  case atStart =>
    have hz : val xs / 2 ^ bitLen (val xs) = 0 := Nat.div_eq_of_lt (bitLen_lt _)
    have e1 : (List.replicate xs.length 0).length = xs.length := by simp
    have e2 : val (List.replicate xs.length 0) = val xs / 2 ^ bitLen (val xs) / val ys * 2 ^ bitLen (val xs) := by rw [hz, zz_val]; simp
    have e3 : [] = limbs (val xs / 2 ^ bitLen (val xs) % val ys) := by rw [hz, Nat.zero_mod, limbs_zero]
    exact ⟨bitLen (val xs), none, 0, List.replicate xs.length 0, [], rfl, Nat.le_refl _, rfl, Nums.nil _ _ _ _ (by simp), (fun _ _ h => by cases h), Own.new w 34 .u32 (List.replicate xs.length 0), (Below.refl _ _).alloc (Nat.le_refl _) _,
      Lib.hid e1, zz_lim _, Lib.hid e2, Lib.hid e3⟩
  case round =>
    clear hmk'
    obtain ⟨k, A, c, qs, rs, rfl, hk, rfl, hrs, hfr, hown, hbel, Hql, lq, Hqv, Hrs⟩ := hrel
    have hqs := hown.lt
    by_cases hk0 : 0 < k
    · obtain ⟨i, rfl⟩ : ∃ i, k = i + 1 := ⟨k - 1, by omega⟩
      clear hk0
      have hii : ((i + 1 : Nat) : Int) - 1 = (i : Int) := by omega
      rw [hii]
      clear hii
      have hin := bit_in xs lx i (by omega)
      have Hbo := Lib.hid (bit_of xs lx i)
      have Hst := Lib.hid (quo_step (val xs) (val ys) i hypos)
      obtain ⟨j, r, hij, hr⟩ : ∃ j r, i = 32 * j + r ∧ r < 32 := ⟨i / 32, i % 32, by omega, by omega⟩
      have hj : i / 32 = j := by omega
      have hr' : i % 32 = r := by omega
      rw [hj] at hin Hbo
      rw [hr'] at Hbo
      have hji : (i : Int) / 32 = (j : Int) := by omega
      have hri : (i : Int) % 32 = (r : Int) := by omega
      have Hij := Lib.hid hij
      have Hj := Lib.hid hj
      have Hr := Lib.hid hr'
      clear hij hj hr'
      obtain ⟨b1, o1, u, rfl, hb1, Hu, hc1⟩ := (h1.below hbel).get (j := j) hin
      have hul := lx.of_get Hu.out
      have hpi : (2 : Int) ^ r = ((2 ^ r : Nat) : Int) := by simp
      have hzi : (u : Int) / ((2 ^ r : Nat) : Int) = ((u / 2 ^ r : Nat) : Int) := by simp
      have hgd := getD_of_get Hu.out
      have hbt1 : u / 2 ^ r % 2 = val xs / 2 ^ i % 2 := by have := Hbo.out; rwa [hgd] at this
      have hzl : u / 2 ^ r < 4294967296 := Nat.lt_of_le_of_lt (Nat.div_le_self _ _) hul
      have hand : bits .and .u32 ((u / 2 ^ r : Nat) : Int) 1 = ((u / 2 ^ r % 2 : Nat) : Int) := by
        have := u32_and_nat (u / 2 ^ r) 1 hzl (by decide)
        rw [show ((1 : Nat) : Int) = 1 from rfl] at this
        rw [this, Nat.and_one_is_mod]
      have hbt2 : u / 2 ^ r % 2 ≤ 1 := by omega
      generalize u / 2 ^ r = z at *
      generalize hbt : z % 2 = bt at *
      have Hbt := Lib.hid hbt1
      clear hbt hbt1 hgd Hbo
      have hvr : val rs = val xs / 2 ^ (i + 1) % val ys := by rw [Hrs.out, val_limbs]
      have lr : Lim rs := by rw [Hrs.out]; exact limbs_lim _
      have hy32 : val ys < 4294967296 ^ 32 := by
        have h1 := val_lt ys ly
        have h2 : ys.length ≤ 32 := by simp [rightB] at r2; omega
        exact Nat.lt_of_lt_of_le h1 (Nat.pow_le_pow_right (by decide) h2)
      have hrl : rs.length ≤ 32 := by
        rw [Hrs.out, limbs_len_le]
        exact Nat.lt_trans (Nat.mod_lt _ hypos) hy32
      have hr2 := Hst.out
      have hzl2 : (limbs (2 * val rs + bt)).length ≤ 33 := by
        rw [limbs_len_le, Nat.pow_succ]
        have : val rs < val ys := by rw [hvr]; exact Nat.mod_lt _ hypos
        generalize (4294967296 : Nat) ^ 32 = B at *
        omega
      have Hvr := Lib.hid hvr
      simp only [] at hr2
      rw [← Hbt.out, ← Hvr.out] at hr2
      have Hr2 := Lib.hid hr2
      clear hr2 Hst hvr hy32
      obtain ⟨q0, Hq0⟩ : ∃ q0, Hid (qs[j]? = some q0) := ⟨_, Lib.hid (List.getElem?_eq_getElem (by rw [Hql.out]; exact hin))⟩
      have hsb := set_bit qs lq i (by rw [Hj.out, Hql.out]; exact hin) _ Hqv.out
      rw [Hj.out, Hr.out, getD_of_get Hq0.out] at hsb
      obtain ⟨sb1, sb2, sb3⟩ := hsb
      have hql := lq.of_get Hq0.out
      have hp32 : 2 ^ r < 4294967296 := by
        have := Nat.pow_lt_pow_right (a := 2) (by decide) hr
        simpa using this
      have hor : bits .or .u32 (q0 : Int) ((2 ^ r : Nat) : Int) = ((q0 + 2 ^ r : Nat) : Int) := by
        rw [u32_or_nat _ _ hql hp32, sb1]
      generalize hpw : (2 : Nat) ^ r = pw at *
      have Hsb := Lib.hid sb3
      clear hpw sb1 sb3
      have hwp : IntKind.u32.wrap (pw : Int) = (pw : Int) := by rw [IntKind.wrap_u32]; omega
      have b1 : (0 : Int) ≤ (j : Int) := by omega
      have b2 : (j : Int) < (xs.length : Int) := by omega
      by_cases hok : val ys ≤ 2 * val rs + bt
      · have hdec : decide (val ys ≤ 2 * val rs + bt) = true := by simpa using hok
        have Hok := Lib.hid (Hr2.out.1 hok)
        have Hok' := Lib.hid hok
        clear hok Hr2
        generalize hv2 : 2 * val rs + bt = v2 at *
        have Hv2 := Lib.hid hv2
        clear hv2
        go_wp2_with (first
          | (go_at_call 63; (with_reducible refine (nat_twice _ _ _ _ bt _ hrs lr hbt2 (by omega)).mono ?_); intro e w1 hR; unfold RetNew at hR; rw [Hv2.out] at hR; obtain ⟨A1, c3, rfl, hz1, hB1, hf1⟩ := hR)
          | (go_at_call 64; (with_reducible refine (nat_tk _ _ _ _ _ _ _ _ _ hz1 ((h2.below hbel).below hB1) (limbs_lim _) ly ty (by omega)).mono ?_); intro e w2 hR; unfold RetTk at hR; rw [val_limbs, hdec] at hR; obtain ⟨A2, c4, ts, rfl, ht, hB2, hf2, Hts⟩ := hR))
        have hown2 := (hown.below hB1 hqs).below hB2 (Nat.lt_of_lt_of_le hqs hB1.size)
        have hcq := own_cell hown2 Hq0.out
        have hfro := hown2.frozen j
        have hbs1 := hbel.size
        have hbs2 := hB1.size
        have hB := (hbel.trans (hB1.mono hbs1)).trans (hB2.mono (Nat.le_trans hbs1 hbs2))
        go_region
        go_wp2
        go_roundw
        case rel =>
          obtain ⟨ok1, ok2⟩ := Hok.out
          have hfar := nums_far ht (B := w.heap.size) (fun b off h => by have := hf2 b off h; omega) j (.int .u32 ((q0 + pw : Nat) : Int))
          have hset := hown2.set_ j (q0 + pw)
          refine ⟨i, A2, c4, qs.set j (q0 + pw), ts, by go_num, by omega, rfl, hfar.drew, fun b off h => ?_, hset.drew, (hB.setCell (by simp) _).drew, Lib.hid (by rw [List.length_set]; exact Hql.out), ?_, Lib.hid ?_, Lib.hid ?_⟩
          · have := hf2 b off h; omega
          · intro v hv
            rcases List.mem_or_eq_of_mem_set hv with h | h
            · exact lq v h
            · omega
          · rw [Hsb.out, Hqv.out, ok2, Nat.pow_succ, Nat.add_mul, Nat.one_mul, ← Nat.mul_assoc, Nat.mul_comm _ 2, Nat.mul_assoc]
          · rw [Hts.out Hok'.out, ok1]
        case measure => simp [intOf] <;> omega
      · have hdec : decide (val ys ≤ 2 * val rs + bt) = false := by simpa using hok
        have Hok := Lib.hid (Hr2.out.2 (by omega))
        clear hok Hr2
        generalize hv2 : 2 * val rs + bt = v2 at *
        have Hv2 := Lib.hid hv2
        clear hv2
        go_wp2_with (first
          | (go_at_call 63; (with_reducible refine (nat_twice _ _ _ _ bt _ hrs lr hbt2 (by omega)).mono ?_); intro e w1 hR; unfold RetNew at hR; rw [Hv2.out] at hR; obtain ⟨A1, c3, rfl, hz1, hB1, hf1⟩ := hR)
          | (go_at_call 64; (with_reducible refine (nat_tk _ _ _ _ _ _ _ _ _ hz1 ((h2.below hbel).below hB1) (limbs_lim _) ly ty (by omega)).mono ?_); intro e w2 hR; unfold RetTk at hR; rw [val_limbs, hdec] at hR; obtain ⟨A2, c4, ts, rfl, ht, hB2, hf2, Hts⟩ := hR))
        have hown2 := (hown.below hB1 hqs).below hB2 (Nat.lt_of_lt_of_le hqs hB1.size)
        have hbs1 := hbel.size
        have hbs2 := hB1.size
        have hB := (hbel.trans (hB1.mono hbs1)).trans (hB2.mono (Nat.le_trans hbs1 hbs2))
        go_roundw
        case rel =>
          obtain ⟨ok1, ok2⟩ := Hok.out
          refine ⟨i, A1, c3, qs, limbs v2, by go_num, by omega, rfl, hz1.below hB2, fun b off h => ?_, hown2, hB, Hql, lq, Lib.hid ?_, Lib.hid ?_⟩
          · have := hf1 b off h; omega
          · rw [Hqv.out, ok2, Nat.pow_succ, ← Nat.mul_assoc, Nat.mul_comm _ 2, Nat.mul_assoc]
          · rw [ok1]
        case measure => simp [intOf] <;> omega
    · obtain rfl : k = 0 := by omega
      have hnums := hown.nums (n := xs.length) (c := xs.length) Hql.out (Nat.le_refl _) (by omega)
      have Hfin := Lib.hid (neatL_limbs _ lq)
      have hqv := Hqv.out
      rw [Nat.pow_zero, Nat.div_one, Nat.mul_one] at hqv
      rw [hqv] at Hfin
      have hrv := Hrs.out
      rw [Nat.pow_zero, Nat.div_one] at hrv
      have Hrv := Lib.hid hrv
      clear hqv hrv
      go_wp2_with (go_at_call 57; (with_reducible refine (nat_neat _ _ _ _ _ hnums).mono ?_); rintro e w' ⟨rfl, hN, rfl⟩)
      go_ret3
      rw [Hfin.out] at hN ⊢
      rw [← Hrv.out]
      unfold RetQuo
      exact ⟨_, _, _, _, rfl, hN, hrs, hbel⟩
end Go.Proofs.Ytapnnnciaagbdaa
