/- place: of a byte of a text. -/
import Derived.Test.YtcmfflfgegadjaaDoorPlW2
namespace Go.Proofs.YtcmfflfgegadjaaDoor
open Go.RowKit
set_option linter.unusedVariables false
set_option linter.unusedSimpArgs false

/-- line and column behind some bytes -/
def atN (bs : List Nat) : Nat × Nat := bs.foldl stepP (1, 1)
theorem atN_snoc (bs : List Nat) (b : Nat) : atN (bs ++ [b]) = stepP (atN bs) b := by simp [atN]
theorem atN_go (bs : List Nat) : ∀ p : Nat × Nat, 1 ≤ p.1 → 1 ≤ p.2 → 1 ≤ (bs.foldl stepP p).1 ∧ (bs.foldl stepP p).1 ≤ p.1 + bs.length ∧ 1 ≤ (bs.foldl stepP p).2 ∧ (bs.foldl stepP p).2 ≤ p.2 + bs.length := by
  induction bs with
  | nil => intro p h1 h2; simp; omega
  | cons b bs ih =>
    intro p h1 h2
    have hb : 1 ≤ (stepP p b).1 ∧ (stepP p b).1 ≤ p.1 + 1 ∧ 1 ≤ (stepP p b).2 ∧ (stepP p b).2 ≤ p.2 + 1 := by
      unfold stepP
      split <;> simp <;> omega
    have := ih (stepP p b) hb.1 hb.2.2.1
    rw [List.foldl_cons, List.length_cons]
    omega
theorem atN_bd (bs : List Nat) : 1 ≤ (atN bs).1 ∧ (atN bs).1 ≤ bs.length + 1 ∧ 1 ≤ (atN bs).2 ∧ (atN bs).2 ≤ bs.length + 1 := by
  have := atN_go bs (1, 1) (by decide) (by decide)
  unfold atN
  omega
theorem okP_of {l c : Nat} (h1 : 1 ≤ l) (h2 : l ≤ 1073741824) (h3 : 1 ≤ c) (h4 : c ≤ 1073741824) : okP l c = true := by simp [okP, okN, h1, h2, h3, h4]
theorem keptP_of {l c : Nat} (h : okP l c = true) : keptP l c = PV l c := by unfold keptP; rw [if_pos h]
theorem ofP_of (l c : Nat) (h : okP l c = true) : ofP (l : Int) (c : Int) = PV l c := by
  simp [okP, okN] at h
  unfold ofP
  rw [if_pos (by omega)]
  simp
theorem ofP_bad (a b : Int) (h : a < 1 ∨ 1073741824 < a ∨ b < 1 ∨ 1073741824 < b) : ofP a b = PV 0 0 := by
  unfold ofP
  rw [if_neg (by omega)]

/-- the place of a byte -/
def atP (bs : List Nat) (i : Int) : Value := if 0 ≤ i ∧ i ≤ bs.length then PV (atN (bs.take i.toNat)).1 (atN (bs.take i.toNat)).2 else PV 0 0

set_option maxHeartbeats 400000 in
theorem pl_at (A : Option Addr) (n c : Nat) (bs : List Nat) (i : Int) (w : World) (h : Nums .u8 w A n c bs) (hn : n ≤ 100000) :
    Calls Tryd.prog 9 #[.slice A n c, .int .i64 i] w fun e w' => e = .returned (atP bs i) ∧ w = w' := by
  obtain rfl := h.len
  have hcap := h.cap
  by_cases hi : 0 ≤ i ∧ i ≤ bs.length
  case neg =>
    have hf : atP bs i = .complex .f64 0 0 := by unfold atP; rw [if_neg hi, PV_zero]
    rw [hf]
    have hways : i < 0 ∨ (0 ≤ i ∧ (bs.length : Int) < i) := by omega
    clear hi hf
    rcases hways with g | ⟨g, g2⟩
    all_goals
      go_enter Tryd.func9, Tryd.ntmps9
      go_wp2
      go_ret
      exact ⟨rfl, rfl⟩
  have Hf : Hid (atP bs i = PV (atN (bs.take i.toNat)).1 (atN (bs.take i.toNat)).2) := Lib.hid (by unfold atP; rw [if_pos hi])
  obtain ⟨m, rfl⟩ : ∃ m : Nat, i = (m : Int) := ⟨i.toNat, by omega⟩
  obtain ⟨hi1, hi2⟩ := hi
  have hi3 : (m : Int) ≤ (c : Int) := by omega
  rw [Int.toNat_natCast] at Hf
  have hd1 : decide (bs.length < m) = false := by simp; omega
  have hd2 : decide ((m : Int) < 0) = false := by simp
  have hd3 : decide ((bs.length : Int) < (m : Int)) = false := by simp; omega
  rcases A with _ | ⟨b, off, sp⟩
  · have h0 : bs.length = 0 := by
      rcases Nat.eq_zero_or_pos bs.length with h0 | h0
      · exact h0
      · obtain ⟨b, off, he, _⟩ := h.at_ h0
        cases he
    obtain rfl := List.eq_nil_of_length_eq_zero h0
    obtain rfl : m = 0 := by simp at hi2; omega
    rw [Hf.out]
    have e : PV (atN (([] : List Nat).take 0)).1 (atN (([] : List Nat).take 0)).2 = .complex .f64 4607182418800017408 4607182418800017408 := by
      unfold PV
      show Value.complex .f64 (fN 1) (fN 1) = _
      rw [fN_1]
    rw [e]
    clear Hf e
    go_enter Tryd.func9, Tryd.ntmps9
    go_wp2
    go_loop [5, 20] (fun p i => i = .int .i64 0 ∧ p = .complex .f64 4607182418800017408 4607182418800017408) (fun _ _ => 0)
    case atStart => exact ⟨rfl, rfl⟩
    case round =>
      obtain ⟨rfl, rfl⟩ := hrel
      go_wp2
      go_ret
      exact ⟨rfl, rfl⟩
  · go_enter Tryd.func9, Tryd.ntmps9
    go_wp2
    go_loop [5, 7, 20] (fun p _ i => ∃ k : Nat, k ≤ m ∧ i = .int .i64 (k : Int) ∧ p = PV (atN (bs.take k)).1 (atN (bs.take k)).2) (fun _ _ i => m - (intOf i).toNat)
    case atStart =>
      refine ⟨0, Nat.zero_le _, rfl, ?_⟩
      unfold PV
      show _ = Value.complex .f64 (fN 1) (fN 1)
      rw [fN_1]
    case round =>
      obtain ⟨k, hk, rfl, rfl⟩ := hrel
      by_cases hlt : k < m
      · obtain ⟨b', off', x, heq, hb, Hx, hc⟩ := h.get (j := k) (by omega)
        injection heq with heq
        injection heq with e1 e2 e3
        subst e1; subst e2; subst e3
        obtain ⟨d1, d2, d3, d4⟩ := atN_bd (bs.take k)
        have htl : (bs.take k).length ≤ 100000 := by rw [List.length_take]; omega
        have hok := okP_of d1 (by omega) d3 (by omega)
        have hst := pl_step (atN (bs.take k)).1 (atN (bs.take k)).2 x w (by omega) (by omega) hok
        have hnx : atN (bs.take (k + 1)) = stepP ((atN (bs.take k)).1, (atN (bs.take k)).2) x := by
          rw [List.take_add_one, Hx.out]
          exact atN_snoc _ _
        obtain ⟨d5, d6, d7, d8⟩ := atN_bd (bs.take (k + 1))
        have htl2 : (bs.take (k + 1)).length ≤ 100000 := by rw [List.length_take]; omega
        have hok2 := okP_of d5 (by omega) d7 (by omega)
        rw [← hnx, keptP_of hok2] at hst
        unfold PV
        obtain ⟨q, Hq⟩ : ∃ q, Hid (PV (atN (bs.take (k + 1))).1 (atN (bs.take (k + 1))).2 = q) := ⟨_, Lib.hid rfl⟩
        rw [Hq.out] at hst
        generalize fN (atN (bs.take k)).1 = u at *
        generalize fN (atN (bs.take k)).2 = v at *
        have Hst := Lib.hid hst
        clear hst hok hok2 hnx d1 d2 d3 d4 d5 d6 d7 d8 htl htl2
        go_wp2_with (go_at_call 12; (with_reducible refine Hst.out.mono ?_); rintro e w' ⟨rfl, rfl⟩)
        go_round
        case rel => exact ⟨k + 1, by omega, by go_num, Hq.out.symm⟩
        case measure => simp [intOf]; omega
      · obtain rfl : k = m := by omega
        obtain ⟨q, Hq⟩ : ∃ q, Hid (PV (atN (bs.take k)).1 (atN (bs.take k)).2 = q) := ⟨_, Lib.hid rfl⟩
        rw [Hq.out]
        go_wp2
        go_ret
        exact ⟨by rw [Hf.out, Hq.out]; rfl, rfl⟩

set_option maxHeartbeats 400000 in
theorem ref_at (A : Option Addr) (n c : Nat) (bs : List Nat) (i : Int) (w : World) (h : Nums .u8 w A n c bs) (hn : n ≤ 100000) :
    Calls Tryd.prog 10 #[.slice A n c, .int .i64 i] w fun e w' => e = .returned (atP bs i) ∧ w = w' := by
  obtain rfl := h.len
  have hcap := h.cap
  by_cases hi : 0 ≤ i ∧ i ≤ bs.length
  case neg =>
    have hf : atP bs i = .complex .f64 0 0 := by unfold atP; rw [if_neg hi, PV_zero]
    rw [hf]
    have hways : i < 0 ∨ (0 ≤ i ∧ (bs.length : Int) < i) := by omega
    clear hi hf
    rcases hways with g | ⟨g, g2⟩
    all_goals
      go_enter Tryd.func10, Tryd.ntmps10
      go_wp2
      go_ret
      exact ⟨rfl, rfl⟩
  have Hf : Hid (atP bs i = PV (atN (bs.take i.toNat)).1 (atN (bs.take i.toNat)).2) := Lib.hid (by unfold atP; rw [if_pos hi])
  obtain ⟨m, rfl⟩ : ∃ m : Nat, i = (m : Int) := ⟨i.toNat, by omega⟩
  obtain ⟨hi1, hi2⟩ := hi
  rw [Int.toNat_natCast] at Hf
  go_enter Tryd.func10, Tryd.ntmps10
  go_wp2
  go_loop [5, 6, 7] (fun l cc i => ∃ k lv cv : Nat, k ≤ m ∧ i = .int .i64 (k : Int) ∧ l = .int .i64 (lv : Int) ∧ cc = .int .i64 (cv : Int) ∧ Hid (atN (bs.take k) = (lv, cv))) (fun _ _ i => m - (intOf i).toNat)
  case atStart => exact ⟨0, 1, 1, Nat.zero_le _, rfl, rfl, rfl, Lib.hid rfl⟩
  case round =>
    obtain ⟨k, lv, cv, hk, rfl, rfl, rfl, Hat⟩ := hrel
    have hbd := atN_bd (bs.take k)
    have htl : (bs.take k).length ≤ 100000 := by rw [List.length_take]; omega
    rw [Hat.out] at hbd
    simp only [] at hbd
    by_cases hlt : k < m
    · obtain ⟨b, off, x, rfl, hb, Hx, hc⟩ := h.get (j := k) (by omega)
      have hnx : atN (bs.take (k + 1)) = stepP (lv, cv) x := by
        rw [List.take_add_one, Hx.out, ← Hat.out]
        exact atN_snoc _ _
      by_cases hx : x = 10
      · subst hx
        have Hnx := Lib.hid hnx
        clear hnx
        go_wp2
        go_round
        case rel => exact ⟨k + 1, lv + 1, 1, by omega, by go_num, by go_num, rfl, Lib.hid (by rw [Hnx.out]; simp [stepP])⟩
        case measure => simp [intOf]; omega
      · have Hnx := Lib.hid hnx
        have hxx : ((x : Int) == 10) = false := by rw [beq_eq_false_iff_ne]; omega
        have Hxne := Lib.hid hx
        clear hnx hx
        go_wp2
        go_round
        case rel => exact ⟨k + 1, lv, cv + 1, by omega, by go_num, rfl, by go_num, Lib.hid (by rw [Hnx.out]; simp [stepP, Hxne.out])⟩
        case measure => simp [intOf]; omega
    · obtain rfl : k = m := by omega
      have hc := ref_of (lv : Int) (cv : Int) w
      rw [ofP_of lv cv (okP_of hbd.1 (by omega) hbd.2.2.1 (by omega))] at hc
      have hff : atP bs (k : Int) = PV lv cv := by rw [Hf.out, Hat.out]
      generalize PV lv cv = q at *
      have Hff := Lib.hid hff
      have Hc := Lib.hid hc
      clear hc Hf hff
      go_wp2_with (go_at_call 8; (with_reducible refine Hc.out.mono ?_); rintro e w' ⟨rfl, rfl⟩)
      go_ret
      exact ⟨by rw [Hff.out]; rfl, rfl⟩

theorem pl_line (l c : Nat) (w : World) (hok : okP l c = true) :
    Calls Tryd.prog 15 #[.complex .f64 (fN l) (fN c)] w fun e w' => e = .returned (.int .i64 (l : Int)) ∧ w = w' := by
  have hb := hok
  simp [okP, okN] at hb
  have h1 := pl_kept l c w (by omega) (by omega)
  rw [keptP_of hok] at h1
  unfold PV at h1
  have hr : ∀ w, (convert 37 3 (.float .f64 (fN l))).run Tryd.prog w = .ok (.int .i64 (l : Int)) w := fun w =>
    run_convert_float_int w 37 3 .f64 .i64 _ _ (by kernel_rfl) Tryd.underlying3 (toInt_fN l (by omega))
  generalize fN l = x at *
  generalize fN c = y at *
  have H1 := Lib.hid h1
  clear h1
  go_enter Tryd.func15, Tryd.ntmps15
  go_wp2_with (go_at_call 18; (with_reducible refine H1.out.mono ?_); rintro e w' ⟨rfl, rfl⟩)
  go_ret
  exact ⟨rfl, rfl⟩
theorem pl_col (l c : Nat) (w : World) (hok : okP l c = true) :
    Calls Tryd.prog 16 #[.complex .f64 (fN l) (fN c)] w fun e w' => e = .returned (.int .i64 (c : Int)) ∧ w = w' := by
  have hb := hok
  simp [okP, okN] at hb
  have h1 := pl_kept l c w (by omega) (by omega)
  rw [keptP_of hok] at h1
  unfold PV at h1
  have hr : ∀ w, (convert 37 3 (.float .f64 (fN c))).run Tryd.prog w = .ok (.int .i64 (c : Int)) w := fun w =>
    run_convert_float_int w 37 3 .f64 .i64 _ _ (by kernel_rfl) Tryd.underlying3 (toInt_fN c (by omega))
  generalize fN l = x at *
  generalize fN c = y at *
  have H1 := Lib.hid h1
  clear h1
  go_enter Tryd.func16, Tryd.ntmps16
  go_wp2_with (go_at_call 18; (with_reducible refine H1.out.mono ?_); rintro e w' ⟨rfl, rfl⟩)
  go_ret
  exact ⟨rfl, rfl⟩

end Go.Proofs.YtcmfflfgegadjaaDoor
