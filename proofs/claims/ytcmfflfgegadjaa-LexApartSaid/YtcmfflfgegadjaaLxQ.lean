/- places of a text, as the laws of lex and yacc compare them: the reference's Before. -/
import Derived.Test.YtcmfflfgegadjaaLxW11
import Derived.BigQuiet
import Derived.Deep.QuietTactic
namespace Go.Proofs.Ytcmfflfgegadjaa
open Go.RowKit
set_option linter.unusedVariables false
set_option linter.unusedSimpArgs false

theorem ordSelf (n : Nat) (hn : n < 9007199254740992) : FloatKind.f64.format.order (fN n) (fN n) = some .eq := by
  rw [ordN n n hn hn]
  simp [compare, compareOfLessAndEq]

theorem rf_whole (n : Nat) (w : World) (h1 : 1 ≤ n) (h2 : n ≤ 1073741824) :
    Calls Try.prog 47 #[.float .f64 (fN n)] w fun e w' => e = .returned (.bool true) ∧ w = w' := by
  have o1 := ord1 n (by omega)
  have o2 := ordTop n (by omega)
  have o3 := ordSelf n (by omega)
  have hr : ∀ w, (convert 69 3 (.float .f64 (fN n))).run Try.prog w = .ok (.int .i64 (n : Int)) w := fun w =>
    run_convert_float_int w 69 3 .f64 .i64 _ _ (by kernel_rfl) Try.underlying3 (toInt_fN n (by omega))
  have e0 := floatOfInt_nat n
  generalize fN n = x at *
  have e1 : FloatKind.f64.format.order x 4607182418800017408 = some .gt ∨ FloatKind.f64.format.order x 4607182418800017408 = some .eq := by
    rw [o1]
    rcases Nat.lt_or_ge 1 n with h | h
    · rw [Nat.compare_eq_gt.2 h]; exact .inl rfl
    · rw [Nat.compare_eq_eq.2 (by omega)]; exact .inr rfl
  have e2 : FloatKind.f64.format.order x 4742290407621132288 = some .lt ∨ FloatKind.f64.format.order x 4742290407621132288 = some .eq := by
    rw [o2]
    rcases Nat.lt_or_ge n 1073741824 with h | h
    · rw [Nat.compare_eq_lt.2 h]; exact .inl rfl
    · rw [Nat.compare_eq_eq.2 (by omega)]; exact .inr rfl
  clear o1 o2 h1 h2
  rcases e1 with e1 | e1
  all_goals
    rcases e2 with e2 | e2
    all_goals
      go_enter Try.func47, Try.ntmps47
      go_wp2
      go_ret
      exact ⟨by simp, rfl⟩

theorem rf_right (l c : Nat) (w : World) (h : okP l c = true) :
    Calls Try.prog 29 #[.complex .f64 (fN l) (fN c)] w fun e w' => e = .returned (.bool true) ∧ w = w' := by
  simp [okP, okN] at h
  have h1 := rf_whole l w (by omega) (by omega)
  have h2 := rf_whole c w (by omega) (by omega)
  generalize fN l = x at *
  generalize fN c = y at *
  have H1 := Lib.hid h1
  have H2 := Lib.hid h2
  clear h1 h2 h
  go_enter Try.func29, Try.ntmps29
  go_wp2_with fail
  (with_reducible refine H1.out.mono ?_); rintro e w' ⟨rfl, rfl⟩
  go_wp2_with fail
  (with_reducible refine H2.out.mono ?_); rintro e w' ⟨rfl, rfl⟩
  go_wp2_with fail
  go_ret
  exact ⟨rfl, rfl⟩

theorem rf_line (l c : Nat) (w : World) (hok : okP l c = true) :
    Calls Try.prog 30 #[.complex .f64 (fN l) (fN c)] w fun e w' => e = .returned (.int .i64 (l : Int)) ∧ w = w' := by
  have hb := hok
  simp [okP, okN] at hb
  have h1 := rf_right l c w hok
  have hr : ∀ w, (convert 69 3 (.float .f64 (fN l))).run Try.prog w = .ok (.int .i64 (l : Int)) w := fun w =>
    run_convert_float_int w 69 3 .f64 .i64 _ _ (by kernel_rfl) Try.underlying3 (toInt_fN l (by omega))
  generalize fN l = x at *
  generalize fN c = y at *
  have H1 := Lib.hid h1
  clear h1
  go_enter Try.func30, Try.ntmps30
  go_wp2_with fail
  (with_reducible refine H1.out.mono ?_); rintro e w' ⟨rfl, rfl⟩
  go_wp2_with fail
  go_ret
  exact ⟨rfl, rfl⟩
theorem rf_col (l c : Nat) (w : World) (hok : okP l c = true) :
    Calls Try.prog 31 #[.complex .f64 (fN l) (fN c)] w fun e w' => e = .returned (.int .i64 (c : Int)) ∧ w = w' := by
  have hb := hok
  simp [okP, okN] at hb
  have h1 := rf_right l c w hok
  have hr : ∀ w, (convert 69 3 (.float .f64 (fN c))).run Try.prog w = .ok (.int .i64 (c : Int)) w := fun w =>
    run_convert_float_int w 69 3 .f64 .i64 _ _ (by kernel_rfl) Try.underlying3 (toInt_fN c (by omega))
  generalize fN l = x at *
  generalize fN c = y at *
  have H1 := Lib.hid h1
  clear h1
  go_enter Try.func31, Try.ntmps31
  go_wp2_with fail
  (with_reducible refine H1.out.mono ?_); rintro e w' ⟨rfl, rfl⟩
  go_wp2_with fail
  go_ret
  exact ⟨rfl, rfl⟩

theorem rf_before (l c l2 c2 : Nat) (w : World) (h : okP l c = true) (h2 : okP l2 c2 = true) :
    Calls Try.prog 14 #[.complex .f64 (fN l) (fN c), .complex .f64 (fN l2) (fN c2)] w fun e w' => e = .returned (.bool (beforeP l c l2 c2)) ∧ w = w' := by
  have a1 := rf_right l c w h
  have a2 := rf_right l2 c2 w h2
  have b1 := rf_line l c w h
  have b2 := rf_line l2 c2 w h2
  have c1 := rf_col l c w h
  have c3 := rf_col l2 c2 w h2
  have hf : beforeP l c l2 c2 = (decide (l < l2) || (decide (l = l2) && decide (c < c2))) := by unfold beforeP; rw [h, h2]; rfl
  generalize fN l = x at *
  generalize fN c = y at *
  generalize fN l2 = x2 at *
  generalize fN c2 = y2 at *
  have A1 := Lib.hid a1
  have A2 := Lib.hid a2
  have B1 := Lib.hid b1
  have B2 := Lib.hid b2
  have C1 := Lib.hid c1
  have C2 := Lib.hid c3
  rw [hf]
  clear a1 a2 b1 b2 c1 c3 h h2 hf
  rcases Nat.lt_trichotomy l l2 with h | h | h
  · have d1 : decide (l < l2) = true := by simp; omega
    rw [show decide (l < l2) = true from by simp; omega, Bool.true_or]
    clear h
    go_enter Try.func14, Try.ntmps14
    go_wp2_with fail
    (with_reducible refine A1.out.mono ?_); rintro e w' ⟨rfl, rfl⟩
    go_wp2_with fail
    (with_reducible refine A2.out.mono ?_); rintro e w' ⟨rfl, rfl⟩
    go_wp2_with fail
    (with_reducible refine B1.out.mono ?_); rintro e w' ⟨rfl, rfl⟩
    go_wp2_with fail
    (with_reducible refine B2.out.mono ?_); rintro e w' ⟨rfl, rfl⟩
    go_wp2_with fail
    go_ret
    exact ⟨rfl, rfl⟩
  · have d1 : decide (l < l2) = false := by simp; omega
    have d2 : ((l : Int) == (l2 : Int)) = true := by rw [beq_iff_eq]; omega
    rw [show decide (l < l2) = false from by simp; omega, show decide (l = l2) = true from by simp; omega, Bool.true_and, Bool.false_or]
    have Hc := Lib.hid (show decide ((c : Int) < (c2 : Int)) = decide (c < c2) from by simp)
    clear h
    go_enter Try.func14, Try.ntmps14
    go_wp2_with fail
    (with_reducible refine A1.out.mono ?_); rintro e w' ⟨rfl, rfl⟩
    go_wp2_with fail
    (with_reducible refine A2.out.mono ?_); rintro e w' ⟨rfl, rfl⟩
    go_wp2_with fail
    (with_reducible refine B1.out.mono ?_); rintro e w' ⟨rfl, rfl⟩
    go_wp2_with fail
    (with_reducible refine B2.out.mono ?_); rintro e w' ⟨rfl, rfl⟩
    go_wp2_with fail
    (with_reducible refine B1.out.mono ?_); rintro e w' ⟨rfl, rfl⟩
    go_wp2_with fail
    (with_reducible refine B2.out.mono ?_); rintro e w' ⟨rfl, rfl⟩
    go_wp2_with fail
    (with_reducible refine C1.out.mono ?_); rintro e w' ⟨rfl, rfl⟩
    go_wp2_with fail
    (with_reducible refine C2.out.mono ?_); rintro e w' ⟨rfl, rfl⟩
    go_wp2_with fail
    go_ret
    exact ⟨by first | rfl | rw [← Hc.out] | simp, rfl⟩
  · have d1 : decide (l < l2) = false := by simp; omega
    have d2 : ((l : Int) == (l2 : Int)) = false := by rw [beq_eq_false_iff_ne]; omega
    rw [show decide (l < l2) = false from by simp; omega, show decide (l = l2) = false from by simp; omega, Bool.false_and, Bool.false_or]
    clear h
    go_enter Try.func14, Try.ntmps14
    go_wp2_with fail
    (with_reducible refine A1.out.mono ?_); rintro e w' ⟨rfl, rfl⟩
    go_wp2_with fail
    (with_reducible refine A2.out.mono ?_); rintro e w' ⟨rfl, rfl⟩
    go_wp2_with fail
    (with_reducible refine B1.out.mono ?_); rintro e w' ⟨rfl, rfl⟩
    go_wp2_with fail
    (with_reducible refine B2.out.mono ?_); rintro e w' ⟨rfl, rfl⟩
    go_wp2_with fail
    (with_reducible refine B1.out.mono ?_); rintro e w' ⟨rfl, rfl⟩
    go_wp2_with fail
    (with_reducible refine B2.out.mono ?_); rintro e w' ⟨rfl, rfl⟩
    go_wp2_with fail
    go_ret
    exact ⟨rfl, rfl⟩

/-! ### the order of places -/
def ltP (p q : Nat × Nat) : Prop := p.1 < q.1 ∨ (p.1 = q.1 ∧ p.2 < q.2)
theorem ltP_step (p : Nat × Nat) (b : Nat) : ltP p (stepP p b) := by
  unfold ltP stepP
  split <;> simp
theorem ltP_trans {p q r : Nat × Nat} (h : ltP p q) (k : ltP q r) : ltP p r := by
  unfold ltP at *
  omega
theorem atN_lt (bs : List Nat) (x d : Nat) (h : x + d + 1 ≤ bs.length) : ltP (atN (bs.take x)) (atN (bs.take (x + d + 1))) := by
  induction d with
  | zero =>
    rw [Nat.add_zero, List.take_add_one, List.getElem?_eq_getElem (by omega)]
    show ltP _ (atN (_ ++ [_]))
    rw [atN_snoc]
    exact ltP_step _ _
  | succ d ih =>
    refine ltP_trans (ih (by omega)) ?_
    rw [show x + (d + 1) + 1 = x + d + 1 + 1 from by omega]
    rw [List.take_add_one (i := x + d + 1), List.getElem?_eq_getElem (by omega)]
    show ltP _ (atN (_ ++ [_]))
    rw [atN_snoc]
    exact ltP_step _ _
theorem atN_mono (bs : List Nat) (x y : Nat) (h : x < y) (hy : y ≤ bs.length) : ltP (atN (bs.take x)) (atN (bs.take y)) := by
  have := atN_lt bs x (y - x - 1) (by omega)
  rwa [show x + (y - x - 1) + 1 = y from by omega] at this
theorem eq_bits (l c l2 c2 : Nat) (hl : l < 9007199254740992) (hc : c < 9007199254740992) (hl2 : l2 < 9007199254740992) (hc2 : c2 < 9007199254740992) :
    ((FloatKind.f64.format.order (fN l) (fN l2) == some .eq) && (FloatKind.f64.format.order (fN c) (fN c2) == some .eq)) = decide (l = l2 ∧ c = c2) := by
  rw [ordN l l2 hl hl2, ordN c c2 hc hc2, cmp_eq, cmp_eq, Bool.decide_and]

/-- two places of a text, as complex numbers: what '==' and Before say of them -/
theorem two_places (bs : List Nat) (x y : Nat) (hx : x ≤ bs.length) (hy : y ≤ bs.length) (hn : bs.length ≤ 100000) :
    ∃ u v u2 v2, PA (bs.take x) = .complex .f64 u v ∧ PA (bs.take y) = .complex .f64 u2 v2 ∧
      (∀ w, Calls Try.prog 14 #[.complex .f64 u v, .complex .f64 u2 v2] w fun e w' => e = .returned (.bool (decide (x < y))) ∧ w = w') ∧
      ((FloatKind.f64.format.order u u2 == some .eq) && (FloatKind.f64.format.order v v2 == some .eq)) = decide (x = y) := by
  obtain ⟨a1, a2, a3, a4⟩ := atN_bd (bs.take x)
  obtain ⟨b1, b2, b3, b4⟩ := atN_bd (bs.take y)
  have l1 : (bs.take x).length ≤ 100000 := by rw [List.length_take]; omega
  have l2 : (bs.take y).length ≤ 100000 := by rw [List.length_take]; omega
  have m1 : x < y → ltP (atN (bs.take x)) (atN (bs.take y)) := fun h => atN_mono bs x y h (by omega)
  have m2 : y < x → ltP (atN (bs.take y)) (atN (bs.take x)) := fun h => atN_mono bs y x h (by omega)
  have m3 : x = y → atN (bs.take x) = atN (bs.take y) := fun h => by rw [h]
  refine ⟨_, _, _, _, rfl, rfl, fun w => ?_, ?_⟩
  · have hb := rf_before (atN (bs.take x)).1 (atN (bs.take x)).2 (atN (bs.take y)).1 (atN (bs.take y)).2 w (okP_of a1 (by omega) a3 (by omega)) (okP_of b1 (by omega) b3 (by omega))
    have : beforeP (atN (bs.take x)).1 (atN (bs.take x)).2 (atN (bs.take y)).1 (atN (bs.take y)).2 = decide (x < y) := by
      unfold beforeP
      rw [okP_of a1 (by omega) a3 (by omega), okP_of b1 (by omega) b3 (by omega)]
      generalize atN (bs.take x) = p at *
      generalize atN (bs.take y) = q at *
      unfold ltP at *
      rcases Nat.lt_trichotomy x y with h | h | h
      · have := m1 h
        simp [h]; omega
      · have := m3 h
        subst this
        simp [h]
      · have := m2 h
        have h' : ¬ x < y := by omega
        simp [h']; omega
    rw [this] at hb
    exact hb
  · rw [eq_bits _ _ _ _ (by omega) (by omega) (by omega) (by omega)]
    generalize atN (bs.take x) = p at *
    generalize atN (bs.take y) = q at *
    unfold ltP at *
    rcases Nat.lt_trichotomy x y with h | h | h
    · have := m1 h
      have h' : ¬ x = y := by omega
      simp [h']; omega
    · have := m3 h
      subst this
      simp [h]
    · have := m2 h
      have h' : ¬ x = y := by omega
      simp [h']; omega
end Go.Proofs.Ytcmfflfgegadjaa
