/- places of a text, as the laws of lex and yacc compare them: the reference's Before. -/
import Derived.BigQuiet
import Derived.Deep.QuietTactic
import Derived.Test.YtdeiipbnaknedaaYQ15
namespace Go.Proofs.Ytdeiipbnaknedaa
open Go.RowKit
set_option linter.unusedVariables false
set_option linter.unusedSimpArgs false

theorem ordSelf (n : Nat) (hn : n < 9007199254740992) : FloatKind.f64.format.order (fN n) (fN n) = some .eq := by
  rw [ordN n n hn hn]
  simp [compare, compareOfLessAndEq]

theorem rf_whole (n : Nat) (w : World) (h1 : 1 ≤ n) (h2 : n ≤ 1073741824) :
    Calls Try.prog 39 #[.float .f64 (fN n)] w fun e w' => e = .returned (.bool true) ∧ w = w' := by
  have o1 := ord1 n (by omega)
  have o2 := ordTop n (by omega)
  have o3 := ordSelf n (by omega)
  have hr : ∀ w, (convert 83 3 (.float .f64 (fN n))).run Try.prog w = .ok (.int .i64 (n : Int)) w := fun w =>
    run_convert_float_int w 83 3 .f64 .i64 _ _ (by kernel_rfl) Try.underlying3 (toInt_fN n (by omega))
  have e0 := floatOfInt_nat n
  generalize fN n = x at *
  have e1 : FloatKind.f64.format.order x 4607182418800017408 = some .gt ∨ FloatKind.f64.format.order x 4607182418800017408 = some .eq := by
    rw [o1]
    rcases Nat.lt_or_ge 1 n with h | h
    · rw [Nat.compare_eq_gt.2 h]; exact .inl rfl
    · rw [Nat.compare_eq_eq.2 (by omega)]; exact .inr rfl
  have e2 : FloatKind.f64.format.order x 4742290407621132288 = some .lt ∨ FloatKind.f64.format.order x 4742290407621132288 = some .eq := by
    rw [o2]
    rcases Nat.lt_or_ge n 1073741824 with h | h
    · rw [Nat.compare_eq_lt.2 h]; exact .inl rfl
    · rw [Nat.compare_eq_eq.2 (by omega)]; exact .inr rfl
  clear o1 o2 h1 h2
  rcases e1 with e1 | e1
  all_goals
    rcases e2 with e2 | e2
    all_goals
      go_enter Try.func39, Try.ntmps39
      go_wp2
      go_ret
      exact ⟨by simp, rfl⟩

theorem rf_right (l c : Nat) (w : World) (h : okP l c = true) :
    Calls Try.prog 15 #[.complex .f64 (fN l) (fN c)] w fun e w' => e = .returned (.bool true) ∧ w = w' := by
  simp [okP, okN] at h
  have h1 := rf_whole l w (by omega) (by omega)
  have h2 := rf_whole c w (by omega) (by omega)
  generalize fN l = x at *
  generalize fN c = y at *
  have H1 := Lib.hid h1
  have H2 := Lib.hid h2
  clear h1 h2 h
  go_enter Try.func15, Try.ntmps15
  go_wp2_with fail
  (with_reducible refine H1.out.mono ?_); rintro e w' ⟨rfl, rfl⟩
  go_wp2_with fail
  (with_reducible refine H2.out.mono ?_); rintro e w' ⟨rfl, rfl⟩
  go_wp2_with fail
  go_ret
  exact ⟨rfl, rfl⟩

theorem rf_line (l c : Nat) (w : World) (hok : okP l c = true) :
    Calls Try.prog 16 #[.complex .f64 (fN l) (fN c)] w fun e w' => e = .returned (.int .i64 (l : Int)) ∧ w = w' := by
  have hb := hok
  simp [okP, okN] at hb
  have h1 := rf_right l c w hok
  have hr : ∀ w, (convert 83 3 (.float .f64 (fN l))).run Try.prog w = .ok (.int .i64 (l : Int)) w := fun w =>
    run_convert_float_int w 83 3 .f64 .i64 _ _ (by kernel_rfl) Try.underlying3 (toInt_fN l (by omega))
  generalize fN l = x at *
  generalize fN c = y at *
  have H1 := Lib.hid h1
  clear h1
  go_enter Try.func16, Try.ntmps16
  go_wp2_with fail
  (with_reducible refine H1.out.mono ?_); rintro e w' ⟨rfl, rfl⟩
  go_wp2_with fail
  go_ret
  exact ⟨rfl, rfl⟩
theorem rf_col (l c : Nat) (w : World) (hok : okP l c = true) :
    Calls Try.prog 17 #[.complex .f64 (fN l) (fN c)] w fun e w' => e = .returned (.int .i64 (c : Int)) ∧ w = w' := by
  have hb := hok
  simp [okP, okN] at hb
  have h1 := rf_right l c w hok
  have hr : ∀ w, (convert 83 3 (.float .f64 (fN c))).run Try.prog w = .ok (.int .i64 (c : Int)) w := fun w =>
    run_convert_float_int w 83 3 .f64 .i64 _ _ (by kernel_rfl) Try.underlying3 (toInt_fN c (by omega))
  generalize fN l = x at *
  generalize fN c = y at *
  have H1 := Lib.hid h1
  clear h1
  go_enter Try.func17, Try.ntmps17
  go_wp2_with fail
  (with_reducible refine H1.out.mono ?_); rintro e w' ⟨rfl, rfl⟩
  go_wp2_with fail
  go_ret
  exact ⟨rfl, rfl⟩

theorem rf_before (l c l2 c2 : Nat) (w : World) (h : okP l c = true) (h2 : okP l2 c2 = true) :
    Calls Try.prog 8 #[.complex .f64 (fN l) (fN c), .complex .f64 (fN l2) (fN c2)] w fun e w' => e = .returned (.bool (beforeP l c l2 c2)) ∧ w = w' := by
  have a1 := rf_right l c w h
  have a2 := rf_right l2 c2 w h2
  have b1 := rf_line l c w h
  have b2 := rf_line l2 c2 w h2
  have c1 := rf_col l c w h
  have c3 := rf_col l2 c2 w h2
  have hf : beforeP l c l2 c2 = (decide (l < l2) || (decide (l = l2) && decide (c < c2))) := by unfold beforeP; rw [h, h2]; rfl
  generalize fN l = x at *
  generalize fN c = y at *
  generalize fN l2 = x2 at *
  generalize fN c2 = y2 at *
  have A1 := Lib.hid a1
  have A2 := Lib.hid a2
  have B1 := Lib.hid b1
  have B2 := Lib.hid b2
  have C1 := Lib.hid c1
  have C2 := Lib.hid c3
  rw [hf]
  clear a1 a2 b1 b2 c1 c3 h h2 hf
  rcases Nat.lt_trichotomy l l2 with h | h | h
  · have d1 : decide (l < l2) = true := by simp; omega
    rw [show decide (l < l2) = true from by simp; omega, Bool.true_or]
    clear h
    go_enter Try.func8, Try.ntmps8
    go_wp2_with fail
    (with_reducible refine A1.out.mono ?_); rintro e w' ⟨rfl, rfl⟩
    go_wp2_with fail
    (with_reducible refine A2.out.mono ?_); rintro e w' ⟨rfl, rfl⟩
    go_wp2_with fail
    (with_reducible refine B1.out.mono ?_); rintro e w' ⟨rfl, rfl⟩
    go_wp2_with fail
    (with_reducible refine B2.out.mono ?_); rintro e w' ⟨rfl, rfl⟩
    go_wp2_with fail
    go_ret
    exact ⟨rfl, rfl⟩
  · have d1 : decide (l < l2) = false := by simp; omega
    have d2 : ((l : Int) == (l2 : Int)) = true := by rw [beq_iff_eq]; omega
    rw [show decide (l < l2) = false from by simp; omega, show decide (l = l2) = true from by simp; omega, Bool.true_and, Bool.false_or]
    have Hc := Lib.hid (show decide ((c : Int) < (c2 : Int)) = decide (c < c2) from by simp)
    clear h
    go_enter Try.func8, Try.ntmps8
    go_wp2_with fail
    (with_reducible refine A1.out.mono ?_); rintro e w' ⟨rfl, rfl⟩
    go_wp2_with fail
    (with_reducible refine A2.out.mono ?_); rintro e w' ⟨rfl, rfl⟩
    go_wp2_with fail
    (with_reducible refine B1.out.mono ?_); rintro e w' ⟨rfl, rfl⟩
    go_wp2_with fail
    (with_reducible refine B2.out.mono ?_); rintro e w' ⟨rfl, rfl⟩
    go_wp2_with fail
    (with_reducible refine B1.out.mono ?_); rintro e w' ⟨rfl, rfl⟩
    go_wp2_with fail
    (with_reducible refine B2.out.mono ?_); rintro e w' ⟨rfl, rfl⟩
    go_wp2_with fail
    (with_reducible refine C1.out.mono ?_); rintro e w' ⟨rfl, rfl⟩
    go_wp2_with fail
    (with_reducible refine C2.out.mono ?_); rintro e w' ⟨rfl, rfl⟩
    go_wp2_with fail
    go_ret
    exact ⟨by first | rfl | rw [← Hc.out] | simp, rfl⟩
  · have d1 : decide (l < l2) = false := by simp; omega
    have d2 : ((l : Int) == (l2 : Int)) = false := by rw [beq_eq_false_iff_ne]; omega
    rw [show decide (l < l2) = false from by simp; omega, show decide (l = l2) = false from by simp; omega, Bool.false_and, Bool.false_or]
    clear h
    go_enter Try.func8, Try.ntmps8
    go_wp2_with fail
    (with_reducible refine A1.out.mono ?_); rintro e w' ⟨rfl, rfl⟩
    go_wp2_with fail
    (with_reducible refine A2.out.mono ?_); rintro e w' ⟨rfl, rfl⟩
    go_wp2_with fail
    (with_reducible refine B1.out.mono ?_); rintro e w' ⟨rfl, rfl⟩
    go_wp2_with fail
    (with_reducible refine B2.out.mono ?_); rintro e w' ⟨rfl, rfl⟩
    go_wp2_with fail
    (with_reducible refine B1.out.mono ?_); rintro e w' ⟨rfl, rfl⟩
    go_wp2_with fail
    (with_reducible refine B2.out.mono ?_); rintro e w' ⟨rfl, rfl⟩
    go_wp2_with fail
    go_ret
    exact ⟨rfl, rfl⟩

/-! ### the order of places -/
def ltP (p q : Nat × Nat) : Prop := p.1 < q.1 ∨ (p.1 = q.1 ∧ p.2 < q.2)
theorem ltP_step (p : Nat × Nat) (b : Nat) : ltP p (stepP p b) := by
  unfold ltP stepP
  split <;> simp
theorem ltP_trans {p q r : Nat × Nat} (h : ltP p q) (k : ltP q r) : ltP p r := by
  unfold ltP at *
  omega
theorem atN_lt (bs : List Nat) (x d : Nat) (h : x + d + 1 ≤ bs.length) : ltP (atN (bs.take x)) (atN (bs.take (x + d + 1))) := by
  induction d with
  | zero =>
    rw [Nat.add_zero, List.take_add_one, List.getElem?_eq_getElem (by omega)]
    show ltP _ (atN (_ ++ [_]))
    rw [atN_snoc]
    exact ltP_step _ _
  | succ d ih =>
    refine ltP_trans (ih (by omega)) ?_
    rw [show x + (d + 1) + 1 = x + d + 1 + 1 from by omega]
    rw [List.take_add_one (i := x + d + 1), List.getElem?_eq_getElem (by omega)]
    show ltP _ (atN (_ ++ [_]))
    rw [atN_snoc]
    exact ltP_step _ _
theorem atN_mono (bs : List Nat) (x y : Nat) (h : x < y) (hy : y ≤ bs.length) : ltP (atN (bs.take x)) (atN (bs.take y)) := by
  have := atN_lt bs x (y - x - 1) (by omega)
  rwa [show x + (y - x - 1) + 1 = y from by omega] at this
theorem eq_bits (l c l2 c2 : Nat) (hl : l < 9007199254740992) (hc : c < 9007199254740992) (hl2 : l2 < 9007199254740992) (hc2 : c2 < 9007199254740992) :
    ((FloatKind.f64.format.order (fN l) (fN l2) == some .eq) && (FloatKind.f64.format.order (fN c) (fN c2) == some .eq)) = decide (l = l2 ∧ c = c2) := by
  rw [ordN l l2 hl hl2, ordN c c2 hc hc2, cmp_eq, cmp_eq, Bool.decide_and]

/-- two places of a text, as complex numbers: what '==' and Before say of them -/
theorem two_places (bs : List Nat) (x y : Nat) (hx : x ≤ bs.length) (hy : y ≤ bs.length) (hn : bs.length ≤ 100000) :
    ∃ u v u2 v2, PA (bs.take x) = .complex .f64 u v ∧ PA (bs.take y) = .complex .f64 u2 v2 ∧
      (∀ w, Calls Try.prog 8 #[.complex .f64 u v, .complex .f64 u2 v2] w fun e w' => e = .returned (.bool (decide (x < y))) ∧ w = w') ∧
      ((FloatKind.f64.format.order u u2 == some .eq) && (FloatKind.f64.format.order v v2 == some .eq)) = decide (x = y) := by
  obtain ⟨a1, a2, a3, a4⟩ := atN_bd (bs.take x)
  obtain ⟨b1, b2, b3, b4⟩ := atN_bd (bs.take y)
  have l1 : (bs.take x).length ≤ 100000 := by rw [List.length_take]; omega
  have l2 : (bs.take y).length ≤ 100000 := by rw [List.length_take]; omega
  have m1 : x < y → ltP (atN (bs.take x)) (atN (bs.take y)) := fun h => atN_mono bs x y h (by omega)
  have m2 : y < x → ltP (atN (bs.take y)) (atN (bs.take x)) := fun h => atN_mono bs y x h (by omega)
  have m3 : x = y → atN (bs.take x) = atN (bs.take y) := fun h => by rw [h]
  refine ⟨_, _, _, _, rfl, rfl, fun w => ?_, ?_⟩
  · have hb := rf_before (atN (bs.take x)).1 (atN (bs.take x)).2 (atN (bs.take y)).1 (atN (bs.take y)).2 w (okP_of a1 (by omega) a3 (by omega)) (okP_of b1 (by omega) b3 (by omega))
    have : beforeP (atN (bs.take x)).1 (atN (bs.take x)).2 (atN (bs.take y)).1 (atN (bs.take y)).2 = decide (x < y) := by
      unfold beforeP
      rw [okP_of a1 (by omega) a3 (by omega), okP_of b1 (by omega) b3 (by omega)]
      generalize atN (bs.take x) = p at *
      generalize atN (bs.take y) = q at *
      unfold ltP at *
      rcases Nat.lt_trichotomy x y with h | h | h
      · have := m1 h
        simp [h]; omega
      · have := m3 h
        subst this
        simp [h]
      · have := m2 h
        have h' : ¬ x < y := by omega
        simp [h']; omega
    rw [this] at hb
    exact hb
  · rw [eq_bits _ _ _ _ (by omega) (by omega) (by omega) (by omega)]
    generalize atN (bs.take x) = p at *
    generalize atN (bs.take y) = q at *
    unfold ltP at *
    rcases Nat.lt_trichotomy x y with h | h | h
    · have := m1 h
      have h' : ¬ x = y := by omega
      simp [h']; omega
    · have := m3 h
      subst this
      simp [h]
    · have := m2 h
      have h' : ¬ x = y := by omega
      simp [h']; omega
end Go.Proofs.Ytdeiipbnaknedaa
/- yacc, plainly: what is listed, one rule more; references of a text. -/
namespace Go.Proofs.Ytdeiipbnaknedaa
open Go.RowKit
set_option linter.unusedVariables false
set_option linter.unusedSimpArgs false

/-- the left side of the last rule -/
def lastL : Option RefY → List PrdY → Option RefY
  | prev, [] => prev
  | _, p :: ps => lastL (some p.left) ps
theorem listY_snoc : ∀ (prev : Option RefY) (ps : List PrdY) (p : PrdY), listY prev (ps ++ [p]) = listY prev ps ++ ((if lastL prev ps = some p.left then [] else [p.left]) ++ bodyY p)
  | prev, [], p => by
    by_cases h : prev = some p.left
    · simp [listY, lastL, h]
    · simp [listY, lastL, h]
  | prev, q :: ps, p => by
    rw [List.cons_append, listY, listY_snoc (some q.left) ps p, listY, lastL]
    simp
theorem lastL_snoc : ∀ (prev : Option RefY) (ps : List PrdY) (p : PrdY), lastL prev (ps ++ [p]) = some p.left
  | _, [], _ => rfl
  | _, q :: ps, p => by rw [List.cons_append, lastL, lastL_snoc]
theorem listY_left : ∀ (prev : Option RefY) (ps : List PrdY) (p : PrdY), p ∈ ps → prev = some p.left ∨ p.left ∈ listY prev ps
  | prev, q :: ps, p, h => by
    rw [listY]
    rcases List.mem_cons.1 h with rfl | h
    · by_cases hp : prev = some p.left
      · exact .inl hp
      · right
        rw [if_neg hp]
        simp
    · rcases listY_left (some q.left) ps p h with hq | hq
      · injection hq with hq
        by_cases hp : prev = some q.left
        · exact .inl (by rw [hp, hq])
        · right
          rw [if_neg hp]
          simp [← hq]
      · right
        simp [hq]
theorem listY_body : ∀ (prev : Option RefY) (ps : List PrdY) (p : PrdY), p ∈ ps → ∀ r ∈ bodyY p, r ∈ listY prev ps
  | prev, q :: ps, p, h, r, hr => by
    rw [listY]
    rcases List.mem_cons.1 h with rfl | h
    · simp [hr]
    · have := listY_body (some q.left) ps p h r hr
      simp [this]
/-- a name or a literal that stands in a text -/
structure GoodR (bs : List Nat) (r : RefY) : Prop where
  pre : r.2 = bs.take r.2.length
  le : r.2.length ≤ bs.length
  byte : ∀ y ∈ r.1, y < 256
  some_ : r.1 ≠ []
theorem good_of {bs : List Nat} {t : Tok} (h : TokOK bs t) (hs : isSymY t.1 = true) (hb : ∀ y ∈ bs, y < 256) : GoodR bs t.2 := by
  refine ⟨h.pre, Nat.le_of_lt h.lt, fun y hy => ?_, fun h0 => ?_⟩
  · rw [← h.text] at hy
    exact hb y (List.mem_of_mem_drop (List.mem_of_mem_take hy))
  · have h1 := h.name
    have h2 := h.lit
    rw [h0] at h1 h2
    have e1 : nameB [] = false := rfl
    have e2 : litB [] = false := by decide
    rw [e1] at h1
    rw [e2] at h2
    unfold isSymY at hs
    rw [Bool.or_eq_true, decide_eq_true_iff, decide_eq_true_iff] at hs
    rcases hs with hs | hs
    · rw [hs] at h1
      cases h1
    · rw [hs] at h2
      cases h2
theorem good_syms {bs : List Nat} {l : List Tok} (h : ∀ t ∈ l, TokOK bs t) (hb : ∀ y ∈ bs, y < 256) : ∀ r ∈ symsY l, GoodR bs r := fun r hr => by
  unfold symsY at hr
  obtain ⟨t, ht, rfl⟩ := List.mem_map.1 hr
  obtain ⟨h1, h2⟩ := List.mem_filter.1 ht
  exact good_of (h t h1) h2 hb
theorem str_inj {a b : List Nat} (ha : ∀ x ∈ a, x < 256) (hb : ∀ x ∈ b, x < 256) (h : str a = str b) : a = b := by
  have := congrArg bytesOf h
  rwa [bytesOf_str _ ha, bytesOf_str _ hb] at this
/-- two places of a text: as two complex numbers -/
theorem good_order {bs : List Nat} {a b : RefY} (ha : GoodR bs a) (hb : GoodR bs b) (hn : bs.length ≤ 100000) {u v u2 v2 : Nat} (h1 : PA a.2 = .complex .f64 u v) (h2 : PA b.2 = .complex .f64 u2 v2) :
    ((FloatKind.f64.format.order u u2 == some .eq) && (FloatKind.f64.format.order v v2 == some .eq)) = decide (a.2 = b.2) := by
  obtain ⟨u', v', u2', v2', e1, e2, _, e4⟩ := two_places bs a.2.length b.2.length ha.le hb.le hn
  rw [← ha.pre, h1] at e1
  rw [← hb.pre, h2] at e2
  injection e1 with _ e1 e1'
  injection e2 with _ e2 e2'
  subst e1 e1' e2 e2'
  rw [e4, Bool.eq_iff_iff, decide_eq_true_iff, decide_eq_true_iff]
  constructor
  · intro h
    rw [ha.pre, hb.pre, h]
  · intro h
    rw [h]
end Go.Proofs.Ytdeiipbnaknedaa
