/- place: the laws, walked. -/
import Derived.Test.YtcmfflfgegadjaaDoorPlL1
namespace Go.Proofs.YtcmfflfgegadjaaDoor
open Go.RowKit
set_option linter.unusedVariables false
set_option linter.unusedSimpArgs false

/-- the bytes of a row -/
theorem row_bytes {w : World} {a : Option Addr} {len cap : Nat} {zs : List Int} (h : IsRow .u8 w a len cap zs) :
    ∃ bs : List Nat, Nums .u8 w a len cap bs ∧ ∀ x ∈ bs, x < 256 := by
  obtain ⟨xs, hx, hw⟩ := h.ints
  have e : nums .u8 (xs.map Int.toNat) = ints .u8 xs := by
    unfold nums ints
    rw [List.map_map]
    refine List.map_congr_left fun x hx => ?_
    have := (Go.bounds_u8 (hw x hx)).1
    show Value.int .u8 ((x.toNat : Nat) : Int) = _
    rw [Int.toNat_of_nonneg this]
  refine ⟨xs.map Int.toNat, ?_, fun y hy => ?_⟩
  · unfold Nums; rw [e]; exact hx
  · simp only [List.mem_map] at hy
    obtain ⟨x, hx, rfl⟩ := hy
    have := Go.bounds_u8 (hw x hx)
    omega

theorem PV_self (l c : Nat) (hl : l < 9007199254740992) (hc : c < 9007199254740992) : ∃ x y, PV l c = .complex .f64 x y ∧ FloatKind.f64.format.order x x = some .eq ∧ FloatKind.f64.format.order y y = some .eq := by
  refine ⟨fN l, fN c, rfl, ?_, ?_⟩
  · rw [ordN l l hl hl, Nat.compare_eq_eq.2 rfl]
  · rw [ordN c c hc hc, Nat.compare_eq_eq.2 rfl]
theorem ofP_cases (a b : Int) : ∃ l c, ofP a b = PV l c ∧ l ≤ 1073741824 ∧ c ≤ 1073741824 := by
  unfold ofP
  split
  · rename_i h
    exact ⟨a.toNat, b.toNat, rfl, by omega, by omega⟩
  · exact ⟨0, 0, rfl, by decide, by decide⟩
theorem ofP_self (a b : Int) : ∃ x y, ofP a b = .complex .f64 x y ∧ FloatKind.f64.format.order x x = some .eq ∧ FloatKind.f64.format.order y y = some .eq := by
  obtain ⟨l, c, h, h1, h2⟩ := ofP_cases a b
  rw [h]
  exact PV_self l c (by omega) (by omega)
theorem atP_self (bs : List Nat) (i : Int) (h : bs.length ≤ 100000) : ∃ x y, atP bs i = .complex .f64 x y ∧ FloatKind.f64.format.order x x = some .eq ∧ FloatKind.f64.format.order y y = some .eq := by
  unfold atP
  split
  · obtain ⟨_, h1, _, h2⟩ := atN_bd (bs.take i.toNat)
    have : (bs.take i.toNat).length ≤ bs.length := by rw [List.length_take]; omega
    exact PV_self _ _ (by omega) (by omega)
  · exact PV_self 0 0 (by decide) (by decide)

set_option maxHeartbeats 1000000 in
theorem placeMakes_walk (a0 a1 : Int) (a2 : Option Addr) (len2 cap2 : Nat) (z2 : List Int) (W : World) (w0 : (Lit.int .i64 a0).wf = true) (w1 : (Lit.int .i64 a1).wf = true) (w2 : IsRow .u8 W a2 len2 cap2 z2) :
    Calls Tryd.prog 3 #[.int .i64 a0, .int .i64 a1, .slice a2 len2 cap2] W fun e w' => e = .returned (.bool true) ∧ Below W.heap.size W w' := by
  obtain ⟨bs, hb, _⟩ := row_bytes w2
  clear w0 w1 w2
  obtain rfl := hb.len
  by_cases hlen : bs.length ≤ 2000
  case neg =>
    have hg : (2000 : Int) < (bs.length : Int) := by omega
    go_enter Tryd.func3, Tryd.ntmps3
    go_wp2_with (go_at_call 6; (with_reducible refine (alive06 _).mono ?_); rintro e w1 ⟨rfl, hB⟩)
    go_ret
    exact ⟨rfl, hB⟩
  have hg : ¬ (2000 : Int) < (bs.length : Int) := by omega
  obtain ⟨x1, y1, e1, p1, q1⟩ := ofP_self a0 a1
  obtain ⟨x2, y2, e2, p2, q2⟩ := atP_self bs a0 (by omega)
  obtain ⟨x3, y3, e3, p3, q3⟩ := atP_self bs a1 (by omega)
  have K1 : Hid (bs.length ≤ 100000) := Lib.hid (by omega)
  have E1 := Lib.hid e1
  have E2 := Lib.hid e2
  have E3 := Lib.hid e3
  clear e1 e2 e3 hlen
  go_enter Tryd.func3, Tryd.ntmps3
  go_wp2_with (go_at_call 6; (with_reducible refine (alive06 _).mono ?_); rintro e w1 ⟨rfl, hB⟩)
  have hb1 := hb.below hB
  have c1 := pl_of a0 a1 w1
  have c2 := ref_of a0 a1 w1
  have c3 := pl_at a2 bs.length cap2 bs a0 w1 hb1 K1.out
  have c4 := ref_at a2 bs.length cap2 bs a0 w1 hb1 K1.out
  have c5 := pl_at a2 bs.length cap2 bs a1 w1 hb1 K1.out
  have c6 := ref_at a2 bs.length cap2 bs a1 w1 hb1 K1.out
  rw [E1.out] at c1 c2
  rw [E2.out] at c3 c4
  rw [E3.out] at c5 c6
  have C1 := Lib.hid c1
  have C2 := Lib.hid c2
  have C3 := Lib.hid c3
  have C4 := Lib.hid c4
  have C5 := Lib.hid c5
  have C6 := Lib.hid c6
  clear c1 c2 c3 c4 c5 c6
  go_wp2_with (first
    | (with_reducible refine C1.out.mono ?_; rintro e w' ⟨rfl, rfl⟩)
    | (with_reducible refine C2.out.mono ?_; rintro e w' ⟨rfl, rfl⟩)
    | (with_reducible refine C3.out.mono ?_; rintro e w' ⟨rfl, rfl⟩)
    | (with_reducible refine C4.out.mono ?_; rintro e w' ⟨rfl, rfl⟩)
    | (with_reducible refine C5.out.mono ?_; rintro e w' ⟨rfl, rfl⟩)
    | (with_reducible refine C6.out.mono ?_; rintro e w' ⟨rfl, rfl⟩))
  go_ret
  exact ⟨rfl, hB⟩

/-! ### the steps -/
def ltP (p q : Nat × Nat) : Prop := p.1 < q.1 ∨ (p.1 = q.1 ∧ p.2 < q.2)
theorem ltP_step (p : Nat × Nat) (b : Nat) : ltP p (stepP p b) := by
  unfold ltP stepP
  split <;> simp
theorem ltP_trans {p q r : Nat × Nat} (h : ltP p q) (k : ltP q r) : ltP p r := by
  unfold ltP at *
  omega
theorem atN_lt (bs : List Nat) (x d : Nat) (h : x + d + 1 ≤ bs.length) : ltP (atN (bs.take x)) (atN (bs.take (x + d + 1))) := by
  induction d with
  | zero =>
    rw [Nat.add_zero, List.take_add_one, List.getElem?_eq_getElem (by omega)]
    show ltP _ (atN (_ ++ [_]))
    rw [atN_snoc]
    exact ltP_step _ _
  | succ d ih =>
    refine ltP_trans (ih (by omega)) ?_
    rw [show x + (d + 1) + 1 = x + d + 1 + 1 from by omega]
    rw [List.take_add_one (i := x + d + 1), List.getElem?_eq_getElem (by omega)]
    show ltP _ (atN (_ ++ [_]))
    rw [atN_snoc]
    exact ltP_step _ _
theorem atN_mono (bs : List Nat) (x y : Nat) (h : x < y) (hy : y ≤ bs.length) : ltP (atN (bs.take x)) (atN (bs.take y)) := by
  have := atN_lt bs x (y - x - 1) (by omega)
  rwa [show x + (y - x - 1) + 1 = y from by omega] at this

theorem eq_bits (l c l2 c2 : Nat) (hl : l < 9007199254740992) (hc : c < 9007199254740992) (hl2 : l2 < 9007199254740992) (hc2 : c2 < 9007199254740992) :
    ((FloatKind.f64.format.order (fN l) (fN l2) == some .eq) && (FloatKind.f64.format.order (fN c) (fN c2) == some .eq)) = decide (l = l2 ∧ c = c2) := by
  rw [ordN l l2 hl hl2, ordN c c2 hc hc2, cmp_eq, cmp_eq, Bool.decide_and]

/-- all of it, for two places of a text -/
theorem steps_plain (bs : List Nat) (x y : Nat) (hx : x < bs.length) (hy : y < bs.length) (hn : bs.length ≤ 2000) :
    ∃ u v u2 v2, atP bs (x : Int) = .complex .f64 u v ∧ atP bs (y : Int) = .complex .f64 u2 v2 ∧
      (∀ w, Calls Tryd.prog 13 #[.complex .f64 u v, .complex .f64 u2 v2] w fun e w' => e = .returned (.bool (decide (x < y))) ∧ w = w') ∧
      ((FloatKind.f64.format.order u u2 == some .eq) && (FloatKind.f64.format.order v v2 == some .eq)) = decide (x = y) := by
  have e1 : atP bs (x : Int) = PV (atN (bs.take x)).1 (atN (bs.take x)).2 := by unfold atP; rw [if_pos (by omega), Int.toNat_natCast]
  have e2 : atP bs (y : Int) = PV (atN (bs.take y)).1 (atN (bs.take y)).2 := by unfold atP; rw [if_pos (by omega), Int.toNat_natCast]
  obtain ⟨a1, a2, a3, a4⟩ := atN_bd (bs.take x)
  obtain ⟨b1, b2, b3, b4⟩ := atN_bd (bs.take y)
  have l1 : (bs.take x).length ≤ 2000 := by rw [List.length_take]; omega
  have l2 : (bs.take y).length ≤ 2000 := by rw [List.length_take]; omega
  have m1 : x < y → ltP (atN (bs.take x)) (atN (bs.take y)) := fun h => atN_mono bs x y h (by omega)
  have m2 : y < x → ltP (atN (bs.take y)) (atN (bs.take x)) := fun h => atN_mono bs y x h (by omega)
  have m3 : x = y → atN (bs.take x) = atN (bs.take y) := fun h => by rw [h]
  refine ⟨_, _, _, _, e1, e2, fun w => ?_, ?_⟩
  · have hb := pl_before (atN (bs.take x)).1 (atN (bs.take x)).2 (atN (bs.take y)).1 (atN (bs.take y)).2 w (by omega) (by omega) (by omega) (by omega)
    have : beforeP (atN (bs.take x)).1 (atN (bs.take x)).2 (atN (bs.take y)).1 (atN (bs.take y)).2 = decide (x < y) := by
      unfold beforeP
      rw [okP_of a1 (by omega) a3 (by omega), okP_of b1 (by omega) b3 (by omega)]
      generalize atN (bs.take x) = p at *
      generalize atN (bs.take y) = q at *
      unfold ltP at *
      rcases Nat.lt_trichotomy x y with h | h | h
      · have := m1 h
        simp [h]; omega
      · have := m3 h
        subst this
        simp [h]
      · have := m2 h
        have h' : ¬ x < y := by omega
        simp [h']; omega
    rw [this] at hb
    exact hb
  · rw [eq_bits _ _ _ _ (by omega) (by omega) (by omega) (by omega)]
    generalize atN (bs.take x) = p at *
    generalize atN (bs.take y) = q at *
    unfold ltP at *
    rcases Nat.lt_trichotomy x y with h | h | h
    · have := m1 h
      have h' : ¬ x = y := by omega
      simp [h']; omega
    · have := m3 h
      subst this
      simp [h]
    · have := m2 h
      have h' : ¬ x = y := by omega
      simp [h']; omega
end Go.Proofs.YtcmfflfgegadjaaDoor
