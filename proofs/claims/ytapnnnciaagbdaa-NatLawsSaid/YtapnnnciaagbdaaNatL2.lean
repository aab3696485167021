/- Walks: the laws NatBack, NatLaws. -/
import Derived.Test.YtapnnnciaagbdaaNatL1
import Derived.Test.YtapnnnciaagbdaaNatPlain4
namespace Go.Proofs.Ytapnnnciaagbdaa
open Go.RowKit
set_option linter.unusedVariables false
set_option linter.unusedSimpArgs false

theorem str_size (l : List Nat) : (str l).size = l.length := by
  show (str l).data.size = _
  simp [str]

theorem lt_bytes (v k : Nat) (h : v < 2 ^ k) : ∀ c ∈ (digR v).reverse, c < 256 := fun c hc => by
  have := digR_byte v k h c (List.mem_reverse.1 hc)
  omega

set_option maxHeartbeats 2000000 in
theorem natBack_walk (a0 : Option Addr) (len0 cap0 : Nat) (z0 : List Int) (s1 : ByteArray) (W : World) (w0 : IsRow .u32 W a0 len0 cap0 z0) (w1 : s1.size ≤ maxLen) :
    Calls Try.prog 13 #[.slice a0 len0 cap0, .string s1] W fun e w' => e = .returned (.bool true) ∧ Below W.heap.size W w' := by
  obtain ⟨xs, hx, lx⟩ := w0.limbs
  unfold maxLen at w1
  clear w0
  by_cases hr : rightB xs = true
  case neg =>
    have hr' : rightB xs = false := by simpa using hr
    clear hr
    go_enter Try.func13, Try.ntmps13
    go_wp2_with (first
      | (go_at_call 23; (with_reducible refine (alive01 _).mono ?_); rintro e w1 ⟨rfl, hb1⟩)
      | (go_at_call 31; (with_reducible refine (ref_right _ _ _ _ _ (hx.below hb1)).mono ?_); rintro e w2 ⟨rfl, rfl⟩))
    go_ret
    exact ⟨rfl, hb1⟩
  by_cases hs : s1.size ≤ 400
  case neg =>
    have hs' : (400 : Int) < (s1.size : Int) := by omega
    clear hs
    go_enter Try.func13, Try.ntmps13
    go_wp2_with (first
      | (go_at_call 23; (with_reducible refine (alive01 _).mono ?_); rintro e w1 ⟨rfl, hb1⟩)
      | (go_at_call 31; (with_reducible refine (ref_right _ _ _ _ _ (hx.below hb1)).mono ?_); rintro e w2 ⟨rfl, rfl⟩))
    go_ret
    exact ⟨rfl, hb1⟩
  obtain ⟨hxv, hv⟩ := limbs_of_right xs lx hr
  generalize val xs = v at *
  subst hxv
  have hdl := digR_len_big v hv
  have hs' : ¬ (400 : Int) < (s1.size : Int) := by omega
  go_enter Try.func13, Try.ntmps13
  go_wp2_with (first
    | (go_at_call 23; (with_reducible refine (alive01 _).mono ?_); rintro e w1 ⟨rfl, hb1⟩)
    | (go_at_call 31; (with_reducible refine (ref_right _ _ _ _ _ (hx.below hb1)).mono ?_); rintro e w2 ⟨rfl, rfl⟩))
  have h := nat_text a0 _ cap0 _ w1 (hx.below hb1) lx
  rw [show textN (limbs v) = (digR v).reverse from by simp [textN, hr, val_limbs]] at h
  refine h.mono ?_
  rintro e w2 ⟨rfl, hb2⟩
  clear h
  go_wp2_with fail
  have h := nat_parse (str (digR v).reverse) w2 (by rw [str_size, List.length_reverse]; omega)
  rw [bytesOf_str _ (lt_bytes v (v.log2 + 1) Nat.lt_log2_self), parse_text v hv] at h
  refine h.mono ?_
  rintro e w3 ⟨A3, c3, rfl, h3, hb3⟩
  clear h
  go_wp2_with fail
  have h := nat_parse s1 w3 (by omega)
  have hpb := parse_back (bytesOf s1)
  have hpe := parse_err (bytesOf s1)
  generalize parseN (bytesOf s1) = p at *
  obtain ⟨zs, e4⟩ := p
  refine h.mono ?_
  rintro e w4 ⟨A4, c4, rfl, h4, hb4⟩
  clear h
  have hB : Below W.heap.size W w4 := below_tail (below_tail (below_tail hb1 hb2) hb3) hb4
  dsimp only at hpb hpe h4
  by_cases he : e4 = 0
  · subst he
    obtain ⟨ht, hzr, hzl⟩ := hpb rfl
    clear hpb hpe
    have Ht := Lib.hid ht
    clear ht
    go_wp2_with fail
    have h := ref_same A3 _ c3 _ a0 _ cap0 _ w4 (h3.below hb4) (hx.below hB)
    rw [show (limbs v == limbs v) = true from by simp] at h
    refine h.mono ?_
    rintro e w5 ⟨rfl, hs5⟩
    clear h
    go_wp2_with fail
    have h := nat_text A4 _ c4 zs w5 (h4.same hs5) hzl
    rw [Ht.out, str_bytesOf] at h
    refine h.mono ?_
    rintro e w6 ⟨rfl, hb6⟩
    clear h
    go_wp2_with fail
    refine (nat_right A4 _ c4 zs w6 ((h4.same hs5).below hb6)).mono ?_
    rintro e w7 ⟨rfl, rfl⟩
    go_wp2_with fail
    go_ret
    exact ⟨rfl, (hB.trans (hs5.below _)).trans (hb6.mono (by rw [hs5.size]; exact hB.size))⟩
  · have hz := hpe he
    subst hz
    have hne : ((e4 : Int) != 0) = true := by rw [bne_iff_ne]; omega
    clear hpb hpe
    go_wp2_with fail
    have h := ref_same A3 _ c3 _ a0 _ cap0 _ w4 (h3.below hb4) (hx.below hB)
    rw [show (limbs v == limbs v) = true from by simp] at h
    refine h.mono ?_
    rintro e w5 ⟨rfl, hs5⟩
    clear h
    go_wp2_with fail
    go_ret
    exact ⟨rfl, hB.trans (hs5.below _)⟩

set_option maxHeartbeats 1000000 in
theorem natLaws_walk (a0 : Option Addr) (len0 cap0 : Nat) (z0 : List Int) (a1 : Option Addr) (len1 cap1 : Nat) (z1 : List Int) (a2 : Option Addr) (len2 cap2 : Nat) (z2 : List Int) (W : World)
    (w0 : IsRow .u32 W a0 len0 cap0 z0) (w1 : IsRow .u32 W a1 len1 cap1 z1) (w2 : IsRow .u32 W a2 len2 cap2 z2) :
    Calls Try.prog 11 #[.slice a0 len0 cap0, .slice a1 len1 cap1, .slice a2 len2 cap2] W fun e w' => e = .returned (.bool true) ∧ Below W.heap.size W w' := by
  obtain ⟨xs, hx, lx⟩ := w0.limbs
  obtain ⟨ys, hy, ly⟩ := w1.limbs
  obtain ⟨zs, hz, lz⟩ := w2.limbs
  clear w0 w1 w2
  obtain rfl := hx.len
  obtain rfl := hy.len
  obtain rfl := hz.len
  by_cases hr : (rightB xs = true ∧ rightB ys = true ∧ rightB zs = true)
  case neg =>
    have hways : rightB xs = false ∨ (rightB xs = true ∧ rightB ys = false) ∨ (rightB xs = true ∧ rightB ys = true ∧ rightB zs = false) := by
      by_cases h1 : rightB xs = true
      · by_cases h2 : rightB ys = true
        · exact .inr (.inr ⟨h1, h2, by rw [← Bool.not_eq_true]; exact fun h3 => hr ⟨h1, h2, h3⟩⟩)
        · exact .inr (.inl ⟨h1, by rw [← Bool.not_eq_true]; exact h2⟩)
      · exact .inl (by rw [← Bool.not_eq_true]; exact h1)
    clear hr
    rcases hways with h1 | ⟨h1, h2⟩ | ⟨h1, h2, h3⟩
    all_goals
      go_enter Try.func11, Try.ntmps11
      go_wp2_with (first
        | (go_at_call 23; (with_reducible refine (alive01 _).mono ?_); rintro e w1 ⟨rfl, hb1⟩)
        | (go_at_call 31; (with_reducible refine (ref_right _ _ _ _ _ (hx.below hb1)).mono ?_); rintro e w2 ⟨rfl, rfl⟩)
        | (go_at_call 31; (with_reducible refine (ref_right _ _ _ _ _ (hy.below hb1)).mono ?_); rintro e w2 ⟨rfl, rfl⟩)
        | (go_at_call 31; (with_reducible refine (ref_right _ _ _ _ _ (hz.below hb1)).mono ?_); rintro e w2 ⟨rfl, rfl⟩))
      go_ret
      exact ⟨rfl, hb1⟩
  obtain ⟨r1, r2, r3⟩ := hr
  obtain ⟨hxv, ha⟩ := limbs_of_right xs lx r1
  generalize val xs = a at *
  subst hxv
  obtain ⟨hyv, hb⟩ := limbs_of_right ys ly r2
  generalize val ys = b at *
  subst hyv
  obtain ⟨hzv, hc⟩ := limbs_of_right zs lz r3
  generalize val zs = c at *
  subst hzv
  go_enter Try.func11, Try.ntmps11
  go_wp2_with (first
    | (go_at_call 23; (with_reducible refine (alive01 _).mono ?_); rintro e w1 ⟨rfl, hb1⟩)
    | (go_at_call 31; (with_reducible refine (ref_right _ _ _ _ _ (hx.below hb1)).mono ?_); rintro e w2 ⟨rfl, rfl⟩)
    | (go_at_call 31; (with_reducible refine (ref_right _ _ _ _ _ (hy.below hb1)).mono ?_); rintro e w2 ⟨rfl, rfl⟩)
    | (go_at_call 31; (with_reducible refine (ref_right _ _ _ _ _ (hz.below hb1)).mono ?_); rintro e w2 ⟨rfl, rfl⟩))
  replace hx := hx.below hb1
  replace hy := hy.below hb1
  replace hz := hz.below hb1
  refine (nat_add_l a0 cap0 a a1 cap1 b w1 hx hy ha hb).mono ?_
  rintro e w2 ⟨A2, c2, rfl, h2, hb2⟩
  replace hx := hx.below hb2
  replace hy := hy.below hb2
  replace hz := hz.below hb2
  replace hb1 := below_tail hb1 hb2
  go_wp2_with fail
  have h := nat_add_l a1 cap1 b a0 cap0 a w2 hy hx hb ha
  rw [Nat.add_comm b a] at h
  refine h.mono ?_
  rintro e w3 ⟨A3, c3, rfl, h3, hb3⟩
  clear h
  replace hx := hx.below hb3
  replace hy := hy.below hb3
  replace hz := hz.below hb3
  replace h2 := h2.below hb3
  replace hb1 := below_tail hb1 hb3
  have hp : (fitN (a + b) = (limbs (a + b), 0) ∧ a + b < big) ∨ fitN (a + b) = ([], 2) := by
    by_cases h : a + b < big
    · exact .inl ⟨fitN_ok h, h⟩
    · exact .inr (fitN_no h)
  rcases hp with ⟨hp, hab⟩ | hp
  · rw [hp] at h2 h3 ⊢
    clear hp
    dsimp only at h2 h3
    go_wp2_with fail
    have h := ref_same A2 _ c2 _ A3 _ c3 _ w3 h2 h3
    rw [show (limbs (a + b) == limbs (a + b)) = true from by simp] at h
    refine h.mono ?_
    rintro e w4 ⟨rfl, hs4⟩
    clear h
    replace hx := hx.same hs4
    replace hy := hy.same hs4
    replace hz := hz.same hs4
    replace h2 := h2.same hs4
    replace hb1 := hb1.trans (hs4.below _)
    go_wp2_with fail
    have h := nat_sub A2 _ c2 _ a1 _ cap1 _ w4 h2 hy (limbs_lim _) (limbs_lim _)
    rw [show subN (limbs (a + b)) (limbs b) = (limbs a, 0) from by simp [subN, right_of_limbs _ hab, right_of_limbs _ hb, val_limbs]] at h
    refine h.mono ?_
    rintro e w5 ⟨A5, c5, rfl, h5, hb5⟩
    clear h
    replace hx := hx.below hb5
    replace hy := hy.below hb5
    replace hz := hz.below hb5
    replace h2 := h2.below hb5
    replace hb1 := below_tail hb1 hb5
    go_wp2_with fail
    have h := ref_same A5 _ c5 _ a0 _ cap0 _ w5 h5 hx
    rw [show (limbs a == limbs a) = true from by simp] at h
    refine h.mono ?_
    rintro e w6 ⟨rfl, hs6⟩
    clear h
    replace hx := hx.same hs6
    replace hy := hy.same hs6
    replace hz := hz.same hs6
    replace h2 := h2.same hs6
    replace hb1 := hb1.trans (hs6.below _)
    go_wp2_with fail
    refine (nat_mul_l A2 c2 (a + b) a2 cap2 c w6 h2 hz hab hc).mono ?_
    rintro e w7 ⟨A7, c7, rfl, h7, hb7⟩
    replace hx := hx.below hb7
    replace hy := hy.below hb7
    replace hz := hz.below hb7
    replace h2 := h2.below hb7
    replace hb1 := below_tail hb1 hb7
    go_wp2_with fail
    refine (nat_mul_l a0 cap0 a a2 cap2 c w7 hx hz ha hc).mono ?_
    rintro e w8 ⟨A8, c8, rfl, h8, hb8⟩
    replace hy := hy.below hb8
    replace hz := hz.below hb8
    replace h2 := h2.below hb8
    replace h7 := h7.below hb8
    replace hb1 := below_tail hb1 hb8
    go_wp2_with fail
    refine (nat_mul_l a1 cap1 b a2 cap2 c w8 hy hz hb hc).mono ?_
    rintro e w9 ⟨A9, c9, rfl, h9, hb9⟩
    replace hz := hz.below hb9
    replace h2 := h2.below hb9
    replace h7 := h7.below hb9
    replace h8 := h8.below hb9
    replace hb1 := below_tail hb1 hb9
    by_cases hbig : (a + b) * c < big
    · have hac : a * c < big := Nat.lt_of_le_of_lt (Nat.mul_le_mul_right _ (Nat.le_add_right a b)) hbig
      have hbc : b * c < big := Nat.lt_of_le_of_lt (Nat.mul_le_mul_right _ (Nat.le_add_left b a)) hbig
      rw [fitN_ok hbig] at h7 ⊢
      rw [fitN_ok hac] at h8 ⊢
      rw [fitN_ok hbc] at h9 ⊢
      dsimp only at h7 h8 h9
      go_wp2_with fail
      have h := nat_add_l A8 c8 (a * c) A9 c9 (b * c) w9 h8 h9 hac hbc
      rw [← Nat.add_mul, fitN_ok hbig] at h
      refine h.mono ?_
      rintro e w10 ⟨A10, c10, rfl, h10, hb10⟩
      clear h
      replace hz := hz.below hb10
      replace h2 := h2.below hb10
      replace h7 := h7.below hb10
      replace hb1 := below_tail hb1 hb10
      go_wp2_with fail
      have h := nat_mul_l a2 cap2 c A2 c2 (a + b) w10 hz h2 hc hab
      rw [Nat.mul_comm c (a + b), fitN_ok hbig] at h
      refine h.mono ?_
      rintro e w11 ⟨A11, c11, rfl, h11, hb11⟩
      clear h
      replace h7 := h7.below hb11
      replace h10 := h10.below hb11
      replace hb1 := below_tail hb1 hb11
      dsimp only at h10 h11
      go_wp2_with fail
      have h := ref_same A10 _ c10 _ A7 _ c7 _ w11 h10 h7
      rw [show (limbs ((a + b) * c) == limbs ((a + b) * c)) = true from by simp] at h
      refine h.mono ?_
      rintro e w12 ⟨rfl, hs12⟩
      clear h
      go_wp2_with fail
      have h := ref_same A11 _ c11 _ A7 _ c7 _ w12 (h11.same hs12) (h7.same hs12)
      rw [show (limbs ((a + b) * c) == limbs ((a + b) * c)) = true from by simp] at h
      refine h.mono ?_
      rintro e w13 ⟨rfl, hs13⟩
      clear h
      go_wp2_with fail
      go_ret
      exact ⟨rfl, (hb1.trans (hs12.below _)).trans (hs13.below _)⟩
    · rw [fitN_no hbig] at h7 ⊢
      go_wp2_with fail
      go_ret
      exact ⟨rfl, hb1⟩
  · rw [hp] at h2 h3 ⊢
    clear hp
    dsimp only at h2 h3
    go_wp2_with fail
    have h := ref_same A2 _ c2 _ A3 _ c3 _ w3 h2 h3
    rw [show (([] : List Nat) == []) = true from rfl] at h
    refine h.mono ?_
    rintro e w4 ⟨rfl, hs4⟩
    clear h
    replace hx := hx.same hs4
    replace hy := hy.same hs4
    replace hz := hz.same hs4
    replace h2 := h2.same hs4
    replace hb1 := hb1.trans (hs4.below _)
    go_wp2_with fail
    refine (nat_mul A2 0 c2 [] a2 _ cap2 _ w4 h2 hz Lim.nil (limbs_lim _)).mono ?_
    rintro e w7 ⟨A7, c7, rfl, h7, hb7⟩
    replace hx := hx.below hb7
    replace hy := hy.below hb7
    replace hz := hz.below hb7
    replace hb1 := below_tail hb1 hb7
    go_wp2_with fail
    refine (nat_mul_l a0 cap0 a a2 cap2 c w7 hx hz ha hc).mono ?_
    rintro e w8 ⟨A8, c8, rfl, h8, hb8⟩
    replace hy := hy.below hb8
    replace hz := hz.below hb8
    replace hb1 := below_tail hb1 hb8
    go_wp2_with fail
    refine (nat_mul_l a1 cap1 b a2 cap2 c w8 hy hz hb hc).mono ?_
    rintro e w9 ⟨A9, c9, rfl, h9, hb9⟩
    replace hb1 := below_tail hb1 hb9
    go_wp2_with fail
    go_ret
    exact ⟨rfl, hb1⟩
end Go.Proofs.Ytapnnnciaagbdaa
