/- draw: number. -/
import Derived.Test.YtapnnnciaagbdaaDrW4
namespace Go.Proofs.Ytapnnnciaagbdaa
open Go.RowKit
set_option linter.unusedVariables false
set_option linter.unusedSimpArgs false

theorem mask_last (k : Nat) (ws : List Nat) (l y : Nat) (hl : ws.length = l + 1) (hk1 : 32 * l < k) (hk2 : k < 32 * (l + 1)) (hy : ws[l]? = some y) :
    maskP k ws ws.length = ws.set l (y % 2 ^ (k - 32 * l)) := by
  rw [hl, maskP, maskP_take k ws l (by omega) (by omega), if_pos (by omega)]
  have e1 : ws.getD l 0 = y := by rw [List.getD_eq_getElem?_getD, hy]; rfl
  rw [e1]
  apply List.ext_getElem?
  intro i
  have ht : (ws.take l).length = l := by rw [List.length_take]; omega
  rcases Nat.lt_trichotomy i l with h | h | h
  · rw [List.getElem?_append_left (by omega), List.getElem?_take, if_pos h, List.getElem?_set, if_neg (by omega)]
  · subst h
    rw [List.getElem?_append_right (by omega), ht, List.getElem?_set, if_pos rfl, if_pos (by omega)]
    simp
  · rw [List.getElem?_append_right (by omega), ht, List.getElem?_set, if_neg (by omega)]
    rw [List.getElem?_eq_none (by simp; omega), List.getElem?_eq_none (by omega)]


set_option maxHeartbeats 1000000 in
theorem draw_number (A1 : Option Addr) (n c1 : Nat) (ws : List Nat) (k : Nat) (w : World) (h1 : Nums .u32 w A1 n c1 ws) (lw : Lim ws)
    (h0 : 0 < ws.length) (hk1 : 32 * (ws.length - 1) < k) (hk2 : k ≤ 32 * ws.length) (hn : ws.length ≤ 40) :
    Calls Try.prog 46 #[.slice A1 n c1, .int .i64 (k : Int)] w (RetLimbs w (oneOf k ws)) := by
  obtain rfl := h1.len
  have Hone := Lib.hid (oneOf_mask k ws lw h0 hk1 hk2)
  obtain ⟨l, hl⟩ : ∃ l, ws.length = l + 1 := ⟨ws.length - 1, by omega⟩
  obtain ⟨y, Hy⟩ : ∃ y, Hid (ws[l]? = some y) := ⟨_, Lib.hid (List.getElem?_eq_getElem (by omega))⟩
  have hyl := lw.of_get Hy.out
  obtain ⟨r, hr⟩ : ∃ r, r = k % 32 := ⟨_, rfl⟩
  have hkr : (k : Int) % 32 = (r : Int) := by omega
  have hr32 : r < 32 := by omega
  by_cases hr0 : 0 < r
  · have Hm := Lib.hid (mask_last k ws l y hl (by omega) (by omega) Hy.out)
    have hkl : k - 32 * l = r := by omega
    rw [hkl] at Hm
    clear hkl hr
    have hll : (ws.length : Int) - 1 = (l : Int) := by omega
    have hsh := shl_hand r hr32
    have hp32 : 2 ^ r < 4294967296 := by
      have := Nat.pow_lt_pow_right (a := 2) (by decide) hr32
      simpa using this
    have hpos : 0 < 2 ^ r := Nat.two_pow_pos r
    have hand : bits .and .u32 (y : Int) ((2 ^ r - 1 : Nat) : Int) = ((y % 2 ^ r : Nat) : Int) := by
      rw [u32_and_nat _ _ hyl (by omega), Nat.and_two_pow_sub_one_eq_mod]
    have hcast : ((2 ^ r : Nat) : Int) - 1 = ((2 ^ r - 1 : Nat) : Int) := by omega
    have hpi : (2 : Int) ^ r = ((2 ^ r : Nat) : Int) := by simp
    have hml : y % 2 ^ r < 4294967296 := Nat.lt_of_le_of_lt (Nat.mod_le _ _) hyl
    obtain ⟨m, Hmm⟩ : ∃ m, Hid (y % 2 ^ r = m) := ⟨_, Lib.hid rfl⟩
    rw [Hmm.out] at hand hml Hm
    obtain ⟨pw, Hpw⟩ : ∃ pw, Hid (2 ^ r = pw) := ⟨_, Lib.hid rfl⟩
    rw [Hpw.out] at hsh hp32 hpos hand hcast hpi
    have b1 : (0 : Int) ≤ (l : Int) := by omega
    have b2 : (l : Int) < (ws.length : Int) := by omega
    have hwr : IntKind.i64.wrap ((ws.length : Int) - 1) = (l : Int) := by rw [hll]; exact i64w (by omega) (by omega)
    have hwp : IntKind.u32.wrap ((pw : Int) - 1) = ((pw - 1 : Nat) : Int) := by rw [IntKind.wrap_u32]; omega
    have hlp : l < ws.length := by omega
    clear hl
    go_enter Try.func46, Try.ntmps46
    go_wp2_with (go_at_call 55; (with_reducible refine (clone_nat _ _ _ _ _ h1 (by omega)).mono ?_); rintro e w1 ⟨A, c, rfl, hown, hB1⟩)
    obtain ⟨g, u, rfl, hg, hgl, Hu, hc1, hfro⟩ := own_at hown (j := l) hlp
    have hu : u = .int .u32 (y : Int) := by
      obtain ⟨x', hx', rfl⟩ := nums_get _ _ _ _ Hu.out
      rw [Hy.out] at hx'
      injection hx' with hx'
      rw [hx']
    subst hu
    go_wp2
    go_region
    have h := own_set hown l (.int .u32 (m : Int))
    rw [← nums_set, ← Hm.out] at h
    have h : Nums .u32 (w1.setCell ⟨g, l, none⟩ (.int .u32 (m : Int))).drew (some ⟨g, 0, none⟩) ws.length c (maskP k ws ws.length) := Nums.drew (own_sl h)
    have hB : Below w.heap.size w (w1.setCell ⟨g, l, none⟩ (.int .u32 (m : Int))).drew := (hB1.setCell hg _).drew
    generalize (w1.setCell ⟨g, l, none⟩ (.int .u32 (m : Int))).drew = wr at *
    clear hc1 hfro hown Hm hwr hwp hand hsh hpi hcast
    obtain ⟨xs, Hxs⟩ : ∃ xs, Hid (maskP k ws ws.length = xs) := ⟨_, Lib.hid rfl⟩
    rw [Hxs.out] at h Hone
    have hl2 := h.len
    have Hl2 := Lib.hid hl2
    clear hl2
    have hcap := h.cap
    go_wp2
    go_loop [5] (fun v => ∃ q : Nat, q ≤ ws.length ∧ v = .slice (some ⟨g, 0, none⟩) q c ∧ neatL xs = neatL (xs.take q)) (fun v => lenOf v)
    case atStart => exact ⟨ws.length, Nat.le_refl _, rfl, by rw [List.take_of_length_le (by have := Hl2.out; omega)]⟩
    case round =>
      obtain ⟨q, hq, rfl, hrel⟩ := hrel
      have Hrel := Lib.hid hrel
      clear hrel
      by_cases hlt2 : 0 < q
      · obtain ⟨b, off, x, heA, hb, Hx, hc⟩ := h.get (j := q - 1) (by omega)
        injection heA with heA
        injection heA with e1 e2
        subst e1; subst e2
        try rw [Nat.zero_add] at hc
        have hll2 := Hl2.out
        have hqx : q ≤ xs.length := by omega
        clear hll2
        by_cases hx0 : x = 0
        · subst hx0
          go_wp2
          go_round
          case rel =>
            refine ⟨q - 1, by omega, by go_num, ?_⟩
            rw [Hrel.out]
            have := neatL_step xs (q - 1) (by omega) (by simp [Hx.out])
            rw [← this, show q - 1 + 1 = q from by omega]
          case measure => simp [lenOf]; omega
        · have ht : ((x : Int) == 0) = false := by simp [hx0]
          have hfin := neatL_stop xs (q - 1) (by omega) (by simpa [Hx.out] using hx0)
          rw [show q - 1 + 1 = q from by omega, ← Hrel.out] at hfin
          have hfin2 : (neatL xs).length = q := by rw [hfin]; simp; omega
          have Hf := Lib.hid hfin
          have Hf2 := Lib.hid hfin2
          clear hfin hfin2
          go_wp2
          go_ret
          rw [← Hone.out]
          refine ⟨(some ⟨g, 0, none⟩), c, by rw [Hf2.out]; rfl, ?_, hB⟩
          rw [Hf2.out, Hf.out]
          exact h.take q c hq (by omega) (by omega)
      · have hfin : neatL xs = [] := by rw [Hrel.out, show q = 0 from by omega]; simp [neatL]
        have Hf := Lib.hid hfin
        clear hfin
        obtain rfl : q = 0 := by omega
        go_wp2
        go_ret
        rw [← Hone.out, Hf.out]
        exact ⟨_, _, rfl, Nums.nil _ _ _ _ (by omega), hB⟩
  · have hr0' : r = 0 := by omega
    have hkk : k = 32 * ws.length := by omega
    have Hm : Hid (maskP k ws ws.length = ws) := Lib.hid (by rw [maskP_take k ws ws.length (Nat.le_refl _) (by omega), List.take_length])
    subst hr0'
    clear hr hl hkk
    go_enter Try.func46, Try.ntmps46
    go_wp2_with (go_at_call 55; (with_reducible refine (clone_nat _ _ _ _ _ h1 (by omega)).mono ?_); rintro e wr ⟨A, c, rfl, hown, hB⟩)
    have h : Nums .u32 wr A ws.length c (maskP k ws ws.length) := by rw [Hm.out]; exact own_sl hown
    obtain ⟨g, o, _, rfl, _⟩ := h.get (j := 0) h0
    clear hown Hm
    obtain ⟨xs, Hxs⟩ : ∃ xs, Hid (maskP k ws ws.length = xs) := ⟨_, Lib.hid rfl⟩
    rw [Hxs.out] at h Hone
    have hl2 := h.len
    have Hl2 := Lib.hid hl2
    clear hl2
    have hcap := h.cap
    go_wp2
    go_loop [5] (fun v => ∃ q : Nat, q ≤ ws.length ∧ v = .slice (some ⟨g, o, none⟩) q c ∧ neatL xs = neatL (xs.take q)) (fun v => lenOf v)
    case atStart => exact ⟨ws.length, Nat.le_refl _, rfl, by rw [List.take_of_length_le (by have := Hl2.out; omega)]⟩
    case round =>
      obtain ⟨q, hq, rfl, hrel⟩ := hrel
      have Hrel := Lib.hid hrel
      clear hrel
      by_cases hlt2 : 0 < q
      · obtain ⟨b, off, x, heA, hb, Hx, hc⟩ := h.get (j := q - 1) (by omega)
        injection heA with heA
        injection heA with e1 e2
        subst e1; subst e2
        try rw [Nat.zero_add] at hc
        have hll2 := Hl2.out
        have hqx : q ≤ xs.length := by omega
        clear hll2
        by_cases hx0 : x = 0
        · subst hx0
          go_wp2
          go_round
          case rel =>
            refine ⟨q - 1, by omega, by go_num, ?_⟩
            rw [Hrel.out]
            have := neatL_step xs (q - 1) (by omega) (by simp [Hx.out])
            rw [← this, show q - 1 + 1 = q from by omega]
          case measure => simp [lenOf]; omega
        · have ht : ((x : Int) == 0) = false := by simp [hx0]
          have hfin := neatL_stop xs (q - 1) (by omega) (by simpa [Hx.out] using hx0)
          rw [show q - 1 + 1 = q from by omega, ← Hrel.out] at hfin
          have hfin2 : (neatL xs).length = q := by rw [hfin]; simp; omega
          have Hf := Lib.hid hfin
          have Hf2 := Lib.hid hfin2
          clear hfin hfin2
          go_wp2
          go_ret
          rw [← Hone.out]
          refine ⟨(some ⟨g, o, none⟩), c, by rw [Hf2.out]; rfl, ?_, hB⟩
          rw [Hf2.out, Hf.out]
          exact h.take q c hq (by omega) (by omega)
      · have hfin : neatL xs = [] := by rw [Hrel.out, show q = 0 from by omega]; simp [neatL]
        have Hf := Lib.hid hfin
        clear hfin
        obtain rfl : q = 0 := by omega
        go_wp2
        go_ret
        rw [← Hone.out, Hf.out]
        exact ⟨_, _, rfl, Nums.nil _ _ _ _ (by omega), hB⟩
end Go.Proofs.Ytapnnnciaagbdaa
