/- Walk: nat's Parse. -/
import Derived.Test.YtapnnnciaagbdaaNatW7
namespace Go.Proofs.Ytapnnnciaagbdaa
open Go.RowKit
set_option linter.unusedVariables false
set_option linter.unusedSimpArgs false

/-- a string's bytes -/
def bytesOf (s : ByteArray) : List Nat := s.data.toList.map UInt8.toNat
theorem bytesOf_len (s : ByteArray) : (bytesOf s).length = s.size := by simp [bytesOf]
theorem bytesOf_get (s : ByteArray) (k : Nat) (h : k < s.size) : (bytesOf s)[k]? = some s[k].toNat := by
  simp only [bytesOf, List.getElem?_map]
  rw [List.getElem?_eq_getElem (by simpa using h)]
  rfl
theorem bytesOf_str (l : List Nat) (h : ∀ c ∈ l, c < 256) : bytesOf (str l) = l := by
  simp only [bytesOf, str, List.map_map]
  conv => rhs; rw [← List.map_id l]
  apply List.map_congr_left
  intro c hc
  have := h c hc
  simp only [Function.comp, id, UInt8.toNat_ofNat']
  omega
theorem bytesOf_lt (s : ByteArray) : ∀ c ∈ bytesOf s, c < 256 := by
  intro c hc
  simp only [bytesOf, List.mem_map] at hc
  obtain ⟨b, _, rfl⟩ := hc
  exact b.toNat_lt
theorem str_bytesOf (s : ByteArray) : str (bytesOf s) = s := by
  cases s with | mk d =>
  simp [str, bytesOf, Function.comp_def]

theorem str_size (l : List Nat) : (str l).size = l.length := by
  show (str l).data.size = _
  simp [str]
theorem isEmpty_str (s : ByteArray) (h : 0 < s.size) : s.toList.isEmpty = false ∧ ¬ s.toList = [] := by
  have e : s.toList = s.data.toList := ByteArray.toList_eq s
  have hl : s.data.toList.length = s.size := by simp
  constructor
  · rw [e, List.isEmpty_eq_false_iff]
    intro h0; rw [h0] at hl; simp at hl; omega
  · rw [e]; intro h0; rw [h0] at hl; simp at hl; omega
theorem isEmpty_str0 (s : ByteArray) (h : s.size = 0) : s.toList = [] := by
  have e : s.toList = s.data.toList := ByteArray.toList_eq s
  have hl : s.data.toList.length = s.size := by simp
  rw [e]
  exact List.eq_nil_of_length_eq_zero (by omega)

theorem nat_of_i (x : Int) (w : World) (h0 : 0 ≤ x) (hx : x < 18446744073709551616) :
    Calls Try.prog 38 #[.int .u64 x] w (RetLimbs w (limbs x.toNat)) := by
  obtain ⟨n, rfl⟩ := Int.eq_ofNat_of_zero_le h0
  exact nat_of n w (by omega)

theorem fitN_ok {n : Nat} (h : n < big) : fitN n = (limbs n, 0) := by simp [fitN, h]
theorem fitN_no {n : Nat} (h : ¬ n < big) : fitN n = ([], 2) := by simp [fitN, h]

theorem nat_mul_l (A1 : Option Addr) (c1 a : Nat) (A2 : Option Addr) (c2 b : Nat) (w : World)
    (h1 : Nums .u32 w A1 (limbs a).length c1 (limbs a)) (h2 : Nums .u32 w A2 (limbs b).length c2 (limbs b)) (ha : a < big) (hb : b < big) :
    Calls Try.prog 32 #[.slice A1 (limbs a).length c1, .slice A2 (limbs b).length c2] w (RetNat w (fitN (a * b))) := by
  rw [← mulN_limbs a b ha hb]
  exact nat_mul A1 _ c1 _ A2 _ c2 _ w h1 h2 (limbs_lim _) (limbs_lim _)
theorem nat_add_l (A1 : Option Addr) (c1 a : Nat) (A2 : Option Addr) (c2 b : Nat) (w : World)
    (h1 : Nums .u32 w A1 (limbs a).length c1 (limbs a)) (h2 : Nums .u32 w A2 (limbs b).length c2 (limbs b)) (ha : a < big) (hb : b < big) :
    Calls Try.prog 25 #[.slice A1 (limbs a).length c1, .slice A2 (limbs b).length c2] w (RetNat w (fitN (a + b))) := by
  rw [← addN_limbs a b ha hb]
  exact nat_add A1 _ c1 _ A2 _ c2 _ w h1 h2 (limbs_lim _) (limbs_lim _)

/-- the loop of 'Parse' that reckons -/
def ParseRel (w : World) (l : List Nat) (x i : Value) (wr : World) : Prop :=
  ∃ (k : Nat) (A : Option Addr) (c : Nat), k ≤ l.length ∧ i = .int .i64 (k : Int) ∧ x = .slice A (limbs (numOf (l.take k))).length c ∧
    Nums .u32 wr A (limbs (numOf (l.take k))).length c (limbs (numOf (l.take k))) ∧ numOf (l.take k) < big ∧ Below w.heap.size w wr

theorem form_no {l : List Nat} (k : Nat) (h : k < l.length) (hd : digB (l.getD k 0) = false) : formB l = false := by
  have : l.all digB = false := by
    rw [List.all_eq_false]
    refine ⟨l[k], List.getElem_mem h, ?_⟩
    simpa [List.getElem?_eq_getElem h] using hd
  simp [formB, this]
theorem form_yes {l : List Nat} (h0 : l.length ≠ 0) (h1 : ¬ (l.getD 0 0 = 48 ∧ 1 < l.length)) (hd : ∀ j, j < l.length → digB (l.getD j 0) = true) : formB l = true := by
  have : l.all digB = true := by
    rw [List.all_eq_true]
    intro c hc
    obtain ⟨j, hj, rfl⟩ := List.getElem_of_mem hc
    simpa [List.getElem?_eq_getElem hj] using hd j hj
  simp only [formB, this, Bool.and_true, Bool.and_eq_true, bne_iff_ne, ne_eq, Bool.not_eq_true', Bool.and_eq_false_iff, beq_eq_false_iff_ne, decide_eq_false_iff_not]
  refine ⟨h0, ?_⟩
  by_cases h : l.getD 0 0 = 48
  · exact .inr fun hl => h1 ⟨h, hl⟩
  · exact .inl h

set_option maxHeartbeats 4000000 in
theorem nat_parse (s : ByteArray) (w : World) (hs : s.size ≤ 1000000) :
    Calls Try.prog 39 #[.string s] w (RetNat w (parseN (bytesOf s))) := by
  have hl := bytesOf_len s
  by_cases h0 : s.size = 0
  · have hfin : parseN (bytesOf s) = ([], 3) := by simp [parseN, formB, hl, h0]
    rw [hfin]
    have he := isEmpty_str0 s h0
    clear hfin
    go_enter Try.func39, Try.ntmps39
    go_wp2
    go_ret2
    exact ⟨none, 0, rfl, Nums.nil _ _ _ _ (by simp), Below.refl _ _⟩
  have h1 : 0 < s.size := by omega
  obtain ⟨he1, he2⟩ := isEmpty_str s h1
  have Hg : Hid (∀ k (h : k < s.size), (bytesOf s).getD k 0 = (s[k]'h).toNat) := Lib.hid fun k h => getD_of_get (bytesOf_get s k h)
  have Hlt : Hid (∀ k (h : k < s.size), (s[k]'h).toNat < 256) := Lib.hid fun k h => (s[k]'h).toNat_lt
  by_cases hbad : (s[0]'h1).toNat = 48 ∧ 1 < s.size
  · have hfin : parseN (bytesOf s) = ([], 3) := by
      have : formB (bytesOf s) = false := by simp only [formB, Hg.out 0 h1, hl, hbad.1]; simp [hbad.2]
      simp [parseN, this]
    rw [hfin]
    clear hfin
    have hb0 : (((s[0]'h1).toNat : Int) == 48) = true := by simp; omega
    have hb1 : (1 : Int) < (s.size : Int) := by omega
    clear hbad
    go_enter Try.func39, Try.ntmps39
    go_wp2
    go_ret2
    exact ⟨none, 0, rfl, Nums.nil _ _ _ _ (by simp), Below.refl _ _⟩
  have Hbad : Hid (¬ ((bytesOf s).getD 0 0 = 48 ∧ 1 < (bytesOf s).length)) := Lib.hid (by rw [Hg.out 0 h1, hl]; exact hbad)
  have Hl := Lib.hid hl
  clear hl
  have hways : (((s[0]'h1).toNat : Int) == 48) = false ∨ ((((s[0]'h1).toNat : Int) == 48) = true ∧ s.size ≤ 1) := by
    by_cases h : (s[0]'h1).toNat = 48
    · exact .inr ⟨by simp; omega, by omega⟩
    · exact .inl (by simp; omega)
  clear hbad
  rcases hways with hc48 | ⟨hc48, hs1⟩
  all_goals
    go_enter Try.func39, Try.ntmps39
    go_wp2
    go_loop [2, 3, 21] (fun x e i => ∃ k : Nat, x = .slice none 0 0 ∧ e = .int .i64 0 ∧ k ≤ s.size ∧ i = .int .i64 k ∧ ∀ j, j < k → digB ((bytesOf s).getD j 0) = true) (fun _ _ i => s.size - (intOf i).toNat)
    case atStart => exact ⟨0, rfl, rfl, Nat.zero_le _, rfl, fun j hj => by omega⟩
    case round =>
      obtain ⟨k, rfl, rfl, hk, rfl, hdig⟩ := hrel
      have Hdig := Lib.hid hdig
      clear hdig hc48
      by_cases hlt : k < s.size
      · have hg := Hg.out k hlt
        have hb := Hlt.out k hlt
        by_cases hd : 48 ≤ (s[k]'hlt).toNat ∧ (s[k]'hlt).toNat ≤ 57
        · have hd1 : ¬ ((s[k]'hlt).toNat : Int) < 48 := by omega
          have hd2 : ¬ (57 : Int) < ((s[k]'hlt).toNat : Int) := by omega
          have Hnew : Hid (digB ((bytesOf s).getD k 0) = true) := Lib.hid (by rw [hg]; simp [digB, hd])
          clear hd hg hb
          go_wp2
          go_round
          case rel =>
            refine ⟨k + 1, rfl, rfl, by omega, by go_num, fun j hj => ?_⟩
            rcases Nat.lt_or_ge j k with h | h
            · exact Hdig.out j h
            · obtain rfl : j = k := by omega
              exact Hnew.out
          case measure => simp [intOf]; omega
        · have hno : parseN (bytesOf s) = ([], 3) := by
            have hdb : digB ((bytesOf s).getD k 0) = false := by
              rw [hg]
              simp only [digB, Bool.and_eq_false_iff, decide_eq_false_iff_not]
              omega
            simp [parseN, form_no k (by rw [Hl.out]; exact hlt) hdb]
          have Hno := Lib.hid hno
          clear hno
          by_cases hd1 : (s[k]'hlt).toNat < 48
          · have hd1' : ((s[k]'hlt).toNat : Int) < 48 := by omega
            clear hd hg hb hd1
            go_wp2
            go_ret2
            rw [Hno.out]
            exact ⟨none, 0, rfl, Nums.nil _ _ _ _ (by simp), Below.refl _ _⟩
          · have hd1' : ¬ ((s[k]'hlt).toNat : Int) < 48 := by omega
            have hd2' : (57 : Int) < ((s[k]'hlt).toNat : Int) := by omega
            clear hd hg hb hd1
            go_wp2
            go_ret2
            rw [Hno.out]
            exact ⟨none, 0, rfl, Nums.nil _ _ _ _ (by simp), Below.refl _ _⟩
      · obtain rfl : k = s.size := by omega
        have hyes := form_yes (l := bytesOf s) (by rw [Hl.out]; omega) Hbad.out (fun j hj => Hdig.out j (by rw [Hl.out] at hj; exact hj))
        have hfin : parseN (bytesOf s) = fitN (numOf (bytesOf s)) := by simp [parseN, hyes]
        have Hfin := Lib.hid hfin
        clear hfin hyes
        go_wp2_with (go_at_call 38; (with_reducible refine (nat_of_i _ _ (by omega) (by omega)).mono ?_); rintro e w1 ⟨At, ct, rfl, hten, hb1⟩)
        replace hten : Nums .u32 w1 At (limbs 10).length ct (limbs 10) := hten
        go_loopw [2, 38] (ParseRel w1 (bytesOf s)) (fun _ i _ => s.size - (intOf i).toNat)
        case atStart => exact ⟨0, none, 0, Nat.zero_le _, rfl, by simp [numOf, limbs_zero], by simpa [numOf, limbs_zero] using Nums.nil .u32 w1 none 0 (by simp), by simpa [numOf] using small_big 0 (by omega), Below.refl _ _⟩
        case round =>
          obtain ⟨k, A, c, hk, rfl, rfl, hx, hvb, hbel⟩ := hrel
          have hten' := hten.below hbel
          rw [Hl.out] at hk
          by_cases hlt : k < s.size
          · have Hst := Lib.hid (numOf_take_succ (bytesOf s) k (by rw [Hl.out]; exact hlt))
            have Hmono := Lib.hid (numOf_mono (bytesOf s) (k + 1))
            have hg := Hg.out k hlt
            have hb := Hlt.out k hlt
            have hdd := Hdig.out k hlt
            rw [hg] at hdd
            have hd1 : 48 ≤ (s[k]'hlt).toNat ∧ (s[k]'hlt).toNat ≤ 57 := by simpa [digB] using hdd
            have Hgk := Lib.hid hg
            clear hdd hg
            obtain ⟨v, Hv⟩ : ∃ v, Hid (numOf ((bytesOf s).take k) = v) := ⟨_, Lib.hid rfl⟩
            rw [Hv.out] at hx hvb ⊢
            have hmul := nat_mul_l A c v At ct 10 wr hx hten' hvb (small_big 10 (by omega))
            by_cases hm : v * 10 < big
            · rw [fitN_ok hm] at hmul
              have Hmul := Lib.hid hmul
              clear hmul
              have hbs : ((s[k]'hlt).toNat : Int) - 48 = (((s[k]'hlt).toNat - 48 : Nat) : Int) := by omega
              have Hbs := Lib.hid hbs
              clear hbs
              have hdl : (s[k]'hlt).toNat - 48 < 18446744073709551616 := by omega
              have hi0 : (0 : Int) ≤ ((s[k]'hlt).toNat : Int) - 48 := by omega
              have hi1 : ((s[k]'hlt).toNat : Int) - 48 < 18446744073709551616 := by omega
              have Htn : Hid ((((s[k]'hlt).toNat : Int) - 48).toNat = (s[k]'hlt).toNat - 48) := Lib.hid (by omega)
              by_cases ha : v * 10 + ((s[k]'hlt).toNat - 48) < big
              · go_wp2_with (first
                  | (go_at_call 32; refine Hmul.out.mono ?_; rintro e w2 ⟨A2, c2, rfl, hN, hB⟩)
                  | (go_at_call 38; (with_reducible refine (nat_of_i _ _ hi0 hi1).mono ?_); rintro e w3 ⟨A3, c3, rfl, hN3, hB3⟩; rw [Htn.out] at hN3; rw [Htn.out])
                  | (go_at_call 25; (with_reducible refine (nat_add_l _ _ _ _ _ _ _ (hN.below hB3) hN3 hm (small_big _ hdl)).mono ?_); rintro e w4 ⟨A4, c4, rfl, hN4, hB4⟩; rw [fitN_ok ha] at hN4; rw [fitN_ok ha]))
                go_roundw
                case rel =>
                  have hst := Hst.out
                  rw [Hv.out, Hgk.out] at hst
                  refine ⟨k + 1, A4, c4, by rw [Hl.out]; omega, by go_num, ?_, ?_, ?_, below_tail (below_tail (below_tail hbel hB) hB3) hB4⟩
                  · rw [hst]
                  · rw [hst]; exact hN4
                  · rw [hst]; exact ha
                case measure => simp [intOf]; omega
              · have hno : fitN (numOf (bytesOf s)) = ([], 2) := fitN_no (by have h1 := Hst.out; have h2 := Hmono.out; rw [Hv.out, Hgk.out] at h1; omega)
                have Hno := Lib.hid hno
                clear hno
                go_wp2_with (first
                  | (go_at_call 32; refine Hmul.out.mono ?_; rintro e w2 ⟨A2, c2, rfl, hN, hB⟩)
                  | (go_at_call 38; (with_reducible refine (nat_of_i _ _ hi0 hi1).mono ?_); rintro e w3 ⟨A3, c3, rfl, hN3, hB3⟩; rw [Htn.out] at hN3; rw [Htn.out])
                  | (go_at_call 25; (with_reducible refine (nat_add_l _ _ _ _ _ _ _ (hN.below hB3) hN3 hm (small_big _ hdl)).mono ?_); rintro e w4 ⟨A4, c4, rfl, hN4, hB4⟩; rw [fitN_no ha] at hN4; rw [fitN_no ha]))
                go_ret2
                rw [Hfin.out, Hno.out]
                exact ⟨none, 0, rfl, Nums.nil _ _ _ _ (by simp), below_tail (below_tail (below_tail (below_tail hb1 hbel) hB) hB3) hB4⟩
            · rw [fitN_no hm] at hmul
              have Hmul := Lib.hid hmul
              have hno : fitN (numOf (bytesOf s)) = ([], 2) := fitN_no (by have h1 := Hst.out; have h2 := Hmono.out; rw [Hv.out] at h1; omega)
              have Hno := Lib.hid hno
              clear hmul hno
              go_wp2_with (go_at_call 32; refine Hmul.out.mono ?_; rintro e w2 ⟨A2, c2, rfl, hN, hB⟩)
              go_ret2
              rw [Hfin.out, Hno.out]
              exact ⟨none, 0, rfl, Nums.nil _ _ _ _ (by simp), below_tail (below_tail hb1 hbel) hB⟩
          · obtain rfl : k = s.size := by omega
            have hall : (bytesOf s).take s.size = bytesOf s := List.take_of_length_le (by rw [Hl.out]; exact Nat.le_refl _)
            rw [hall] at hx hvb ⊢
            have Hok := Lib.hid (fitN_ok hvb)
            go_wp2
            go_ret2
            rw [Hfin.out, Hok.out]
            exact ⟨A, c, rfl, hx, below_tail hb1 hbel⟩
end Go.Proofs.Ytapnnnciaagbdaa
