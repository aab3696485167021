/- Walks: the reference's Text and Parse. -/
import Derived.Test.YtapnnnciaagbdaaNatR2
import Derived.Test.YtapnnnciaagbdaaNatW8
namespace Go.Proofs.Ytapnnnciaagbdaa
open Go.RowKit
set_option linter.unusedVariables false
set_option linter.unusedSimpArgs false

theorem str_append (a b : List Nat) : str a ++ str b = str (a ++ b) := by
  apply ByteArray.ext
  simp [str, ByteArray.data_append]

theorem ref_div10 (A1 : Option Addr) (c1 v : Nat) (w : World) (h1 : Nums .u32 w A1 (limbs v).length c1 (limbs v)) (hv : v < big) :
    Calls Try.prog 37 #[.slice A1 (limbs v).length c1, .int .u32 10] w (RetDiv w (limbs (v / 10), v % 10, 0)) := by
  have h := ref_div A1 _ c1 _ 10 w h1 (limbs_lim v) (by omega)
  rw [divN_limbs v 10 hv (by omega)] at h
  exact h

/-- the loop of the reference's 'Text' -/
def RTextRel (w : World) (v0 : Nat) (a s : Value) (wr : World) : Prop :=
  ∃ (v : Nat) (ds : List Nat) (A1 : Option Addr) (c1 : Nat), v < big ∧ a = .slice A1 (limbs v).length c1 ∧ Nums .u32 wr A1 (limbs v).length c1 (limbs v) ∧
    s = .string (str ds.reverse) ∧ ds ++ (if v = 0 then [] else digR v) = digR v0 ∧ Below w.heap.size w wr

/-- the length of the string in a slot: for a loop's measure -/
def sizeOfStr : Value → Nat
  | .string s => s.size
  | _ => 0

set_option maxHeartbeats 1000000 in
theorem ref_text_ok (A1 : Option Addr) (c1 v0 : Nat) (w : World) (h1 : Nums .u32 w A1 (limbs v0).length c1 (limbs v0)) (hvb : v0 < big) (hv0 : v0 ≠ 0) :
    Calls Try.prog 42 #[.slice A1 (limbs v0).length c1] w fun e w' => e = .returned (.string (str (digR v0).reverse)) ∧ Below w.heap.size w w' := by
  have hdl := digR_len_big v0 hvb
  have r1 := right_of_limbs v0 hvb
  have hl0 : (((limbs v0).length : Int) == 0) = false := by simp; exact limbs_ne_nil _ hv0
  have e0 : (⟨#[]⟩ : ByteArray) = str [] := rfl
  go_enter Try.func42, Try.ntmps42
  go_wp2_with (go_at_call 31; (with_reducible refine (ref_right _ _ _ _ _ h1).mono ?_); rintro e w' ⟨rfl, rfl⟩)
  go_loopw [0, 3] (RTextRel w v0) (fun _ s _ => 2000 - sizeOfStr s)
  case atStart => exact ⟨v0, [], A1, c1, hvb, rfl, h1, rfl, by rw [if_neg hv0]; rfl, Below.refl _ _⟩
  case round =>
    clear h1 r1 hl0 e0
    obtain ⟨v, ds, A1, c1, hv, rfl, h1, rfl, hds, hbel⟩ := hrel
    have Hds := Lib.hid hds
    have hlen : ds.length ≤ 1024 := by
      have : (ds ++ (if v = 0 then [] else digR v)).length = (digR v0).length := by rw [hds]
      rw [List.length_append] at this
      omega
    clear hds
    by_cases hvz : v = 0
    · subst hvz
      have hfin : ds = digR v0 := by rw [← Hds.out]; simp
      have Hfin := Lib.hid hfin
      have hz : (limbs 0).length = 0 := by rw [limbs_zero]; rfl
      have Hz := Lib.hid hz
      rw [Hz.out]
      clear hfin hz
      go_wp2
      go_ret
      rw [← Hfin.out]
      exact ⟨rfl, hbel⟩
    · have hlp : (0 : Int) < ((limbs v).length : Int) := by
        have := List.length_pos_iff.2 (limbs_ne_nil v hvz)
        omega
      have hstep : ds ++ [48 + v % 10] ++ (if v / 10 = 0 then [] else digR (v / 10)) = digR v0 := by
        rw [← Hds.out, if_neg hvz, digR_step v, List.append_assoc]; rfl
      have Hstep := Lib.hid hstep
      have hvq : v / 10 < big := by omega
      have hdm : v % 10 < 10 := Nat.mod_lt _ (by omega)
      have hcv : ∀ w : World, (convert 65 9 (.slice (some ⟨w.heap.size, 0, none⟩) 1 1)).run Try.prog (w.alloc (.cells #[.int .u8 (48 + (v : Int) % 10)] 5)) = .ok (.string (str [48 + v % 10])) (w.alloc (.cells #[.int .u8 (48 + (v : Int) % 10)] 5)) := fun w => by
        have h := (Own.new w 5 .u8 [48 + v % 10]).nums (n := 1) (c := 1) rfl (Nat.le_refl _) (by omega)
        have e : (nums .u8 [48 + v % 10]).toArray = #[.int .u8 (48 + (v : Int) % 10)] := by simp [nums]
        rw [e] at h
        exact run_bytes_str _ _ _ _ Try.underlying65 Try.underlying5 Try.underlying9 _ 1 [48 + v % 10] h
      have hsz : ¬ 9223372036854775807 < (str [48 + v % 10]).size + (str ds.reverse).size := by rw [str_size, str_size, List.length_reverse]; simp; omega
      clear hstep hvz
      go_wp2_with (go_at_call 37; (with_reducible refine (ref_div10 A1 c1 v wr h1 hv).mono ?_); rintro e w1 ⟨A3, c3, rfl, hN, hB, hfr⟩)
      go_roundw
      case rel =>
        refine ⟨v / 10, ds ++ [48 + v % 10], A3, c3, hvq, rfl, hN.below ((Below.refl _ _).alloc (Nat.le_refl _) _), ?_, Hstep.out, (below_tail hbel hB).alloc (below_tail hbel hB).size _⟩
        rw [str_append, List.reverse_append]
        rfl
      case measure => simp only [sizeOfStr, str_append, str_size, List.length_append, List.length_reverse, List.length_singleton]; omega

theorem ref_text (A1 : Option Addr) (n c1 : Nat) (xs : List Nat) (w : World) (h1 : Nums .u32 w A1 n c1 xs) (lx : Lim xs) :
    Calls Try.prog 42 #[.slice A1 n c1] w fun e w' => e = .returned (.string (str (textN xs))) ∧ Below w.heap.size w w' := by
  obtain rfl := h1.len
  by_cases r1 : rightB xs = true
  case neg =>
    have r1' : rightB xs = false := by simpa using r1
    have hfin : textN xs = [] := by simp [textN, r1']
    rw [hfin]
    clear hfin r1
    go_enter Try.func42, Try.ntmps42
    go_wp2_with (go_at_call 31; (with_reducible refine (ref_right _ _ _ _ _ h1).mono ?_); rintro e w' ⟨rfl, rfl⟩)
    go_ret
    exact ⟨rfl, Below.refl _ _⟩
  have hfin : textN xs = (digR (val xs)).reverse := by simp [textN, r1]
  obtain ⟨hxs, hvb⟩ := limbs_of_right xs lx r1
  rw [hfin]
  rw [hxs] at h1 r1 ⊢
  rw [val_limbs]
  by_cases h0 : val xs = 0
  · rw [h0] at h1 r1 ⊢
    have hl : (limbs 0).length = 0 := by rw [limbs_zero]; rfl
    rw [hl] at h1 ⊢
    have hd : (digR 0).reverse = [48] := by rw [digR_step]; rfl
    rw [hd]
    clear hfin hl hd hxs h0
    go_enter Try.func42, Try.ntmps42
    go_wp2_with (go_at_call 31; (with_reducible refine (ref_right _ _ _ _ _ h1).mono ?_); rintro e w' ⟨rfl, rfl⟩)
    go_ret
    exact ⟨rfl, Below.refl _ _⟩
  · exact ref_text_ok A1 c1 (val xs) w h1 hvb h0

theorem ref_of_i (x : Int) (w : World) (h0 : 0 ≤ x) (hx : x < 18446744073709551616) :
    Calls Try.prog 22 #[.int .u64 x] w (RetLimbs w (limbs x.toNat)) := by
  obtain ⟨n, rfl⟩ := Int.eq_ofNat_of_zero_le h0
  exact ref_of n w (by omega)

theorem ref_mul_l (A1 : Option Addr) (c1 a : Nat) (A2 : Option Addr) (c2 b : Nat) (w : World)
    (h1 : Nums .u32 w A1 (limbs a).length c1 (limbs a)) (h2 : Nums .u32 w A2 (limbs b).length c2 (limbs b)) (ha : a < big) (hb : b < big) :
    Calls Try.prog 33 #[.slice A1 (limbs a).length c1, .slice A2 (limbs b).length c2] w (RetNat w (fitN (a * b))) := by
  rw [← mulN_limbs a b ha hb]
  exact ref_mul A1 _ c1 _ A2 _ c2 _ w h1 h2 (limbs_lim _) (limbs_lim _)
theorem ref_add_l (A1 : Option Addr) (c1 a : Nat) (A2 : Option Addr) (c2 b : Nat) (w : World)
    (h1 : Nums .u32 w A1 (limbs a).length c1 (limbs a)) (h2 : Nums .u32 w A2 (limbs b).length c2 (limbs b)) (ha : a < big) (hb : b < big) :
    Calls Try.prog 26 #[.slice A1 (limbs a).length c1, .slice A2 (limbs b).length c2] w (RetNat w (fitN (a + b))) := by
  rw [← addN_limbs a b ha hb]
  exact ref_add A1 _ c1 _ A2 _ c2 _ w h1 h2 (limbs_lim _) (limbs_lim _)

set_option maxHeartbeats 2000000 in
theorem ref_parse (s : ByteArray) (w : World) (hs : s.size ≤ 1000000) :
    Calls Try.prog 40 #[.string s] w (RetNat w (parseN (bytesOf s))) := by
  have hl := bytesOf_len s
  by_cases h0 : s.size = 0
  · have hfin : parseN (bytesOf s) = ([], 3) := by simp [parseN, formB, hl, h0]
    rw [hfin]
    have he := isEmpty_str0 s h0
    clear hfin
    go_enter Try.func40, Try.ntmps40
    go_wp2
    go_ret2
    exact ⟨none, 0, rfl, Nums.nil _ _ _ _ (by simp), Below.refl _ _⟩
  have h1 : 0 < s.size := by omega
  obtain ⟨he1, he2⟩ := isEmpty_str s h1
  have Hg : Hid (∀ k (h : k < s.size), (bytesOf s).getD k 0 = (s[k]'h).toNat) := Lib.hid fun k h => getD_of_get (bytesOf_get s k h)
  have Hlt : Hid (∀ k (h : k < s.size), (s[k]'h).toNat < 256) := Lib.hid fun k h => (s[k]'h).toNat_lt
  by_cases hbad : (s[0]'h1).toNat = 48 ∧ 1 < s.size
  · have hfin : parseN (bytesOf s) = ([], 3) := by
      have : formB (bytesOf s) = false := by simp only [formB, Hg.out 0 h1, hl, hbad.1]; simp [hbad.2]
      simp [parseN, this]
    rw [hfin]
    clear hfin
    have hb0 : (((s[0]'h1).toNat : Int) == 48) = true := by simp; omega
    have hb1 : (1 : Int) < (s.size : Int) := by omega
    clear hbad
    go_enter Try.func40, Try.ntmps40
    go_wp2
    go_ret2
    exact ⟨none, 0, rfl, Nums.nil _ _ _ _ (by simp), Below.refl _ _⟩
  have Hbad : Hid (¬ ((bytesOf s).getD 0 0 = 48 ∧ 1 < (bytesOf s).length)) := Lib.hid (by rw [Hg.out 0 h1, hl]; exact hbad)
  have Hl := Lib.hid hl
  clear hl
  have h00 : ((s.size : Int) == 0) = false := by rw [beq_eq_false_iff_ne]; omega
  have hways : (¬ (1 : Int) < (s.size : Int) ∧ True) ∨ ((1 : Int) < (s.size : Int) ∧ (((s[0]'h1).toNat : Int) == 48) = false) := by
    by_cases h : 1 < s.size
    · exact .inr ⟨by omega, by have : ¬ (s[0]'h1).toNat = 48 := fun h' => hbad ⟨h', h⟩; rw [beq_eq_false_iff_ne]; omega⟩
    · exact .inl ⟨by omega, trivial⟩
  clear hbad
  rcases hways with ⟨hs1, hc48⟩ | ⟨hs1, hc48⟩
  all_goals
    go_enter Try.func40, Try.ntmps40
    go_wp2
    go_loop [2, 3, 4] (fun x e i => ∃ k : Nat, x = .slice none 0 0 ∧ e = .int .i64 0 ∧ k ≤ s.size ∧ i = .int .i64 k ∧ ∀ j, j < k → digB ((bytesOf s).getD j 0) = true) (fun _ _ i => s.size - (intOf i).toNat)
    case atStart => exact ⟨0, rfl, rfl, Nat.zero_le _, rfl, fun j hj => by omega⟩
    case round =>
      obtain ⟨k, rfl, rfl, hk, rfl, hdig⟩ := hrel
      have Hdig := Lib.hid hdig
      clear hdig hc48
      by_cases hlt : k < s.size
      · have hg := Hg.out k hlt
        have hb := Hlt.out k hlt
        by_cases hd : 48 ≤ (s[k]'hlt).toNat ∧ (s[k]'hlt).toNat ≤ 57
        · have hd1 : ¬ ((s[k]'hlt).toNat : Int) < 48 := by omega
          have hd2 : ¬ (57 : Int) < ((s[k]'hlt).toNat : Int) := by omega
          have Hnew : Hid (digB ((bytesOf s).getD k 0) = true) := Lib.hid (by rw [hg]; simp [digB, hd])
          clear hd hg hb
          go_wp2
          go_round
          case rel =>
            refine ⟨k + 1, rfl, rfl, by omega, by go_num, fun j hj => ?_⟩
            rcases Nat.lt_or_ge j k with h | h
            · exact Hdig.out j h
            · obtain rfl : j = k := by omega
              exact Hnew.out
          case measure => simp [intOf]; omega
        · have hno : parseN (bytesOf s) = ([], 3) := by
            have hdb : digB ((bytesOf s).getD k 0) = false := by
              rw [hg]
              simp only [digB, Bool.and_eq_false_iff, decide_eq_false_iff_not]
              omega
            simp [parseN, form_no k (by rw [Hl.out]; exact hlt) hdb]
          have Hno := Lib.hid hno
          clear hno
          by_cases hd1 : (s[k]'hlt).toNat < 48
          · have hd1' : ((s[k]'hlt).toNat : Int) < 48 := by omega
            clear hd hg hb hd1
            go_wp2
            go_ret2
            rw [Hno.out]
            exact ⟨none, 0, rfl, Nums.nil _ _ _ _ (by simp), Below.refl _ _⟩
          · have hd1' : ¬ ((s[k]'hlt).toNat : Int) < 48 := by omega
            have hd2' : (57 : Int) < ((s[k]'hlt).toNat : Int) := by omega
            clear hd hg hb hd1
            go_wp2
            go_ret2
            rw [Hno.out]
            exact ⟨none, 0, rfl, Nums.nil _ _ _ _ (by simp), Below.refl _ _⟩
      · obtain rfl : k = s.size := by omega
        have hyes := form_yes (l := bytesOf s) (by rw [Hl.out]; omega) Hbad.out (fun j hj => Hdig.out j (by rw [Hl.out] at hj; exact hj))
        have hfin : parseN (bytesOf s) = fitN (numOf (bytesOf s)) := by simp [parseN, hyes]
        have Hfin := Lib.hid hfin
        clear hfin hyes
        go_wp2
        go_loopw [5, 6] (ParseRel w (bytesOf s)) (fun _ i _ => s.size - (intOf i).toNat)
        case atStart => exact ⟨0, none, 0, Nat.zero_le _, rfl, by simp [numOf, limbs_zero], by simpa [numOf, limbs_zero] using Nums.nil .u32 w none 0 (by simp), by simpa [numOf] using small_big 0 (by omega), Below.refl _ _⟩
        case round =>
          obtain ⟨k, A, c, hk, rfl, rfl, hx, hvb, hbel⟩ := hrel
          rw [Hl.out] at hk
          by_cases hlt : k < s.size
          · have Hst := Lib.hid (numOf_take_succ (bytesOf s) k (by rw [Hl.out]; exact hlt))
            have Hmono := Lib.hid (numOf_mono (bytesOf s) (k + 1))
            have hg := Hg.out k hlt
            have hb := Hlt.out k hlt
            have hdd := Hdig.out k hlt
            rw [hg] at hdd
            have hd1 : 48 ≤ (s[k]'hlt).toNat ∧ (s[k]'hlt).toNat ≤ 57 := by simpa [digB] using hdd
            have Hgk := Lib.hid hg
            clear hdd hg
            obtain ⟨v, Hv⟩ : ∃ v, Hid (numOf ((bytesOf s).take k) = v) := ⟨_, Lib.hid rfl⟩
            rw [Hv.out] at hx hvb ⊢
            have h10 := ref_of 10 wr (by omega)
            have H10 : Hid (Calls Try.prog 22 #[.int .u64 10] wr (RetLimbs wr (limbs 10))) := Lib.hid h10
            clear h10
            have hbs : ((s[k]'hlt).toNat : Int) - 48 = (((s[k]'hlt).toNat - 48 : Nat) : Int) := by omega
            have hdl : (s[k]'hlt).toNat - 48 < 18446744073709551616 := by omega
            have hi0 : (0 : Int) ≤ ((s[k]'hlt).toNat : Int) - 48 := by omega
            have hi1 : ((s[k]'hlt).toNat : Int) - 48 < 18446744073709551616 := by omega
            have Htn : Hid ((((s[k]'hlt).toNat : Int) - 48).toNat = (s[k]'hlt).toNat - 48) := Lib.hid (by omega)
            clear hbs
            go_wp2_with fail
            refine H10.out.mono ?_
            rintro e w2 ⟨At, ct, rfl, hten, hB1⟩
            go_wp2_with fail
            have hmul := ref_mul_l A c v At ct 10 w2 (hx.below hB1) hten hvb (small_big 10 (by omega))
            by_cases hm : v * 10 < big
            · rw [fitN_ok hm] at hmul
              refine hmul.mono ?_
              rintro e w3 ⟨A2, c2, rfl, hN, hB⟩
              clear hmul
              by_cases ha : v * 10 + ((s[k]'hlt).toNat - 48) < big
              · go_wp2_with (first
                  | (go_at_call 22; (with_reducible refine (ref_of_i _ _ hi0 hi1).mono ?_); rintro e w4 ⟨A3, c3, rfl, hN3, hB3⟩; rw [Htn.out] at hN3; rw [Htn.out])
                  | (go_at_call 26; (with_reducible refine (ref_add_l _ _ _ _ _ _ _ (hN.below hB3) hN3 hm (small_big _ hdl)).mono ?_); rintro e w5 ⟨A4, c4, rfl, hN4, hB4⟩; rw [fitN_ok ha] at hN4; rw [fitN_ok ha]))
                go_roundw
                case rel =>
                  have hst := Hst.out
                  rw [Hv.out, Hgk.out] at hst
                  refine ⟨k + 1, A4, c4, by rw [Hl.out]; omega, by go_num, ?_, ?_, ?_, below_tail (below_tail (below_tail (below_tail hbel hB1) hB) hB3) hB4⟩
                  · rw [hst]
                  · rw [hst]; exact hN4
                  · rw [hst]; exact ha
                case measure => simp [intOf]; omega
              · have hno : fitN (numOf (bytesOf s)) = ([], 2) := fitN_no (by have h1 := Hst.out; have h2 := Hmono.out; rw [Hv.out, Hgk.out] at h1; omega)
                have Hno := Lib.hid hno
                clear hno
                go_wp2_with (first
                  | (go_at_call 22; (with_reducible refine (ref_of_i _ _ hi0 hi1).mono ?_); rintro e w4 ⟨A3, c3, rfl, hN3, hB3⟩; rw [Htn.out] at hN3; rw [Htn.out])
                  | (go_at_call 26; (with_reducible refine (ref_add_l _ _ _ _ _ _ _ (hN.below hB3) hN3 hm (small_big _ hdl)).mono ?_); rintro e w5 ⟨A4, c4, rfl, hN4, hB4⟩; rw [fitN_no ha] at hN4; rw [fitN_no ha]))
                go_ret2
                rw [Hfin.out, Hno.out]
                exact ⟨none, 0, rfl, Nums.nil _ _ _ _ (by simp), below_tail (below_tail (below_tail (below_tail hbel hB1) hB) hB3) hB4⟩
            · have hno : fitN (numOf (bytesOf s)) = ([], 2) := fitN_no (by have h1 := Hst.out; have h2 := Hmono.out; rw [Hv.out] at h1; omega)
              have Hno := Lib.hid hno
              rw [fitN_no hm] at hmul
              refine hmul.mono ?_
              rintro e w3 ⟨A2, c2, rfl, hN, hB⟩
              clear hmul hno
              go_wp2
              go_ret2
              rw [Hfin.out, Hno.out]
              exact ⟨none, 0, rfl, Nums.nil _ _ _ _ (by simp), below_tail (below_tail hbel hB1) hB⟩
          · obtain rfl : k = s.size := by omega
            have hall : (bytesOf s).take s.size = bytesOf s := List.take_of_length_le (by rw [Hl.out]; exact Nat.le_refl _)
            rw [hall] at hx hvb ⊢
            have Hok := Lib.hid (fitN_ok hvb)
            go_wp2
            go_ret2
            rw [Hfin.out, Hok.out]
            exact ⟨A, c, rfl, hx, hbel⟩
end Go.Proofs.Ytapnnnciaagbdaa
