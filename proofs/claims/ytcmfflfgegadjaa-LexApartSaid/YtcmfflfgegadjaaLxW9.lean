/- lex: the words of a percent sign; how far a kind of byte goes. -/
import Derived.Test.YtcmfflfgegadjaaLxW8
namespace Go.Proofs.Ytcmfflfgegadjaa
open Go.RowKit
set_option linter.unusedVariables false
set_option linter.unusedSimpArgs false

def wordU (l : List UInt8) : Nat :=
  if (l == [37, 116, 111, 107, 101, 110]) = true then 3
  else if (l == [37, 108, 101, 102, 116]) = true then 4
  else if (l == [37, 114, 105, 103, 104, 116]) = true then 5
  else if (l == [37, 110, 111, 110, 97, 115, 115, 111, 99]) = true then 6
  else if (l == [37, 115, 116, 97, 114, 116]) = true then 7
  else if (l == [37, 112, 114, 101, 99]) = true then 8
  else if (l == [37, 37]) = true then 9
  else if (l == [58]) = true then 10
  else if (l == [124]) = true then 11
  else if (l == [59]) = true then 12
  else 0
/-- the kind of a word -/
def wordN (l : List Nat) : Nat := wordU (l.map UInt8.ofNat)
theorem str_list (l : List Nat) : (str l).toList = l.map UInt8.ofNat := by
  rw [ByteArray.toList_eq]
  simp [str]

theorem lx_word (s : ByteArray) (w : World) : Calls Try.prog 46 #[.string s] w fun e w' => e = .returned (.int .i64 (wordU s.toList : Int)) ∧ w = w' := by
  obtain ⟨r, Hr⟩ : ∃ r, Hid (wordU s.toList = r) := ⟨_, Lib.hid rfl⟩
  rw [Hr.out]
  go_enter Try.func46, Try.ntmps46
  go_wp2
  all_goals
    go_ret
    refine ⟨?_, rfl⟩
    rw [← Hr.out]
    unfold wordU
    simp only [*, if_true, Bool.false_eq_true, if_false]
    rfl

def runN (B : Nat → Bool) (l : List Nat) : Nat := 1 + ((l.drop 1).takeWhile B).length
theorem takeWhile_len (B : Nat → Bool) : ∀ (l : List Nat) (m : Nat), m ≤ l.length → (∀ j, j < m → B (l.getD j 0) = true) → (m = l.length ∨ B (l.getD m 0) = false) → (l.takeWhile B).length = m
  | [], m, h, _, _ => by simp at h; subst h; rfl
  | a :: l, 0, _, _, h2 => by
    rcases h2 with h2 | h2
    · simp at h2
    · have : B a = false := h2
      simp [List.takeWhile, this]
  | a :: l, m + 1, h, h1, h2 => by
    have ha : B a = true := h1 0 (by omega)
    have ih := takeWhile_len B l m (by simpa using h) (fun j hj => h1 (j + 1) (by omega)) (by
      rcases h2 with h2 | h2
      · left; simpa using h2
      · right; exact h2)
    simp [List.takeWhile, ha, ih]
theorem runN_eq (B : Nat → Bool) (l : List Nat) (k : Nat) (h1 : 1 ≤ k) (h2 : k ≤ l.length) (ha : ∀ j, 1 ≤ j → j < k → B (l.getD j 0) = true) (he : k = l.length ∨ B (l.getD k 0) = false) : runN B l = k := by
  have hg : ∀ j, (l.drop 1).getD j 0 = l.getD (j + 1) 0 := fun j => by
    rw [List.getD_eq_getElem?_getD, List.getD_eq_getElem?_getD, List.getElem?_drop, Nat.add_comm]
  have := takeWhile_len B (l.drop 1) (k - 1) (by rw [List.length_drop]; omega) (fun j hj => by rw [hg]; exact ha (j + 1) (by omega) (by omega)) (by
    rcases he with he | he
    · left; rw [List.length_drop]; omega
    · right; rw [hg, show k - 1 + 1 = k from by omega]; exact he)
  unfold runN
  omega
theorem runN_le (B : Nat → Bool) (l : List Nat) (h : 0 < l.length) : 1 ≤ runN B l ∧ runN B l ≤ l.length := by
  unfold runN
  have : ((l.drop 1).takeWhile B).length ≤ (l.drop 1).length := (List.takeWhile_sublist B).length_le
  rw [List.length_drop] at this
  omega

set_option maxHeartbeats 400000 in
theorem lx_run_inner (A : Option Addr) (n c : Nat) (bs : List Nat) (w : World) (h : Nums .u8 w A n c bs) (hb : ∀ y ∈ bs, y < 256) (h0 : 0 < n) (hn : n ≤ 100000) :
    Calls Try.prog 44 #[.slice A n c, .func (.func 20) #[] #[]] w fun e w' => e = .returned (.int .i64 (runN innerB bs : Int)) ∧ w = w' := by
  obtain rfl := h.len
  have hcap := h.cap
  obtain ⟨b, off, rfl, hbl, hcell⟩ := h.at_ h0
  have Hc := Lib.hid hcell
  have Hlt := Lib.hid (lt256 hb)
  clear hcell
  go_enter Try.func44, Try.ntmps44
  go_wp2
  go_loop [5] (fun i => ∃ k : Nat, 1 ≤ k ∧ k ≤ bs.length ∧ i = .int .i64 (k : Int) ∧ Hid (∀ j, 1 ≤ j → j < k → innerB (bs.getD j 0) = true)) (fun i => bs.length - (intOf i).toNat)
  case atStart => exact ⟨1, Nat.le_refl _, by omega, rfl, Lib.hid fun j h1 h2 => by omega⟩
  case round =>
    obtain ⟨k, hk1, hk, rfl, Hk⟩ := hrel
    by_cases hlt : k < bs.length
    · have ck := Hc.out k hlt
      have hcall := lx_inner (bs.getD k 0) w (Hlt.out k)
      cases hB : innerB (bs.getD k 0)
      · have Hfin : Hid (runN innerB bs = k) := Lib.hid (runN_eq _ bs k hk1 hk Hk.out (.inr hB))
        rw [hB] at hcall
        generalize bs.getD k 0 = x at *
        have Hcall := Lib.hid hcall
        clear hcall hB
        go_wp2_with (go_at_call 20; (with_reducible refine Hcall.out.mono ?_); rintro e w' ⟨rfl, rfl⟩)
        go_ret
        exact ⟨by rw [Hfin.out]; rfl, rfl⟩
      · have Hk2 : Hid (∀ j, 1 ≤ j → j < k + 1 → innerB (bs.getD j 0) = true) := Lib.hid fun j h1 h2 => by
          rcases Nat.lt_or_ge j k with h | h
          · exact Hk.out j h1 h
          · obtain rfl : j = k := by omega
            exact hB
        rw [hB] at hcall
        generalize bs.getD k 0 = x at *
        have Hcall := Lib.hid hcall
        clear hcall hB
        go_wp2_with (go_at_call 20; (with_reducible refine Hcall.out.mono ?_); rintro e w' ⟨rfl, rfl⟩)
        go_round
        case rel => exact ⟨k + 1, by omega, by omega, by go_num, Hk2⟩
        case measure => simp [intOf]; omega
    · obtain rfl : k = bs.length := by omega
      have Hfin : Hid (runN innerB bs = bs.length) := Lib.hid (runN_eq _ bs _ hk1 hk Hk.out (.inl rfl))
      go_wp2
      go_ret
      exact ⟨by rw [Hfin.out]; rfl, rfl⟩

set_option maxHeartbeats 400000 in
theorem lx_run_small (A : Option Addr) (n c : Nat) (bs : List Nat) (w : World) (h : Nums .u8 w A n c bs) (hb : ∀ y ∈ bs, y < 256) (h0 : 0 < n) (hn : n ≤ 100000) :
    Calls Try.prog 44 #[.slice A n c, .func (.func 45) #[] #[]] w fun e w' => e = .returned (.int .i64 (runN smallB bs : Int)) ∧ w = w' := by
  obtain rfl := h.len
  have hcap := h.cap
  obtain ⟨b, off, rfl, hbl, hcell⟩ := h.at_ h0
  have Hc := Lib.hid hcell
  have Hlt := Lib.hid (lt256 hb)
  clear hcell
  go_enter Try.func44, Try.ntmps44
  go_wp2
  go_loop [5] (fun i => ∃ k : Nat, 1 ≤ k ∧ k ≤ bs.length ∧ i = .int .i64 (k : Int) ∧ Hid (∀ j, 1 ≤ j → j < k → smallB (bs.getD j 0) = true)) (fun i => bs.length - (intOf i).toNat)
  case atStart => exact ⟨1, Nat.le_refl _, by omega, rfl, Lib.hid fun j h1 h2 => by omega⟩
  case round =>
    obtain ⟨k, hk1, hk, rfl, Hk⟩ := hrel
    by_cases hlt : k < bs.length
    · have ck := Hc.out k hlt
      have hcall := lx_small (bs.getD k 0) w (Hlt.out k)
      cases hB : smallB (bs.getD k 0)
      · have Hfin : Hid (runN smallB bs = k) := Lib.hid (runN_eq _ bs k hk1 hk Hk.out (.inr hB))
        rw [hB] at hcall
        generalize bs.getD k 0 = x at *
        have Hcall := Lib.hid hcall
        clear hcall hB
        go_wp2_with (go_at_call 45; (with_reducible refine Hcall.out.mono ?_); rintro e w' ⟨rfl, rfl⟩)
        go_ret
        exact ⟨by rw [Hfin.out]; rfl, rfl⟩
      · have Hk2 : Hid (∀ j, 1 ≤ j → j < k + 1 → smallB (bs.getD j 0) = true) := Lib.hid fun j h1 h2 => by
          rcases Nat.lt_or_ge j k with h | h
          · exact Hk.out j h1 h
          · obtain rfl : j = k := by omega
            exact hB
        rw [hB] at hcall
        generalize bs.getD k 0 = x at *
        have Hcall := Lib.hid hcall
        clear hcall hB
        go_wp2_with (go_at_call 45; (with_reducible refine Hcall.out.mono ?_); rintro e w' ⟨rfl, rfl⟩)
        go_round
        case rel => exact ⟨k + 1, by omega, by omega, by go_num, Hk2⟩
        case measure => simp [intOf]; omega
    · obtain rfl : k = bs.length := by omega
      have Hfin : Hid (runN smallB bs = bs.length) := Lib.hid (runN_eq _ bs _ hk1 hk Hk.out (.inl rfl))
      go_wp2
      go_ret
      exact ⟨by rw [Hfin.out]; rfl, rfl⟩

end Go.Proofs.Ytcmfflfgegadjaa
