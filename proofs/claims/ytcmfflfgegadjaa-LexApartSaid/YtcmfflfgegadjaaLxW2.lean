/- lex: names and literals. -/
import Derived.Test.YtcmfflfgegadjaaLxW1
import Derived.Lib.ConvBytes
import Derived.Laws.AppendOwn
namespace Go.Proofs.Ytcmfflfgegadjaa
open Go.RowKit
set_option linter.unusedVariables false
set_option linter.unusedSimpArgs false

theorem bytesWorld_below (w : World) (e : TypeId) (s : ByteArray) : Below w.heap.size w (Lib.bytesWorld w e s) := by
  refine ⟨rfl, rfl, rfl, ?_, fun k hk => Lib.bytesWorld_at_old w e s k hk⟩
  rw [Lib.bytesWorld_size]; omega
theorem bytesWorld_nums (w : World) (e : TypeId) (s : ByteArray) (hs : s.size ≤ maxLen) :
    Nums .u8 (Lib.bytesWorld w e s) (some ⟨w.heap.size, 0, none⟩) s.size (grownCap w s.size 0 e) (bytesOf s) := by
  refine ⟨by simp [nums, bytesOf_len], grownCap_ge w _ _ _, by simpa [maxLen] using grownCap_le_maxLen w s.size 0 e hs, fun _ => ⟨_, _, rfl, by rw [Lib.bytesWorld_size]; omega, fun j hj => ?_⟩⟩
  have hj' : j < s.size := by simpa [nums, bytesOf_len] using hj
  rw [Nat.zero_add, Lib.bytesWorld_cell w e s j hj']
  have hg := bytesOf_get s j hj'
  simp only [nums, List.getElem?_map, hg, Option.map_some]
  congr 2
  rw [List.getD_eq_getElem?_getD, List.getElem?_eq_getElem (by simpa using hj')]
  rfl

theorem getD_of_get {l : List Nat} {k x d : Nat} (h : l[k]? = some x) : l.getD k d = x := by rw [List.getD_eq_getElem?_getD, h]; rfl

def nameB (l : List Nat) : Bool := !(l.length == 0) && decide (l.length ≤ 20) && letterB (l.getD 0 0) && l.all innerB
theorem nameB_no {l : List Nat} (k : Nat) (h : k < l.length) (hd : innerB (l.getD k 0) = false) : nameB l = false := by
  have : l.all innerB = false := by
    rw [List.all_eq_false]
    refine ⟨l[k], List.getElem_mem h, ?_⟩
    simpa [List.getElem?_eq_getElem h] using hd
  simp [nameB, this]
theorem nameB_yes {l : List Nat} (h0 : l.length ≠ 0) (h1 : l.length ≤ 20) (h2 : letterB (l.getD 0 0) = true) (hd : ∀ j, j < l.length → innerB (l.getD j 0) = true) : nameB l = true := by
  have : l.all innerB = true := by
    rw [List.all_eq_true]
    intro c hc
    obtain ⟨j, hj, rfl⟩ := List.getElem_of_mem hc
    simpa [List.getElem?_eq_getElem hj] using hd j hj
  unfold nameB
  rw [this, h2]
  simp [h0, h1]

set_option maxHeartbeats 1000000 in
theorem lx_name (s : ByteArray) (w : World) : Calls Try.prog 8 #[.string s] w fun e w' => e = .returned (.bool (nameB (bytesOf s))) ∧ w = w' := by
  have hl := bytesOf_len s
  by_cases h0 : s.size = 0
  · have hfin : nameB (bytesOf s) = false := by simp [nameB, hl, h0]
    rw [hfin]
    have he := isEmpty_str0 s h0
    clear hfin hl
    go_enter Try.func8, Try.ntmps8
    go_wp2
    go_ret
    exact ⟨rfl, rfl⟩
  have h1 : 0 < s.size := by omega
  obtain ⟨he1, he2⟩ := isEmpty_str s h1
  by_cases h20 : s.size ≤ 20
  case neg =>
    have hfin : nameB (bytesOf s) = false := by simp [nameB, hl, h20]
    rw [hfin]
    have hbig : (20 : Int) < (s.size : Int) := by omega
    clear hfin hl h20
    go_enter Try.func8, Try.ntmps8
    go_wp2
    go_ret
    exact ⟨rfl, rfl⟩
  have hsm : ¬ (20 : Int) < (s.size : Int) := by omega
  have Hg : Hid (∀ k (h : k < s.size), (bytesOf s).getD k 0 = (s[k]'h).toNat) := Lib.hid fun k h => getD_of_get (bytesOf_get s k h)
  have Hl := Lib.hid hl
  have hc := lx_letter (s[0]'h1).toNat w ((s[0]'h1).toNat_lt)
  have h20' := Lib.hid h20
  clear hl h20
  cases hlt : letterB (s[0]'h1).toNat
  · have hfin : nameB (bytesOf s) = false := by unfold nameB; rw [Hg.out 0 h1, hlt]; simp
    rw [hfin]
    rw [hlt] at hc
    have Hc := Lib.hid hc
    clear hfin hc hlt
    go_enter Try.func8, Try.ntmps8
    go_wp2_with (go_at_call 19; (with_reducible refine Hc.out.mono ?_); rintro e w' ⟨rfl, rfl⟩)
    go_ret
    exact ⟨rfl, rfl⟩
  rw [hlt] at hc
  have Hc := Lib.hid hc
  have Hlt : Hid (letterB ((bytesOf s).getD 0 0) = true) := Lib.hid (by rw [Hg.out 0 h1]; exact hlt)
  clear hc hlt
  go_enter Try.func8, Try.ntmps8
  go_wp2_with (go_at_call 19; (with_reducible refine Hc.out.mono ?_); rintro e w' ⟨rfl, rfl⟩)
  go_loop [3, 19] (fun _ i => ∃ k : Nat, k ≤ s.size ∧ i = .int .i64 (k : Int) ∧ ∀ j, j < k → innerB ((bytesOf s).getD j 0) = true) (fun _ i => s.size - (intOf i).toNat)
  case atStart => exact ⟨0, Nat.zero_le _, rfl, fun j hj => by omega⟩
  case round =>
    obtain ⟨k, hk, rfl, hdig⟩ := hrel
    have Hdig := Lib.hid hdig
    clear hdig
    by_cases hlt : k < s.size
    · have hin := lx_inner (s[k]'hlt).toNat w ((s[k]'hlt).toNat_lt)
      have hg := Hg.out k hlt
      cases hd : innerB (s[k]'hlt).toNat
      · have hfin : nameB (bytesOf s) = false := nameB_no k (by rw [Hl.out]; exact hlt) (by rw [hg]; exact hd)
        have Hfin := Lib.hid hfin
        rw [hd] at hin
        have Hin := Lib.hid hin
        clear hin hd hg hfin
        go_wp2_with (go_at_call 20; (with_reducible refine Hin.out.mono ?_); rintro e w' ⟨rfl, rfl⟩)
        go_ret
        exact ⟨by rw [Hfin.out]; rfl, rfl⟩
      · rw [hd] at hin
        have Hin := Lib.hid hin
        have Hnew : Hid (innerB ((bytesOf s).getD k 0) = true) := Lib.hid (by rw [hg]; exact hd)
        clear hin hd hg
        go_wp2_with (go_at_call 20; (with_reducible refine Hin.out.mono ?_); rintro e w' ⟨rfl, rfl⟩)
        go_round
        case rel =>
          refine ⟨k + 1, by omega, by go_num, fun j hj => ?_⟩
          rcases Nat.lt_or_ge j k with h | h
          · exact Hdig.out j h
          · obtain rfl : j = k := by omega
            exact Hnew.out
        case measure => simp [intOf]; omega
    · have hfin : nameB (bytesOf s) = true := nameB_yes (by rw [Hl.out]; omega) (by rw [Hl.out]; exact h20'.out) Hlt.out (fun j hj => Hdig.out j (by rw [Hl.out] at hj; omega))
      have Hfin := Lib.hid hfin
      clear hfin
      go_wp2
      go_ret
      exact ⟨by rw [Hfin.out]; rfl, rfl⟩

set_option maxHeartbeats 1000000 in
theorem ref_name (s : ByteArray) (w : World) : Calls Try.prog 9 #[.string s] w fun e w' => e = .returned (.bool (nameB (bytesOf s))) ∧ w = w' := by
  have hl := bytesOf_len s
  by_cases h0 : s.size = 0
  · have hfin : nameB (bytesOf s) = false := by simp [nameB, hl, h0]
    rw [hfin]
    have he : ((s.size : Int) == 0) = true := by rw [beq_iff_eq]; omega
    clear hfin hl
    go_enter Try.func9, Try.ntmps9
    go_wp2
    go_ret
    exact ⟨rfl, rfl⟩
  have h1 : 0 < s.size := by omega
  have he : ((s.size : Int) == 0) = false := by rw [beq_eq_false_iff_ne]; omega
  have H0 := Lib.hid h0
  clear h0
  by_cases h20 : s.size ≤ 20
  case neg =>
    have hfin : nameB (bytesOf s) = false := by simp [nameB, hl, h20]
    rw [hfin]
    have hbig : (20 : Int) < (s.size : Int) := by omega
    clear hfin hl h20
    go_enter Try.func9, Try.ntmps9
    go_wp2
    go_ret
    exact ⟨rfl, rfl⟩
  have hsm : ¬ (20 : Int) < (s.size : Int) := by omega
  have Hg : Hid (∀ k (h : k < s.size), (bytesOf s).getD k 0 = (s[k]'h).toNat) := Lib.hid fun k h => getD_of_get (bytesOf_get s k h)
  have Hl := Lib.hid hl
  have hc := lx_first (s[0]'h1).toNat w ((s[0]'h1).toNat_lt)
  have h20' := Lib.hid h20
  clear hl h20
  cases hlt : letterB (s[0]'h1).toNat
  · have hfin : nameB (bytesOf s) = false := by unfold nameB; rw [Hg.out 0 h1, hlt]; simp
    rw [hfin]
    rw [hlt] at hc
    have Hc := Lib.hid hc
    clear hfin hc hlt
    go_enter Try.func9, Try.ntmps9
    go_wp2_with (go_at_call 21; (with_reducible refine Hc.out.mono ?_); rintro e w' ⟨rfl, rfl⟩)
    go_ret
    exact ⟨rfl, rfl⟩
  rw [hlt] at hc
  have Hc := Lib.hid hc
  have Hlt : Hid (letterB ((bytesOf s).getD 0 0) = true) := Lib.hid (by rw [Hg.out 0 h1]; exact hlt)
  clear hc hlt
  go_enter Try.func9, Try.ntmps9
  go_wp2_with (go_at_call 21; (with_reducible refine Hc.out.mono ?_); rintro e w' ⟨rfl, rfl⟩)
  go_loop [3] (fun i => ∃ k : Nat, k ≤ s.size ∧ i = .int .i64 (k : Int) ∧ ∀ j, j < k → innerB ((bytesOf s).getD j 0) = true) (fun i => s.size - (intOf i).toNat)
  case atStart => exact ⟨0, Nat.zero_le _, rfl, fun j hj => by omega⟩
  case round =>
    obtain ⟨k, hk, rfl, hdig⟩ := hrel
    have Hdig := Lib.hid hdig
    clear hdig
    by_cases hlt : k < s.size
    · have hin := lx_later (s[k]'hlt).toNat w ((s[k]'hlt).toNat_lt)
      have hg := Hg.out k hlt
      cases hd : innerB (s[k]'hlt).toNat
      · have hfin : nameB (bytesOf s) = false := nameB_no k (by rw [Hl.out]; exact hlt) (by rw [hg]; exact hd)
        have Hfin := Lib.hid hfin
        rw [hd] at hin
        have Hin := Lib.hid hin
        clear hin hd hg hfin
        go_wp2_with (go_at_call 22; (with_reducible refine Hin.out.mono ?_); rintro e w' ⟨rfl, rfl⟩)
        go_ret
        exact ⟨by rw [Hfin.out]; rfl, rfl⟩
      · rw [hd] at hin
        have Hin := Lib.hid hin
        have Hnew : Hid (innerB ((bytesOf s).getD k 0) = true) := Lib.hid (by rw [hg]; exact hd)
        clear hin hd hg
        go_wp2_with (go_at_call 22; (with_reducible refine Hin.out.mono ?_); rintro e w' ⟨rfl, rfl⟩)
        go_round
        case rel =>
          refine ⟨k + 1, by omega, by go_num, fun j hj => ?_⟩
          rcases Nat.lt_or_ge j k with h | h
          · exact Hdig.out j h
          · obtain rfl : j = k := by omega
            exact Hnew.out
        case measure => simp [intOf]; omega
    · have hfin : nameB (bytesOf s) = true := nameB_yes (by rw [Hl.out]; omega) (by rw [Hl.out]; exact h20'.out) Hlt.out (fun j hj => Hdig.out j (by rw [Hl.out] at hj; omega))
      have Hfin := Lib.hid hfin
      clear hfin
      go_wp2
      go_ret
      exact ⟨by rw [Hfin.out]; rfl, rfl⟩
end Go.Proofs.Ytcmfflfgegadjaa
