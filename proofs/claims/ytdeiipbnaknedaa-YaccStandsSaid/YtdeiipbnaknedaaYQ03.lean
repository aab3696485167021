/- lex: names and literals. -/
import Derived.Test.YtdeiipbnaknedaaYQ02
import Derived.Lib.ConvBytes
import Derived.Laws.AppendOwn
namespace Go.Proofs.Ytdeiipbnaknedaa
open Go.RowKit
set_option linter.unusedVariables false
set_option linter.unusedSimpArgs false

theorem bytesWorld_below (w : World) (e : TypeId) (s : ByteArray) : Below w.heap.size w (Lib.bytesWorld w e s) := by
  refine ⟨rfl, rfl, rfl, ?_, fun k hk => Lib.bytesWorld_at_old w e s k hk⟩
  rw [Lib.bytesWorld_size]; omega
theorem bytesWorld_nums (w : World) (e : TypeId) (s : ByteArray) (hs : s.size ≤ maxLen) :
    Nums .u8 (Lib.bytesWorld w e s) (some ⟨w.heap.size, 0, none⟩) s.size (grownCap w s.size 0 e) (bytesOf s) := by
  refine ⟨by simp [nums, bytesOf_len], grownCap_ge w _ _ _, by simpa [maxLen] using grownCap_le_maxLen w s.size 0 e hs, fun _ => ⟨_, _, rfl, by rw [Lib.bytesWorld_size]; omega, fun j hj => ?_⟩⟩
  have hj' : j < s.size := by simpa [nums, bytesOf_len] using hj
  rw [Nat.zero_add, Lib.bytesWorld_cell w e s j hj']
  have hg := bytesOf_get s j hj'
  simp only [nums, List.getElem?_map, hg, Option.map_some]
  congr 2
  rw [List.getD_eq_getElem?_getD, List.getElem?_eq_getElem (by simpa using hj')]
  rfl

theorem getD_of_get {l : List Nat} {k x d : Nat} (h : l[k]? = some x) : l.getD k d = x := by rw [List.getD_eq_getElem?_getD, h]; rfl

def nameB (l : List Nat) : Bool := !(l.length == 0) && decide (l.length ≤ 20) && letterB (l.getD 0 0) && l.all innerB
theorem nameB_no {l : List Nat} (k : Nat) (h : k < l.length) (hd : innerB (l.getD k 0) = false) : nameB l = false := by
  have : l.all innerB = false := by
    rw [List.all_eq_false]
    refine ⟨l[k], List.getElem_mem h, ?_⟩
    simpa [List.getElem?_eq_getElem h] using hd
  simp [nameB, this]
theorem nameB_yes {l : List Nat} (h0 : l.length ≠ 0) (h1 : l.length ≤ 20) (h2 : letterB (l.getD 0 0) = true) (hd : ∀ j, j < l.length → innerB (l.getD j 0) = true) : nameB l = true := by
  have : l.all innerB = true := by
    rw [List.all_eq_true]
    intro c hc
    obtain ⟨j, hj, rfl⟩ := List.getElem_of_mem hc
    simpa [List.getElem?_eq_getElem hj] using hd j hj
  unfold nameB
  rw [this, h2]
  simp [h0, h1]

end Go.Proofs.Ytdeiipbnaknedaa
/- lex: literals. -/
namespace Go.Proofs.Ytdeiipbnaknedaa
open Go.RowKit
set_option linter.unusedVariables false
set_option linter.unusedSimpArgs false

/-- how many bytes the literal has that bytes begin with, and the error -/
def litN (l : List Nat) : Nat × Nat :=
  if l.length < 2 then (0, 4)
  else if plainB (l.getD 1 0) then (if l.length ≤ 2 then (0, 4) else if l.getD 2 0 = 39 then (3, 0) else (0, 3))
  else if l.getD 1 0 ≠ 92 then (0, 3)
  else if l.length < 3 then (0, 4)
  else if !escapedB (l.getD 2 0) then (0, 3)
  else if l.length ≤ 3 then (0, 4) else if l.getD 3 0 = 39 then (4, 0) else (0, 3)

theorem lt256 {l : List Nat} (h : ∀ x ∈ l, x < 256) (j : Nat) : l.getD j 0 < 256 := by
  rw [List.getD_eq_getElem?_getD]
  rcases Nat.lt_or_ge j l.length with h' | h'
  · rw [List.getElem?_eq_getElem h']; exact h _ (List.getElem_mem h')
  · rw [List.getElem?_eq_none h']; exact by decide

set_option maxHeartbeats 1000000 in
theorem lx_literal (A : Option Addr) (n c : Nat) (bs : List Nat) (w : World) (h : Nums .u8 w A n c bs) (hb : ∀ x ∈ bs, x < 256) :
    Calls Try.prog 50 #[.slice A n c] w fun e w' => e = .returned (.tuple #[.int .i64 ((litN bs).1 : Int), .int .i64 ((litN bs).2 : Int)]) ∧ w = w' := by
  obtain rfl := h.len
  have hcap := h.cap
  by_cases h2 : bs.length < 2
  · have hf : litN bs = (0, 4) := by simp [litN, h2]
    rw [hf]
    clear hf
    go_enter Try.func50, Try.ntmps50
    go_wp2
    go_ret2
    exact ⟨rfl, rfl⟩
  obtain ⟨b, off, rfl, hbl, hcell⟩ := h.at_ (by omega)
  have l1 := lt256 hb 1
  have l2 := lt256 hb 2
  have l3 := lt256 hb 3
  have c1 := hcell 1 (by omega)
  have c2 := fun h => hcell 2 h
  have c3 := fun h => hcell 3 h
  have hlit : litN bs = if plainB (bs.getD 1 0) then (if bs.length ≤ 2 then (0, 4) else if bs.getD 2 0 = 39 then (3, 0) else (0, 3))
      else if bs.getD 1 0 ≠ 92 then (0, 3) else if bs.length < 3 then (0, 4) else if !escapedB (bs.getD 2 0) then (0, 3)
      else if bs.length ≤ 3 then (0, 4) else if bs.getD 3 0 = 39 then (4, 0) else (0, 3) := by
    unfold litN; rw [if_neg h2]
  generalize bs.getD 1 0 = x1 at *
  generalize bs.getD 2 0 = x2 at *
  generalize bs.getD 3 0 = x3 at *
  generalize litN bs = r at *
  have p1 := lx_plain x1 w l1
  have e2 := lx_escaped x2 w l2
  clear hcell hb
  cases hp : plainB x1
  · rw [hp] at p1 hlit
    have P1 := Lib.hid p1
    clear p1 hp
    simp only [Bool.false_eq_true, if_false] at hlit
    by_cases hx : x1 = 92
    · have hxx : ((x1 : Int) == 92) = true := by rw [beq_iff_eq]; omega
      simp only [hx, ne_eq, not_true, if_false] at hlit
      clear hx
      by_cases h3 : bs.length < 3
      · rw [if_pos h3] at hlit
        subst hlit
        clear c2 c3 e2
        go_enter Try.func50, Try.ntmps50
        go_wp2_with (go_at_call 64; (with_reducible refine P1.out.mono ?_); rintro e w' ⟨rfl, rfl⟩)
        go_ret2
        exact ⟨rfl, rfl⟩
      · rw [if_neg h3] at hlit
        have c2 := c2 (by omega)
        cases he : escapedB x2
        · rw [he] at e2 hlit
          have E2 := Lib.hid e2
          clear e2 he c3
          simp only [Bool.not_false, if_true] at hlit
          subst hlit
          go_enter Try.func50, Try.ntmps50
          go_wp2_with (first
            | (go_at_call 64; (with_reducible refine P1.out.mono ?_); rintro e w' ⟨rfl, rfl⟩)
            | (go_at_call 65; (with_reducible refine E2.out.mono ?_); rintro e w' ⟨rfl, rfl⟩))
          go_ret2
          exact ⟨rfl, rfl⟩
        · rw [he] at e2 hlit
          have E2 := Lib.hid e2
          clear e2 he
          simp only [Bool.not_true, Bool.false_eq_true, if_false] at hlit
          by_cases h4 : bs.length ≤ 3
          · rw [if_pos h4] at hlit
            subst hlit
            clear c3
            go_enter Try.func50, Try.ntmps50
            go_wp2_with (first
              | (go_at_call 64; (with_reducible refine P1.out.mono ?_); rintro e w' ⟨rfl, rfl⟩)
              | (go_at_call 65; (with_reducible refine E2.out.mono ?_); rintro e w' ⟨rfl, rfl⟩))
            go_ret2
            exact ⟨rfl, rfl⟩
          · rw [if_neg h4] at hlit
            have c3 := c3 (by omega)
            by_cases hq : x3 = 39
            · have hqq : ((x3 : Int) == 39) = true := by rw [beq_iff_eq]; omega
              rw [if_pos hq] at hlit
              subst hlit
              clear hq
              go_enter Try.func50, Try.ntmps50
              go_wp2_with (first
                | (go_at_call 64; (with_reducible refine P1.out.mono ?_); rintro e w' ⟨rfl, rfl⟩)
                | (go_at_call 65; (with_reducible refine E2.out.mono ?_); rintro e w' ⟨rfl, rfl⟩))
              go_ret2
              exact ⟨rfl, rfl⟩
            · have hqq : ((x3 : Int) == 39) = false := by rw [beq_eq_false_iff_ne]; omega
              rw [if_neg hq] at hlit
              subst hlit
              clear hq
              go_enter Try.func50, Try.ntmps50
              go_wp2_with (first
                | (go_at_call 64; (with_reducible refine P1.out.mono ?_); rintro e w' ⟨rfl, rfl⟩)
                | (go_at_call 65; (with_reducible refine E2.out.mono ?_); rintro e w' ⟨rfl, rfl⟩))
              go_ret2
              exact ⟨rfl, rfl⟩
    · have hxx : ((x1 : Int) == 92) = false := by rw [beq_eq_false_iff_ne]; omega
      rw [if_pos hx] at hlit
      subst hlit
      clear hx c2 c3 e2
      go_enter Try.func50, Try.ntmps50
      go_wp2_with (go_at_call 64; (with_reducible refine P1.out.mono ?_); rintro e w' ⟨rfl, rfl⟩)
      go_ret2
      exact ⟨rfl, rfl⟩
  · rw [hp] at p1 hlit
    have P1 := Lib.hid p1
    clear p1 hp e2 c3
    simp only [if_true] at hlit
    by_cases h3 : bs.length ≤ 2
    · rw [if_pos h3] at hlit
      subst hlit
      clear c2
      go_enter Try.func50, Try.ntmps50
      go_wp2_with (go_at_call 64; (with_reducible refine P1.out.mono ?_); rintro e w' ⟨rfl, rfl⟩)
      go_ret2
      exact ⟨rfl, rfl⟩
    · rw [if_neg h3] at hlit
      have c2 := c2 (by omega)
      by_cases hq : x2 = 39
      · have hqq : ((x2 : Int) == 39) = true := by rw [beq_iff_eq]; omega
        rw [if_pos hq] at hlit
        subst hlit
        clear hq
        go_enter Try.func50, Try.ntmps50
        go_wp2_with (go_at_call 64; (with_reducible refine P1.out.mono ?_); rintro e w' ⟨rfl, rfl⟩)
        go_ret2
        exact ⟨rfl, rfl⟩
      · have hqq : ((x2 : Int) == 39) = false := by rw [beq_eq_false_iff_ne]; omega
        rw [if_neg hq] at hlit
        subst hlit
        clear hq
        go_enter Try.func50, Try.ntmps50
        go_wp2_with (go_at_call 64; (with_reducible refine P1.out.mono ?_); rintro e w' ⟨rfl, rfl⟩)
        go_ret2
        exact ⟨rfl, rfl⟩
end Go.Proofs.Ytdeiipbnaknedaa
/- lex: is it a literal? -/
namespace Go.Proofs.Ytdeiipbnaknedaa
open Go.RowKit
set_option linter.unusedVariables false
set_option linter.unusedSimpArgs false

def litB (l : List Nat) : Bool :=
  (decide (l.length = 3) && decide (l.getD 0 0 = 39) && decide (l.getD 2 0 = 39) && plainB (l.getD 1 0)) ||
  (decide (l.length = 4) && decide (l.getD 0 0 = 39) && decide (l.getD 3 0 = 39) && decide (l.getD 1 0 = 92) && escapedB (l.getD 2 0))

theorem plain92 : plainB 92 = false := by decide
theorem litB_lit (l : List Nat) : litB l = (decide (l.getD 0 0 = 39) && (decide ((litN l).2 = 0) && decide ((litN l).1 = l.length))) := by
  unfold litB litN
  generalize l.getD 0 0 = x0
  generalize hx1 : l.getD 1 0 = x1
  generalize l.getD 2 0 = x2
  generalize l.getD 3 0 = x3
  generalize l.length = n
  by_cases h92 : x1 = 92
  · subst h92
    rw [plain92]
    cases escapedB x2 <;> grind
  · cases plainB x1 <;> grind

set_option maxHeartbeats 1000000 in
theorem ref_Literal (s : ByteArray) (w : World) :
    Calls Try.prog 35 #[.string s] w fun e w' => e = .returned (.bool (litB (bytesOf s))) ∧ w = w' := by
  have hl := bytesOf_len s
  have Hg : Hid (∀ k (h : k < s.size), (bytesOf s).getD k 0 = (s[k]'h).toNat) := Lib.hid fun k h => getD_of_get (bytesOf_get s k h)
  have Hf : Hid (litB (bytesOf s) = ((decide (s.size = 3) && decide ((bytesOf s).getD 0 0 = 39) && decide ((bytesOf s).getD 2 0 = 39) && plainB ((bytesOf s).getD 1 0)) ||
    (decide (s.size = 4) && decide ((bytesOf s).getD 0 0 = 39) && decide ((bytesOf s).getD 3 0 = 39) && decide ((bytesOf s).getD 1 0 = 92) && escapedB ((bytesOf s).getD 2 0)))) := Lib.hid (by unfold litB; rw [hl])
  clear hl
  by_cases h3 : s.size = 3
  · have e3 : ((s.size : Int) == 3) = true := by rw [beq_iff_eq]; omega
    have k0 : 0 < s.size := by omega
    have k1 : 1 < s.size := by omega
    have k2 : 2 < s.size := by omega
    have Hf2 : Hid (litB (bytesOf s) = (decide ((s[0]'k0).toNat = 39) && decide ((s[2]'k2).toNat = 39) && decide (32 ≤ (s[1]'k1).toNat ∧ (s[1]'k1).toNat ≤ 126 ∧ (s[1]'k1).toNat ≠ 39 ∧ (s[1]'k1).toNat ≠ 92))) := Lib.hid (by
      rw [Hf.out, Hg.out 0 k0, Hg.out 1 k1, Hg.out 2 k2, h3]
      simp [plainB])
    clear h3 Hf
    go_enter Try.func35, Try.ntmps35
    go_wp2
    all_goals
      go_ret
      refine ⟨ret_bool ?_, rfl⟩
      rw [Hf2.out]
      rw [Bool.eq_iff_iff]; simp only [Bool.or_eq_true, Bool.and_eq_true, beq_iff_eq, bne_iff_ne, ne_eq, Bool.not_eq_true', decide_eq_true_eq, decide_eq_false_iff_not, Bool.false_eq_true, true_iff, false_iff, iff_true, iff_false]; omega
  have e3 : ((s.size : Int) == 3) = false := by rw [beq_eq_false_iff_ne]; omega
  by_cases h4 : s.size = 4
  · have e4 : ((s.size : Int) == 4) = true := by rw [beq_iff_eq]; omega
    have k0 : 0 < s.size := by omega
    have k1 : 1 < s.size := by omega
    have k2 : 2 < s.size := by omega
    have k3 : 3 < s.size := by omega
    have Hf2 : Hid (litB (bytesOf s) = (decide ((s[0]'k0).toNat = 39) && decide ((s[3]'k3).toNat = 39) && decide ((s[1]'k1).toNat = 92) && decide ((s[2]'k2).toNat = 110 ∨ (s[2]'k2).toNat = 116 ∨ (s[2]'k2).toNat = 92 ∨ (s[2]'k2).toNat = 39))) := Lib.hid (by
      rw [Hf.out, Hg.out 0 k0, Hg.out 1 k1, Hg.out 2 k2, Hg.out 3 k3, h4]
      simp [escapedB])
    clear h3 h4 Hf
    go_enter Try.func35, Try.ntmps35
    go_wp2
    all_goals
      go_ret
      refine ⟨ret_bool ?_, rfl⟩
      rw [Hf2.out]
      rw [Bool.eq_iff_iff]; simp only [Bool.or_eq_true, Bool.and_eq_true, beq_iff_eq, bne_iff_ne, ne_eq, Bool.not_eq_true', decide_eq_true_eq, decide_eq_false_iff_not, Bool.false_eq_true, true_iff, false_iff, iff_true, iff_false]; omega
  · have e4 : ((s.size : Int) == 4) = false := by rw [beq_eq_false_iff_ne]; omega
    have hfin : litB (bytesOf s) = false := by rw [Hf.out]; simp [h3, h4]
    rw [hfin]
    clear hfin h3 h4 Hf
    go_enter Try.func35, Try.ntmps35
    go_wp2
    go_ret
    exact ⟨rfl, rfl⟩
end Go.Proofs.Ytdeiipbnaknedaa
