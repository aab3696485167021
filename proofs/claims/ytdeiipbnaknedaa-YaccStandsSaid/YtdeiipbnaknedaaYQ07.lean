/- lex: what is skipped. -/
import Derived.Test.YtdeiipbnaknedaaYQ06
namespace Go.Proofs.Ytdeiipbnaknedaa
open Go.RowKit
set_option linter.unusedVariables false
set_option linter.unusedSimpArgs false

/-- a block that a constant text's bytes have laid -/
theorem mark_sl (w : World) (t : TypeId) (fr : Nat × Nat) (vs : List Value) (n : Nat) (arr : Array Value) (h : arr = vs.toArray) (hn : vs.length = n) (hs : n ≤ 1000000) : Sl (w.alloc (.cells arr t fr)) (some ⟨w.heap.size, 0, none⟩) n n vs := by
  subst h
  refine ⟨hn, Nat.le_refl _, by omega, fun _ => ⟨_, _, rfl, ?_, fun j hj => ?_⟩⟩
  · show w.heap.size < (w.heap.push _).size
    simp
  · rw [Nat.zero_add, World.cell?_alloc_mark]
    simp


theorem lineN_pos (l : List Nat) (h0 : 0 < l.length) (h : l.getD 0 0 ≠ 10) : 1 ≤ lineN l := by
  unfold lineN
  cases l with
  | nil => simp at h0
  | cons a l =>
    unfold ixB
    have ha : a ≠ 10 := h
    rw [if_neg ha]
    cases ixB l 10 <;> simp

/-- how many bytes are skipped at the beginning, and whether any -/
def skipN (l : List Nat) : Nat × Bool :=
  if l.getD 0 0 = 32 ∨ l.getD 0 0 = 9 ∨ l.getD 0 0 = 10 ∨ l.getD 0 0 = 13 then (1, true)
  else if [47, 42].isPrefixOf l then (thrN l 2 [42, 47], true)
  else if [47, 47].isPrefixOf l then (lineN l, true)
  else if [37, 123].isPrefixOf l then (thrN l 2 [37, 125], true)
  else if l.getD 0 0 = 60 then (thrN (l.take (lineN l)) 1 [62], true)
  else if l.getD 0 0 = 123 then (actN l, true)
  else (0, false)

theorem blank_no (x : Nat) (h : ¬ (x = 32 ∨ x = 9 ∨ x = 10 ∨ x = 13)) : oInt (ixB [32, 9, 10, 13] x) = -1 := by
  have h1 : ¬ 32 = x := by omega
  have h2 : ¬ 9 = x := by omega
  have h3 : ¬ 10 = x := by omega
  have h4 : ¬ 13 = x := by omega
  simp [ixB, h1, h2, h3, h4, oInt]
theorem blank_yes (x : Nat) (h : x = 32 ∨ x = 9 ∨ x = 10 ∨ x = 13) : ∃ v : Nat, oInt (ixB [32, 9, 10, 13] x) = (v : Int) := by
  rcases h with rfl | rfl | rfl | rfl
  · exact ⟨0, rfl⟩
  · exact ⟨1, rfl⟩
  · exact ⟨2, rfl⟩
  · exact ⟨3, rfl⟩
theorem prefix_two {a b : Nat} {l : List Nat} (h : [a, b].isPrefixOf l = true) : 2 ≤ l.length := by
  have := List.IsPrefix.length_le (List.isPrefixOf_iff_prefix.1 h)
  simpa using this

set_option maxHeartbeats 1000000 in
theorem lx_skipped (A : Option Addr) (n c : Nat) (bs : List Nat) (w : World) (h : Nums .u8 w A n c bs) (hb : ∀ y ∈ bs, y < 256) (h0 : 0 < n) (hn : n ≤ 100000) (hM : MaxAt w) :
    Calls Try.prog 23 #[.slice A n c] w fun e w' => e = .returned (.tuple #[.int .i64 ((skipN bs).1 : Int), .bool (skipN bs).2]) ∧ Below w.heap.size w w' := by
  obtain rfl := h.len
  have hcap := h.cap
  obtain ⟨b, off, rfl, hbl, hcell⟩ := h.at_ h0
  have c0 := hcell 0 h0
  rw [Nat.add_zero] at c0
  have hx := lt256 hb 0
  have hsk : skipN bs = (if bs.getD 0 0 = 32 ∨ bs.getD 0 0 = 9 ∨ bs.getD 0 0 = 10 ∨ bs.getD 0 0 = 13 then (1, true)
    else if [47, 42].isPrefixOf bs then (thrN bs 2 [42, 47], true)
    else if [47, 47].isPrefixOf bs then (lineN bs, true)
    else if [37, 123].isPrefixOf bs then (thrN bs 2 [37, 125], true)
    else if bs.getD 0 0 = 60 then (thrN (bs.take (lineN bs)) 1 [62], true)
    else if bs.getD 0 0 = 123 then (actN bs, true)
    else (0, false)) := rfl
  have hl10 : bs.getD 0 0 ≠ 10 → 1 ≤ lineN bs := lineN_pos bs h0
  generalize skipN bs = r at *
  generalize bs.getD 0 0 = x at *
  clear hcell
  have Hl10 := Lib.hid hl10
  clear hl10
  have kc := fun (w : World) (C : Array Value) (n c : Nat) => Lib.run_convert_bytes_const (P := Try.prog) w 22 5 C n c Try.underlying22 Try.underlying5
  go_enter Try.func23, Try.ntmps23
  go_wp2_with fail
  have hc := lx_indexByte (some ⟨w.heap.size, 0, none⟩) 4 4 [32, 9, 10, 13] x _ (mark_sl w 5 (4, 5) (nums .u8 [32, 9, 10, 13]) 4 #[.int .u8 32, .int .u8 9, .int .u8 10, .int .u8 13] rfl rfl (by decide)) (by decide) hx (by decide)
  have hB1 : Below w.heap.size w (w.alloc (.cells #[.int .u8 32, .int .u8 9, .int .u8 10, .int .u8 13] 5 (4, 5))) := (Below.refl _ _).alloc (Nat.le_refl _) _
  generalize w.alloc (.cells #[.int .u8 32, .int .u8 9, .int .u8 10, .int .u8 13] 5 (4, 5)) = w1 at *
  have c1 : w1.cell? ⟨b, off, none⟩ = some (.int .u8 (x : Int)) := by rw [hB1.cell hbl]; exact c0
  by_cases hws : x = 32 ∨ x = 9 ∨ x = 10 ∨ x = 13
  · rw [if_pos hws] at hsk
    subst hsk
    obtain ⟨v, hv⟩ := blank_yes x hws
    rw [hv] at hc
    clear hv hws
    (with_reducible refine hc.mono ?_)
    rintro e w2 ⟨rfl, rfl⟩
    clear hc
    go_wp2_with fail
    go_ret2
    exact ⟨rfl, hB1⟩
  rw [if_neg hws] at hsk
  rw [blank_no x hws] at hc
  have Hne10 : Hid (x ≠ 10) := Lib.hid (by omega)
  clear hws
  (with_reducible refine hc.mono ?_)
  rintro e w2 ⟨rfl, rfl⟩
  clear hc
  have h1 := h.below hB1
  have hM1 := hM.below hB1
  go_wp2_with fail
  have hc := lx_prefix _ _ _ bs (some ⟨w1.heap.size, 0, none⟩) 2 2 [47, 42] _ (h1.below ((Below.refl _ _).alloc (Nat.le_refl _) (.cells #[.int .u8 47, .int .u8 42] 5 (2, 3)))) (mark_sl w1 5 (2, 3) (nums .u8 [47, 42]) 2 #[.int .u8 47, .int .u8 42] rfl rfl (by decide)) hb (by decide) h0 (by decide)
  have hb1 : Below w1.heap.size w1 (w1.alloc (.cells #[.int .u8 47, .int .u8 42] 5 (2, 3))) := (Below.refl _ _).alloc (Nat.le_refl _) _
  have h2 := h1.below hb1
  have hM2 := hM1.below hb1
  have c2 : (w1.alloc (.cells #[.int .u8 47, .int .u8 42] 5 (2, 3))).cell? ⟨b, off, none⟩ = some (.int .u8 (x : Int)) := by rw [hb1.cell (Nat.lt_of_lt_of_le hbl hB1.size)]; exact c1
  have hB2 := below_tail hB1 hb1
  clear hb1
  generalize w1.alloc (.cells #[.int .u8 47, .int .u8 42] 5 (2, 3)) = w2 at *
  cases hp1 : [47, 42].isPrefixOf bs
  case true =>
    rw [hp1] at hc hsk
    simp only [if_true] at hsk
    have hp2 := prefix_two hp1
    subst hsk
    clear hp1
    (with_reducible refine hc.mono ?_)
    rintro e w' ⟨rfl, rfl⟩
    clear hc
    go_wp2_with fail
    have ht := lx_through b off bs.length c bs 2 ⟨#[42, 47]⟩ w2 h2 hb hp2 (by decide) hn (by decide) (by decide) hM2
    rw [show bytesOf ⟨#[42, 47]⟩ = [42, 47] from rfl, show (((2 : Nat) : Int)) = 2 from rfl] at ht
    (with_reducible refine ht.mono ?_)
    rintro e w' ⟨rfl, hbt⟩
    clear ht
    go_wp2_with fail
    go_ret2
    exact ⟨rfl, below_tail hB2 hbt⟩
  rw [hp1] at hc hsk
  simp only [Bool.false_eq_true, if_false] at hsk
  clear hp1
  (with_reducible refine hc.mono ?_)
  rintro e w' ⟨rfl, rfl⟩
  clear hc
  go_wp2_with fail
  have hc := lx_prefix _ _ _ bs (some ⟨w2.heap.size, 0, none⟩) 2 2 [47, 47] _ (h2.below ((Below.refl _ _).alloc (Nat.le_refl _) (.cells #[.int .u8 47, .int .u8 47] 5 (2, 3)))) (mark_sl w2 5 (2, 3) (nums .u8 [47, 47]) 2 #[.int .u8 47, .int .u8 47] rfl rfl (by decide)) hb (by decide) h0 (by decide)
  have hb2 : Below w2.heap.size w2 (w2.alloc (.cells #[.int .u8 47, .int .u8 47] 5 (2, 3))) := (Below.refl _ _).alloc (Nat.le_refl _) _
  have h3 := h2.below hb2
  have hM3 := hM2.below hb2
  have c3 : (w2.alloc (.cells #[.int .u8 47, .int .u8 47] 5 (2, 3))).cell? ⟨b, off, none⟩ = some (.int .u8 (x : Int)) := by rw [hb2.cell (Nat.lt_of_lt_of_le hbl hB2.size)]; exact c2
  have hB3 := below_tail hB2 hb2
  clear hb2
  generalize w2.alloc (.cells #[.int .u8 47, .int .u8 47] 5 (2, 3)) = w3 at *
  cases hp2 : [47, 47].isPrefixOf bs
  case true =>
    rw [hp2] at hc hsk
    simp only [if_true] at hsk
    have hp2 := prefix_two hp2
    subst hsk
    clear hp2
    (with_reducible refine hc.mono ?_)
    rintro e w' ⟨rfl, rfl⟩
    clear hc
    go_wp2_with fail
    have ht := lx_line _ _ _ bs w3 h3 hb h0
    (with_reducible refine ht.mono ?_)
    rintro e w' ⟨rfl, rfl⟩
    clear ht
    go_wp2_with fail
    go_ret2
    exact ⟨rfl, hB3⟩
  rw [hp2] at hc hsk
  simp only [Bool.false_eq_true, if_false] at hsk
  clear hp2
  (with_reducible refine hc.mono ?_)
  rintro e w' ⟨rfl, rfl⟩
  clear hc
  go_wp2_with fail
  have hc := lx_prefix _ _ _ bs (some ⟨w3.heap.size, 0, none⟩) 2 2 [37, 123] _ (h3.below ((Below.refl _ _).alloc (Nat.le_refl _) (.cells #[.int .u8 37, .int .u8 123] 5 (2, 3)))) (mark_sl w3 5 (2, 3) (nums .u8 [37, 123]) 2 #[.int .u8 37, .int .u8 123] rfl rfl (by decide)) hb (by decide) h0 (by decide)
  have hb3 : Below w3.heap.size w3 (w3.alloc (.cells #[.int .u8 37, .int .u8 123] 5 (2, 3))) := (Below.refl _ _).alloc (Nat.le_refl _) _
  have h4 := h3.below hb3
  have hM4 := hM3.below hb3
  have c4 : (w3.alloc (.cells #[.int .u8 37, .int .u8 123] 5 (2, 3))).cell? ⟨b, off, none⟩ = some (.int .u8 (x : Int)) := by rw [hb3.cell (Nat.lt_of_lt_of_le hbl hB3.size)]; exact c3
  have hB4 := below_tail hB3 hb3
  clear hb3
  generalize w3.alloc (.cells #[.int .u8 37, .int .u8 123] 5 (2, 3)) = w4 at *
  cases hp3 : [37, 123].isPrefixOf bs
  case true =>
    rw [hp3] at hc hsk
    simp only [if_true] at hsk
    have hp2 := prefix_two hp3
    subst hsk
    clear hp3
    (with_reducible refine hc.mono ?_)
    rintro e w' ⟨rfl, rfl⟩
    clear hc
    go_wp2_with fail
    have ht := lx_through b off bs.length c bs 2 ⟨#[37, 125]⟩ w4 h4 hb hp2 (by decide) hn (by decide) (by decide) hM4
    rw [show bytesOf ⟨#[37, 125]⟩ = [37, 125] from rfl, show (((2 : Nat) : Int)) = 2 from rfl] at ht
    (with_reducible refine ht.mono ?_)
    rintro e w' ⟨rfl, hbt⟩
    clear ht
    go_wp2_with fail
    go_ret2
    exact ⟨rfl, below_tail hB4 hbt⟩
  rw [hp3] at hc hsk
  simp only [Bool.false_eq_true, if_false] at hsk
  clear hp3
  (with_reducible refine hc.mono ?_)
  rintro e w' ⟨rfl, rfl⟩
  clear hc
  by_cases h60 : x = 60
  · have q60 : ((x : Int) == 60) = true := by rw [beq_iff_eq]; omega
    rw [if_pos h60] at hsk
    subst hsk
    have hl1 := Hl10.out Hne10.out
    have hlle := lineN_le bs
    have hcl := lx_line _ _ _ bs w4 h4 hb h0
    obtain ⟨L, HL⟩ : ∃ L, Hid (lineN bs = L) := ⟨_, Lib.hid rfl⟩
    rw [HL.out] at hl1 hlle hcl
    have htake : (bs.take L).length = L := by rw [List.length_take]; omega
    have ht := lx_through b off L c (bs.take L) 1 ⟨#[62]⟩ w4 (h4.take L c hlle (by omega) hcap.2) (fun y hy => hb y (List.mem_of_mem_take hy)) hl1 (by decide) (by omega) (by decide) (by decide) hM4
    rw [show bytesOf ⟨#[62]⟩ = [62] from rfl, show (((1 : Nat) : Int)) = 1 from rfl] at ht
    have g1 : (L : Int) ≤ (c : Int) := by omega
    have Ht := Lib.hid ht
    have Hcl := Lib.hid hcl
    clear ht hcl htake h60
    go_wp2_with (go_at_call 44; (with_reducible refine Hcl.out.mono ?_); rintro e w' ⟨rfl, rfl⟩)
    (with_reducible refine Ht.out.mono ?_)
    rintro e w' ⟨rfl, hbt⟩
    go_wp2_with fail
    go_ret2
    exact ⟨by rw [HL.out]; rfl, below_tail hB4 hbt⟩
  rw [if_neg h60] at hsk
  have q60 : ((x : Int) == 60) = false := by rw [beq_eq_false_iff_ne]; omega
  clear h60
  by_cases h123 : x = 123
  · have q123 : ((x : Int) == 123) = true := by rw [beq_iff_eq]; omega
    rw [if_pos h123] at hsk
    subst hsk
    have ht := lx_action _ _ _ bs w4 h4 h0 hn
    have Ht := Lib.hid ht
    clear ht h123
    go_wp2_with (go_at_call 45; (with_reducible refine Ht.out.mono ?_); rintro e w' ⟨rfl, rfl⟩)
    go_ret2
    exact ⟨rfl, hB4⟩
  rw [if_neg h123] at hsk
  have q123 : ((x : Int) == 123) = false := by rw [beq_eq_false_iff_ne]; omega
  subst hsk
  clear h123
  go_wp2_with fail
  go_ret2
  exact ⟨rfl, hB4⟩
end Go.Proofs.Ytdeiipbnaknedaa
/- lex: the words of a percent sign; how far a kind of byte goes. -/
namespace Go.Proofs.Ytdeiipbnaknedaa
open Go.RowKit
set_option linter.unusedVariables false
set_option linter.unusedSimpArgs false

def wordU (l : List UInt8) : Nat :=
  if (l == [37, 116, 111, 107, 101, 110]) = true then 3
  else if (l == [37, 108, 101, 102, 116]) = true then 4
  else if (l == [37, 114, 105, 103, 104, 116]) = true then 5
  else if (l == [37, 110, 111, 110, 97, 115, 115, 111, 99]) = true then 6
  else if (l == [37, 115, 116, 97, 114, 116]) = true then 7
  else if (l == [37, 112, 114, 101, 99]) = true then 8
  else if (l == [37, 37]) = true then 9
  else if (l == [58]) = true then 10
  else if (l == [124]) = true then 11
  else if (l == [59]) = true then 12
  else 0
/-- the kind of a word -/
def wordN (l : List Nat) : Nat := wordU (l.map UInt8.ofNat)
theorem str_list (l : List Nat) : (str l).toList = l.map UInt8.ofNat := by
  rw [ByteArray.toList_eq]
  simp [str]

theorem lx_word (s : ByteArray) (w : World) : Calls Try.prog 52 #[.string s] w fun e w' => e = .returned (.int .i64 (wordU s.toList : Int)) ∧ w = w' := by
  obtain ⟨r, Hr⟩ : ∃ r, Hid (wordU s.toList = r) := ⟨_, Lib.hid rfl⟩
  rw [Hr.out]
  go_enter Try.func52, Try.ntmps52
  go_wp2
  all_goals
    go_ret
    refine ⟨?_, rfl⟩
    rw [← Hr.out]
    unfold wordU
    simp only [*, if_true, Bool.false_eq_true, if_false]
    rfl

def runN (B : Nat → Bool) (l : List Nat) : Nat := 1 + ((l.drop 1).takeWhile B).length
theorem takeWhile_len (B : Nat → Bool) : ∀ (l : List Nat) (m : Nat), m ≤ l.length → (∀ j, j < m → B (l.getD j 0) = true) → (m = l.length ∨ B (l.getD m 0) = false) → (l.takeWhile B).length = m
  | [], m, h, _, _ => by simp at h; subst h; rfl
  | a :: l, 0, _, _, h2 => by
    rcases h2 with h2 | h2
    · simp at h2
    · have : B a = false := h2
      simp [List.takeWhile, this]
  | a :: l, m + 1, h, h1, h2 => by
    have ha : B a = true := h1 0 (by omega)
    have ih := takeWhile_len B l m (by simpa using h) (fun j hj => h1 (j + 1) (by omega)) (by
      rcases h2 with h2 | h2
      · left; simpa using h2
      · right; exact h2)
    simp [List.takeWhile, ha, ih]
theorem runN_eq (B : Nat → Bool) (l : List Nat) (k : Nat) (h1 : 1 ≤ k) (h2 : k ≤ l.length) (ha : ∀ j, 1 ≤ j → j < k → B (l.getD j 0) = true) (he : k = l.length ∨ B (l.getD k 0) = false) : runN B l = k := by
  have hg : ∀ j, (l.drop 1).getD j 0 = l.getD (j + 1) 0 := fun j => by
    rw [List.getD_eq_getElem?_getD, List.getD_eq_getElem?_getD, List.getElem?_drop, Nat.add_comm]
  have := takeWhile_len B (l.drop 1) (k - 1) (by rw [List.length_drop]; omega) (fun j hj => by rw [hg]; exact ha (j + 1) (by omega) (by omega)) (by
    rcases he with he | he
    · left; rw [List.length_drop]; omega
    · right; rw [hg, show k - 1 + 1 = k from by omega]; exact he)
  unfold runN
  omega
theorem runN_le (B : Nat → Bool) (l : List Nat) (h : 0 < l.length) : 1 ≤ runN B l ∧ runN B l ≤ l.length := by
  unfold runN
  have : ((l.drop 1).takeWhile B).length ≤ (l.drop 1).length := (List.takeWhile_sublist B).length_le
  rw [List.length_drop] at this
  omega

set_option maxHeartbeats 400000 in
theorem lx_run_inner (A : Option Addr) (n c : Nat) (bs : List Nat) (w : World) (h : Nums .u8 w A n c bs) (hb : ∀ y ∈ bs, y < 256) (h0 : 0 < n) (hn : n ≤ 100000) :
    Calls Try.prog 48 #[.slice A n c, .func (.func 49) #[] #[]] w fun e w' => e = .returned (.int .i64 (runN innerB bs : Int)) ∧ w = w' := by
  obtain rfl := h.len
  have hcap := h.cap
  obtain ⟨b, off, rfl, hbl, hcell⟩ := h.at_ h0
  have Hc := Lib.hid hcell
  have Hlt := Lib.hid (lt256 hb)
  clear hcell
  go_enter Try.func48, Try.ntmps48
  go_wp2
  go_loop [5] (fun i => ∃ k : Nat, 1 ≤ k ∧ k ≤ bs.length ∧ i = .int .i64 (k : Int) ∧ Hid (∀ j, 1 ≤ j → j < k → innerB (bs.getD j 0) = true)) (fun i => bs.length - (intOf i).toNat)
  case atStart => exact ⟨1, Nat.le_refl _, by omega, rfl, Lib.hid fun j h1 h2 => by omega⟩
  case round =>
    obtain ⟨k, hk1, hk, rfl, Hk⟩ := hrel
    by_cases hlt : k < bs.length
    · have ck := Hc.out k hlt
      have hcall := lx_inner (bs.getD k 0) w (Hlt.out k)
      cases hB : innerB (bs.getD k 0)
      · have Hfin : Hid (runN innerB bs = k) := Lib.hid (runN_eq _ bs k hk1 hk Hk.out (.inr hB))
        rw [hB] at hcall
        generalize bs.getD k 0 = x at *
        have Hcall := Lib.hid hcall
        clear hcall hB
        go_wp2_with (go_at_call 49; (with_reducible refine Hcall.out.mono ?_); rintro e w' ⟨rfl, rfl⟩)
        go_ret
        exact ⟨by rw [Hfin.out]; rfl, rfl⟩
      · have Hk2 : Hid (∀ j, 1 ≤ j → j < k + 1 → innerB (bs.getD j 0) = true) := Lib.hid fun j h1 h2 => by
          rcases Nat.lt_or_ge j k with h | h
          · exact Hk.out j h1 h
          · obtain rfl : j = k := by omega
            exact hB
        rw [hB] at hcall
        generalize bs.getD k 0 = x at *
        have Hcall := Lib.hid hcall
        clear hcall hB
        go_wp2_with (go_at_call 49; (with_reducible refine Hcall.out.mono ?_); rintro e w' ⟨rfl, rfl⟩)
        go_round
        case rel => exact ⟨k + 1, by omega, by omega, by go_num, Hk2⟩
        case measure => simp [intOf]; omega
    · obtain rfl : k = bs.length := by omega
      have Hfin : Hid (runN innerB bs = bs.length) := Lib.hid (runN_eq _ bs _ hk1 hk Hk.out (.inl rfl))
      go_wp2
      go_ret
      exact ⟨by rw [Hfin.out]; rfl, rfl⟩

set_option maxHeartbeats 400000 in
theorem lx_run_small (A : Option Addr) (n c : Nat) (bs : List Nat) (w : World) (h : Nums .u8 w A n c bs) (hb : ∀ y ∈ bs, y < 256) (h0 : 0 < n) (hn : n ≤ 100000) :
    Calls Try.prog 48 #[.slice A n c, .func (.func 51) #[] #[]] w fun e w' => e = .returned (.int .i64 (runN smallB bs : Int)) ∧ w = w' := by
  obtain rfl := h.len
  have hcap := h.cap
  obtain ⟨b, off, rfl, hbl, hcell⟩ := h.at_ h0
  have Hc := Lib.hid hcell
  have Hlt := Lib.hid (lt256 hb)
  clear hcell
  go_enter Try.func48, Try.ntmps48
  go_wp2
  go_loop [5] (fun i => ∃ k : Nat, 1 ≤ k ∧ k ≤ bs.length ∧ i = .int .i64 (k : Int) ∧ Hid (∀ j, 1 ≤ j → j < k → smallB (bs.getD j 0) = true)) (fun i => bs.length - (intOf i).toNat)
  case atStart => exact ⟨1, Nat.le_refl _, by omega, rfl, Lib.hid fun j h1 h2 => by omega⟩
  case round =>
    obtain ⟨k, hk1, hk, rfl, Hk⟩ := hrel
    by_cases hlt : k < bs.length
    · have ck := Hc.out k hlt
      have hcall := lx_small (bs.getD k 0) w (Hlt.out k)
      cases hB : smallB (bs.getD k 0)
      · have Hfin : Hid (runN smallB bs = k) := Lib.hid (runN_eq _ bs k hk1 hk Hk.out (.inr hB))
        rw [hB] at hcall
        generalize bs.getD k 0 = x at *
        have Hcall := Lib.hid hcall
        clear hcall hB
        go_wp2_with (go_at_call 51; (with_reducible refine Hcall.out.mono ?_); rintro e w' ⟨rfl, rfl⟩)
        go_ret
        exact ⟨by rw [Hfin.out]; rfl, rfl⟩
      · have Hk2 : Hid (∀ j, 1 ≤ j → j < k + 1 → smallB (bs.getD j 0) = true) := Lib.hid fun j h1 h2 => by
          rcases Nat.lt_or_ge j k with h | h
          · exact Hk.out j h1 h
          · obtain rfl : j = k := by omega
            exact hB
        rw [hB] at hcall
        generalize bs.getD k 0 = x at *
        have Hcall := Lib.hid hcall
        clear hcall hB
        go_wp2_with (go_at_call 51; (with_reducible refine Hcall.out.mono ?_); rintro e w' ⟨rfl, rfl⟩)
        go_round
        case rel => exact ⟨k + 1, by omega, by omega, by go_num, Hk2⟩
        case measure => simp [intOf]; omega
    · obtain rfl : k = bs.length := by omega
      have Hfin : Hid (runN smallB bs = bs.length) := Lib.hid (runN_eq _ bs _ hk1 hk Hk.out (.inl rfl))
      go_wp2
      go_ret
      exact ⟨by rw [Hfin.out]; rfl, rfl⟩

end Go.Proofs.Ytdeiipbnaknedaa
