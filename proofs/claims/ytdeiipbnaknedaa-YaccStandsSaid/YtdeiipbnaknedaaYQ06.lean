/- lex: how far what is skipped goes. -/
import Derived.Test.YtdeiipbnaknedaaYQ05
import Derived.Lib.SlBytesConst
namespace Go.Proofs.Ytdeiipbnaknedaa
open Go.RowKit
set_option linter.unusedVariables false
set_option linter.unusedSimpArgs false

theorem Nums.part {k : IntKind} {w : World} {b off n c : Nat} {xs : List Nat} (h : Nums k w (some ⟨b, off, none⟩) n c xs) (i m c' : Nat) (hm : i + m ≤ n) (hc : m ≤ c') (hc' : c' ≤ 9223372036854775807) :
    Nums k w (some ⟨b, off + i, none⟩) m c' ((xs.drop i).take m) := by
  have hl := h.len
  refine ⟨by simp [nums]; omega, hc, hc', fun hn => ?_⟩
  simp [nums] at hn
  obtain ⟨b', off', e, hb, hcell⟩ := h.2.2.2 (by rw [nums_length]; omega)
  injection e with e
  injection e with e1 e2
  subst e1; subst e2
  refine ⟨b, off + i, rfl, hb, fun j hj => ?_⟩
  simp [nums] at hj
  rw [Nat.add_assoc, hcell (i + j) (by rw [nums_length]; omega)]
  simp [nums, List.getElem?_take, List.getElem?_drop]
  intro; omega

theorem drop_get {l : List Nat} {k : Nat} (h : k < l.length) : l.drop k = l.getD k 0 :: l.drop (k + 1) := by
  rw [List.drop_eq_getElem_cons h]
  congr 1
  rw [List.getD_eq_getElem?_getD, List.getElem?_eq_getElem h]
  rfl

def textGo (q : Nat) : List Nat → Nat → Nat
  | [], _ => 0
  | [c], i => if c = q then i + 1 else 0
  | c :: d :: r, i => if c = q then i + 1 else if c = 92 then textGo q r (i + 2) else textGo q (d :: r) (i + 1)
def textN (l : List Nat) : Nat := textGo (l.getD 0 0) (l.drop 1) 1
theorem textGo_step (q : Nat) (l : List Nat) (k : Nat) (h : k < l.length) : textGo q (l.drop k) k = if l.getD k 0 = q then k + 1 else if l.getD k 0 = 92 then textGo q (l.drop (k + 2)) (k + 2) else textGo q (l.drop (k + 1)) (k + 1) := by
  rw [drop_get h]
  rcases Nat.lt_or_ge (k + 1) l.length with h2 | h2
  · rw [drop_get h2]
    conv => lhs; unfold textGo
  · have e1 : l.drop (k + 1) = [] := List.drop_eq_nil_of_le h2
    have e2 : l.drop (k + 2) = [] := List.drop_eq_nil_of_le (by omega)
    rw [e1, e2]
    unfold textGo
    split
    · rfl
    · split <;> rfl
theorem textGo_end (q : Nat) (l : List Nat) (k : Nat) (h : l.length ≤ k) : textGo q (l.drop k) k = 0 := by
  rw [List.drop_eq_nil_of_le h]; rfl
theorem textGo_le (q : Nat) : ∀ (r : List Nat) (i : Nat), textGo q r i = 0 ∨ (i < textGo q r i ∧ textGo q r i ≤ i + r.length)
  | [], _ => .inl rfl
  | [c], i => by
    unfold textGo
    split
    · exact .inr ⟨by omega, by simp⟩
    · exact .inl rfl
  | c :: d :: r, i => by
    have h1 := textGo_le q r (i + 2)
    have h2 := textGo_le q (d :: r) (i + 1)
    simp only [List.length_cons] at h2 ⊢
    unfold textGo
    split
    · exact .inr ⟨by omega, by omega⟩
    · split <;> omega
theorem textN_le (l : List Nat) : textN l = 0 ∨ (1 < textN l ∧ textN l ≤ l.length) := by
  have h := textGo_le (l.getD 0 0) (l.drop 1) 1
  unfold textN
  rw [List.length_drop] at h
  cases l with
  | nil => exact .inl rfl
  | cons a l => simp only [List.length_cons] at *; omega

set_option maxHeartbeats 400000 in
theorem lx_text (A : Option Addr) (n c : Nat) (bs : List Nat) (w : World) (h : Nums .u8 w A n c bs) (h0 : 0 < n) (hn : n ≤ 100000) :
    Calls Try.prog 61 #[.slice A n c] w fun e w' => e = .returned (.int .i64 (textN bs : Int)) ∧ w = w' := by
  obtain rfl := h.len
  have hcap := h.cap
  obtain ⟨b, off, rfl, hbl, hcell⟩ := h.at_ h0
  have c0 := hcell 0 h0
  rw [Nat.add_zero] at c0
  have Hc := Lib.hid hcell
  generalize hr : textN bs = r
  have Hr : Hid (textGo (bs.getD 0 0) (bs.drop 1) 1 = r) := Lib.hid hr
  clear hr hcell
  generalize bs.getD 0 0 = q at *
  go_enter Try.func61, Try.ntmps61
  go_wp2
  go_loop [3] (fun i => ∃ k : Nat, k ≤ bs.length + 1 ∧ i = .int .i64 (k : Int) ∧ Hid (textGo q (bs.drop k) k = r)) (fun i => bs.length + 1 - (intOf i).toNat)
  case atStart => exact ⟨1, by omega, rfl, Hr⟩
  case round =>
    obtain ⟨k, hk, rfl, Hk⟩ := hrel
    by_cases hlt : k < bs.length
    · have ck := Hc.out k hlt
      have hst := textGo_step q bs k hlt
      rw [Hk.out] at hst
      generalize bs.getD k 0 = x at *
      by_cases hq : x = q
      · rw [if_pos hq] at hst
        have hqq : ((x : Int) == (q : Int)) = true := by rw [beq_iff_eq]; omega
        have Hst := Lib.hid hst
        clear hst hq Hk
        go_wp2
        go_ret
        exact ⟨by rw [Hst.out]; go_num, rfl⟩
      · rw [if_neg hq] at hst
        have hqq : ((x : Int) == (q : Int)) = false := by rw [beq_eq_false_iff_ne]; omega
        by_cases hx : x = 92
        · rw [if_pos hx] at hst
          have hxx : ((x : Int) == 92) = true := by rw [beq_iff_eq]; omega
          have Hst := Lib.hid hst
          clear hst hq hx Hk
          go_wp2
          go_round
          case rel => exact ⟨k + 2, by omega, by go_num, Lib.hid Hst.out.symm⟩
          case measure => simp [intOf]; omega
        · rw [if_neg hx] at hst
          have hxx : ((x : Int) == 92) = false := by rw [beq_eq_false_iff_ne]; omega
          have Hst := Lib.hid hst
          clear hst hq hx Hk
          go_wp2
          go_round
          case rel => exact ⟨k + 1, by omega, by go_num, Lib.hid Hst.out.symm⟩
          case measure => simp [intOf]; omega
    · have hfin : r = 0 := by rw [← Hk.out]; exact textGo_end q bs k (by omega)
      subst hfin
      clear Hk Hr
      go_wp2
      go_ret
      exact ⟨rfl, rfl⟩

/-- what an action goes on to, at depth d and place i -/
def actGo : Nat → List Nat → Int → Nat → Nat
  | 0, _, _, _ => 0
  | f + 1, l, d, i =>
    if l.length ≤ i then 0
    else if l.getD i 0 = 123 then (if 0 < d + 1 then actGo f l (d + 1) (i + 1) else i + 1)
    else if l.getD i 0 = 125 then (if 0 < d - 1 then actGo f l (d - 1) (i + 1) else i + 1)
    else if l.getD i 0 = 39 ∨ l.getD i 0 = 34 then (if textN (l.drop i) = 0 then 0 else actGo f l d (i + textN (l.drop i)))
    else if 0 < d then actGo f l d (i + 1) else i + 1
def actN (l : List Nat) : Nat := actGo (l.length + 1) l 0 0

theorem actGo_le : ∀ (f : Nat) (l : List Nat) (d : Int) (i : Nat), actGo f l d i = 0 ∨ (i < actGo f l d i ∧ actGo f l d i ≤ l.length)
  | 0, _, _, _ => .inl rfl
  | f + 1, l, d, i => by
    unfold actGo
    have ht := textN_le (l.drop i)
    rw [List.length_drop] at ht
    have i1 := actGo_le f l (d + 1) (i + 1)
    have i2 := actGo_le f l (d - 1) (i + 1)
    have i3 := actGo_le f l d (i + textN (l.drop i))
    have i4 := actGo_le f l d (i + 1)
    split
    · exact .inl rfl
    · split
      · split <;> omega
      · split
        · split <;> omega
        · split
          · split
            · exact .inl rfl
            · omega
          · split <;> omega
theorem actN_le (l : List Nat) : actN l = 0 ∨ (0 < actN l ∧ actN l ≤ l.length) := actGo_le _ l 0 0

/-- what holds at the label of 'action' -/
def ActRel (bs : List Nat) (r : Nat) (d i : Value) : Prop :=
  ∃ (k f : Nat) (dv : Int), k ≤ bs.length ∧ i = .int .i64 (k : Int) ∧ d = .int .i64 dv ∧ -(k : Int) ≤ dv ∧ dv ≤ k ∧ Hid (bs.length + 1 ≤ f + k) ∧ Hid (actGo f bs dv k = r)

set_option maxHeartbeats 1000000 in
theorem lx_action (A : Option Addr) (n c : Nat) (bs : List Nat) (w : World) (h : Nums .u8 w A n c bs) (h0 : 0 < n) (hn : n ≤ 100000) :
    Calls Try.prog 45 #[.slice A n c] w fun e w' => e = .returned (.int .i64 (actN bs : Int)) ∧ w = w' := by
  obtain rfl := h.len
  have hcap := h.cap
  obtain ⟨b, off, rfl, hbl, hcell⟩ := h.at_ h0
  have Hc := Lib.hid hcell
  clear hcell
  generalize hr : actN bs = r
  have Hr : Hid (actGo (bs.length + 1) bs 0 0 = r) := Lib.hid hr
  clear hr
  go_enter Try.func45, Try.ntmps45
  go_wp2
  refine wp_scope_loop 0 (fun a' w' => w = w' ∧ ∃ d i u5 u6 u7 u8 u9 u10 u11 u12 u13 u14 u15 u16 u17 u18 u19 u20 u21 u22 u23 u24 u25 u26 u27 u28 u29 u30 u31 u32 u33 u34 u35 u36 u37 u38, ActRel bs r d i ∧ a' = { tmps := #[.slice (some ⟨b, off, none⟩) bs.length c, undef, .int .i64 0, d, i, u5, u6, u7, u8, u9, u10, u11, u12, u13, u14, u15, u16, u17, u18, u19, u20, u21, u22, u23, u24, u25, u26, u27, u28, u29, u30, u31, u32, u33, u34, u35, u36, u37, u38], defers := [] }) (fun a' _ => bs.length + 1 - (intOf (a'.tmps.getD 4 undef)).toNat) (by rfl) ?_ ?_
  · go_wp2
    exact ⟨trivial, _, _, _, _, _, _, _, _, _, _, _, _, _, _, _, _, _, _, _, _, _, _, _, _, _, _, _, _, _, _, _, _, _, _, _, _, ⟨0, bs.length + 1, 0, Nat.zero_le _, rfl, rfl, by omega, by omega, Lib.hid (by omega), Hr⟩, rfl⟩
  · rintro a' w' ⟨rfl, d, i, u5, u6, u7, u8, u9, u10, u11, u12, u13, u14, u15, u16, u17, u18, u19, u20, u21, u22, u23, u24, u25, u26, u27, u28, u29, u30, u31, u32, u33, u34, u35, u36, u37, u38, ⟨k, f, dv, hk, rfl, rfl, hd1, hd2, Hf, Hk⟩, rfl⟩
    by_cases hlt : k < bs.length
    · have ck := Hc.out k hlt
      obtain ⟨f, rfl⟩ : ∃ f', f = f' + 1 := ⟨f - 1, by have := Hf.out; omega⟩
      have hst : r = (if bs.getD k 0 = 123 then (if 0 < dv + 1 then actGo f bs (dv + 1) (k + 1) else k + 1)
        else if bs.getD k 0 = 125 then (if 0 < dv - 1 then actGo f bs (dv - 1) (k + 1) else k + 1)
        else if bs.getD k 0 = 39 ∨ bs.getD k 0 = 34 then (if textN (bs.drop k) = 0 then 0 else actGo f bs dv (k + textN (bs.drop k)))
        else if 0 < dv then actGo f bs dv (k + 1) else k + 1) := by
        rw [← Hk.out]
        conv => lhs; unfold actGo
        rw [if_neg (by omega)]
      have Hf2 : Hid (bs.length + 1 ≤ f + (k + 1)) := Lib.hid (by have := Hf.out; omega)
      have ht := textN_le (bs.drop k)
      rw [List.length_drop] at ht
      have hpart := h.part k (bs.length - k) (c - k) (by omega) (by omega) (by omega)
      generalize bs.getD k 0 = x at *
      by_cases h1 : x = 123
      · have q1 : ((x : Int) == 123) = true := by rw [beq_iff_eq]; omega
        rw [if_pos h1] at hst
        clear h1 Hk ht hpart
        by_cases hd : 0 < dv + 1
        · rw [if_pos hd] at hst
          have Hst := Lib.hid hst
          clear hst
          go_wp2
          go_step3
          refine ⟨rfl, ⟨rfl, _, _, _, _, _, _, _, _, _, _, _, _, _, _, _, _, _, _, _, _, _, _, _, _, _, _, _, _, _, _, _, _, _, _, _, _, ⟨k + 1, f, dv + 1, by omega, by go_num, by go_num, by omega, by omega, Hf2, Lib.hid Hst.out.symm⟩, rfl⟩, ?_⟩
          simp [intOf]; omega
        · rw [if_neg hd] at hst
          have Hst := Lib.hid hst
          clear hst
          go_wp2
          rw [jumps_ret]
          go_ret
          exact ⟨by rw [Hst.out]; go_num, rfl⟩
      rw [if_neg h1] at hst
      have q1 : ((x : Int) == 123) = false := by rw [beq_eq_false_iff_ne]; omega
      clear h1
      by_cases h2 : x = 125
      · have q2 : ((x : Int) == 125) = true := by rw [beq_iff_eq]; omega
        rw [if_pos h2] at hst
        clear h2 Hk ht hpart
        by_cases hd : 0 < dv - 1
        · rw [if_pos hd] at hst
          have Hst := Lib.hid hst
          clear hst
          go_wp2
          go_step3
          refine ⟨rfl, ⟨rfl, _, _, _, _, _, _, _, _, _, _, _, _, _, _, _, _, _, _, _, _, _, _, _, _, _, _, _, _, _, _, _, _, _, _, _, _, ⟨k + 1, f, dv - 1, by omega, by go_num, by go_num, by omega, by omega, Hf2, Lib.hid Hst.out.symm⟩, rfl⟩, ?_⟩
          simp [intOf]; omega
        · rw [if_neg hd] at hst
          have Hst := Lib.hid hst
          clear hst
          go_wp2
          rw [jumps_ret]
          go_ret
          exact ⟨by rw [Hst.out]; go_num, rfl⟩
      rw [if_neg h2] at hst
      have q2 : ((x : Int) == 125) = false := by rw [beq_eq_false_iff_ne]; omega
      clear h2
      by_cases h3 : x = 39 ∨ x = 34
      · rw [if_pos h3] at hst
        have htx := lx_text (some ⟨b, off + k, none⟩) (bs.length - k) (c - k) (bs.drop k) w (by rw [List.take_of_length_le (by rw [List.length_drop]; exact Nat.le_refl _)] at hpart; exact hpart) (by omega) (by omega)
        generalize textN (bs.drop k) = t at *
        have Htx := Lib.hid htx
        have Hst := Lib.hid hst
        clear hst htx Hk hpart
        have hw : (((x : Int) == 39) = true) ∨ (((x : Int) == 39) = false ∧ ((x : Int) == 34) = true) := by
          simp only [beq_iff_eq, beq_eq_false_iff_ne, ne_eq]; omega
        clear h3
        rcases hw with q3 | ⟨q3, q4⟩
        all_goals
          by_cases hz : t = 0
          · have qz : ((t : Int) == 0) = true := by rw [beq_iff_eq]; omega
            have Hfin : Hid (r = 0) := Lib.hid (by rw [Hst.out, if_pos hz])
            clear Hst hz
            go_wp2_with (go_at_call 61; (with_reducible refine Htx.out.mono ?_); rintro e w' ⟨rfl, rfl⟩)
            rw [jumps_ret]
            go_ret
            exact ⟨by rw [Hfin.out]; rfl, rfl⟩
          · have qz : ((t : Int) == 0) = false := by rw [beq_eq_false_iff_ne]; omega
            have Hst2 : Hid (r = actGo f bs dv (k + t)) := Lib.hid (by rw [Hst.out, if_neg hz])
            have Hf3 : Hid (bs.length + 1 ≤ f + (k + t)) := Lib.hid (by have := Hf2.out; omega)
            clear Hst
            go_wp2_with (go_at_call 61; (with_reducible refine Htx.out.mono ?_); rintro e w' ⟨rfl, rfl⟩)
            go_step3
            refine ⟨rfl, ⟨rfl, _, _, _, _, _, _, _, _, _, _, _, _, _, _, _, _, _, _, _, _, _, _, _, _, _, _, _, _, _, _, _, _, _, _, _, _, ⟨k + t, f, dv, by omega, by go_num, rfl, by omega, by omega, Hf3, Lib.hid Hst2.out.symm⟩, rfl⟩, ?_⟩
            simp [intOf]; omega
      rw [if_neg h3] at hst
      have q3 : ((x : Int) == 39) = false := by rw [beq_eq_false_iff_ne]; omega
      have q4 : ((x : Int) == 34) = false := by rw [beq_eq_false_iff_ne]; omega
      clear h3 Hk ht hpart
      by_cases hd : 0 < dv
      · rw [if_pos hd] at hst
        have Hst := Lib.hid hst
        clear hst
        go_wp2
        go_step3
        refine ⟨rfl, ⟨rfl, _, _, _, _, _, _, _, _, _, _, _, _, _, _, _, _, _, _, _, _, _, _, _, _, _, _, _, _, _, _, _, _, _, _, _, _, ⟨k + 1, f, dv, by omega, by go_num, by go_num, by omega, by omega, Hf2, Lib.hid Hst.out.symm⟩, rfl⟩, ?_⟩
        simp [intOf]; omega
      · rw [if_neg hd] at hst
        have Hst := Lib.hid hst
        clear hst
        go_wp2
        rw [jumps_ret]
        go_ret
        exact ⟨by rw [Hst.out]; go_num, rfl⟩
    · have Hfin : Hid (r = 0) := Lib.hid (by
        rw [← Hk.out]
        cases f with
        | zero => rfl
        | succ f => unfold actGo; rw [if_pos (by omega)])
      clear Hk Hr
      go_wp2
      rw [jumps_ret]
      go_ret
      exact ⟨by rw [Hfin.out]; rfl, rfl⟩
end Go.Proofs.Ytdeiipbnaknedaa
/- lex: lines, and what goes through to a text. -/
namespace Go.Proofs.Ytdeiipbnaknedaa
open Go.RowKit
set_option linter.unusedVariables false
set_option linter.unusedSimpArgs false

theorem ixB_lt (x : Nat) : ∀ (l : List Nat) (i : Nat), ixB l x = some i → i < l.length
  | [], _, h => by simp [ixB] at h
  | b :: l, i, h => by
    unfold ixB at h
    split at h
    · injection h with h; subst h; simp
    · simp only [Option.map_eq_some_iff] at h
      obtain ⟨j, hj, rfl⟩ := h
      have := ixB_lt x l j hj
      simp; omega
theorem ixS_le (s : List Nat) : ∀ (l : List Nat) (i : Nat), ixS l s = some i → i + s.length ≤ l.length
  | [], i, h => by
    unfold ixS at h
    split at h
    · injection h with h; subst h
      rename_i hs
      simp at hs
      simp [hs]
    · cases h
  | b :: l, i, h => by
    unfold ixS at h
    split at h
    · injection h with h; subst h
      rename_i hp
      have := List.IsPrefix.length_le (List.isPrefixOf_iff_prefix.1 hp)
      omega
    · simp only [Option.map_eq_some_iff] at h
      obtain ⟨j, hj, rfl⟩ := h
      have := ixS_le s l j hj
      simp; omega

def lineN (l : List Nat) : Nat := (ixB l 10).getD l.length
theorem lineN_le (l : List Nat) : lineN l ≤ l.length := by
  unfold lineN
  cases h : ixB l 10 with
  | none => exact Nat.le_refl _
  | some i => exact Nat.le_of_lt (ixB_lt 10 l i h)
theorem lx_line (A : Option Addr) (n c : Nat) (bs : List Nat) (w : World) (h : Nums .u8 w A n c bs) (hb : ∀ y ∈ bs, y < 256) (h0 : 0 < n) :
    Calls Try.prog 44 #[.slice A n c] w fun e w' => e = .returned (.int .i64 (lineN bs : Int)) ∧ w = w' := by
  have hc := lx_indexByte A n c bs 10 w h hb (by decide) h0
  obtain rfl := h.len
  unfold lineN
  cases hi : ixB bs 10 with
  | none =>
    rw [hi] at hc
    have hc' : Calls Try.prog 41 #[.slice A bs.length c, .int .u8 10] w fun e w' => e = .returned (.int .i64 (-1)) ∧ w = w' := hc
    have Hc := Lib.hid hc'
    clear hc hc' hi
    go_enter Try.func44, Try.ntmps44
    go_wp2_with (go_at_call 41; (with_reducible refine Hc.out.mono ?_); rintro e w' ⟨rfl, rfl⟩)
    go_ret
    exact ⟨rfl, rfl⟩
  | some i =>
    rw [hi] at hc
    have hc' : Calls Try.prog 41 #[.slice A bs.length c, .int .u8 10] w fun e w' => e = .returned (.int .i64 (i : Int)) ∧ w = w' := hc
    have Hc := Lib.hid hc'
    clear hc hc' hi
    go_enter Try.func44, Try.ntmps44
    go_wp2_with (go_at_call 41; (with_reducible refine Hc.out.mono ?_); rintro e w' ⟨rfl, rfl⟩)
    go_ret
    exact ⟨rfl, rfl⟩

def thrN (l : List Nat) (head : Nat) (s : List Nat) : Nat := match ixS (l.drop head) s with | none => 0 | some i => head + i + s.length
theorem thrN_le (l : List Nat) (head : Nat) (s : List Nat) (hh : head ≤ l.length) (h : 0 < head) : thrN l head s = 0 ∨ (0 < thrN l head s ∧ thrN l head s ≤ l.length) := by
  unfold thrN
  cases hi : ixS (l.drop head) s with
  | none => exact .inl rfl
  | some i =>
    have := ixS_le s _ i hi
    rw [List.length_drop] at this
    simp only []
    exact .inr ⟨by omega, by omega⟩

theorem lx_through (b off n c : Nat) (bs : List Nat) (hd : Nat) (s : ByteArray) (w : World) (h : Nums .u8 w (some ⟨b, off, none⟩) n c bs) (hb : ∀ y ∈ bs, y < 256) (hh : hd ≤ n) (hh2 : hd < 100) (hn : n ≤ 100000) (hs0 : 0 < s.size) (hs : s.size ≤ 1000) (hM : MaxAt w) :
    Calls Try.prog 43 #[.slice (some ⟨b, off, none⟩) n c, .int .i64 (hd : Int), .string s] w fun e w' => e = .returned (.int .i64 (thrN bs hd (bytesOf s) : Int)) ∧ Below w.heap.size w w' := by
  obtain rfl := h.len
  have hcap := h.cap
  have kc := fun w => Lib.run_convert_string_bytes (P := Try.prog) w 9 22 5 s Try.underlying9 Try.underlying22 Try.underlying5
  have hB := bytesWorld_below w 5 s
  have hk := bytesWorld_nums w 5 s (by simp [maxLen]; omega)
  have hM2 := hM.below hB
  have g1 : (hd : Int) ≤ (bs.length : Int) := by omega
  have g2 : (hd : Int) ≤ (c : Int) := by omega
  have g3 : (bs.length : Int) ≤ (c : Int) := by omega
  have hdr : (bs.drop hd).length = bs.length - hd := List.length_drop
  have hb2 : ∀ y ∈ bs.drop hd, y < 256 := fun y hy => hb y (List.mem_of_mem_drop hy)
  by_cases hc0 : c = hd
  · have hN : Nums .u8 (Lib.bytesWorld w 5 s) (some ⟨b, off, none⟩) (bs.length - hd) 0 (bs.drop hd) := by
      have e0 : bs.drop hd = [] := List.drop_eq_nil_of_le (by omega)
      rw [e0, show bs.length - hd = 0 from by omega]
      exact Nums.nil _ _ _ _ (by decide)
    have hc := lx_index (some ⟨b, off, none⟩) (bs.length - hd) 0 (bs.drop hd) _ s.size _ (bytesOf s) _ hN hk hb2 (bytesOf_lt s) hs0 (by omega) (fun h => by cases h) hM2
    clear hN hdr
    cases hi : ixS (bs.drop hd) (bytesOf s) with
    | none =>
      rw [hi] at hc
      have hc' : Calls Try.prog 60 #[.slice (some ⟨b, off, none⟩) (bs.length - hd) 0, .slice (some ⟨w.heap.size, 0, none⟩) s.size (grownCap w s.size 0 5)] (Lib.bytesWorld w 5 s) fun e w' => e = .returned (.int .i64 (-1)) ∧ Same (Lib.bytesWorld w 5 s) w' := hc
      have Hc := Lib.hid hc'
      have Hf : Hid (thrN bs hd (bytesOf s) = 0) := Lib.hid (by unfold thrN; rw [hi])
      clear hc hc' hi hk
      go_enter Try.func43, Try.ntmps43
      go_wp2_with (go_at_call 60; (with_reducible refine Hc.out.mono ?_); rintro e w' ⟨rfl, hS⟩)
      go_ret
      exact ⟨by rw [Hf.out]; rfl, hB.trans (hS.below _)⟩
    | some i =>
      have hle := ixS_le _ _ i hi
      rw [List.length_drop, bytesOf_len] at hle
      omega
  · have hN : Nums .u8 (Lib.bytesWorld w 5 s) (some ⟨b, off + hd, none⟩) (bs.length - hd) (c - hd) (bs.drop hd) := by
      have := (h.below hB).part hd (bs.length - hd) (c - hd) (by omega) (by omega) (by omega)
      rwa [List.take_of_length_le (by omega)] at this
    have hc := lx_index (some ⟨b, off + hd, none⟩) (bs.length - hd) (c - hd) (bs.drop hd) _ s.size _ (bytesOf s) _ hN hk hb2 (bytesOf_lt s) hs0 (by omega) (fun h => by cases h) hM2
    clear hN hdr
    cases hi : ixS (bs.drop hd) (bytesOf s) with
    | none =>
      rw [hi] at hc
      have hc' : Calls Try.prog 60 #[.slice (some ⟨b, off + hd, none⟩) (bs.length - hd) (c - hd), .slice (some ⟨w.heap.size, 0, none⟩) s.size (grownCap w s.size 0 5)] (Lib.bytesWorld w 5 s) fun e w' => e = .returned (.int .i64 (-1)) ∧ Same (Lib.bytesWorld w 5 s) w' := hc
      have Hc := Lib.hid hc'
      have Hf : Hid (thrN bs hd (bytesOf s) = 0) := Lib.hid (by unfold thrN; rw [hi])
      clear hc hc' hi hk
      go_enter Try.func43, Try.ntmps43
      go_wp2_with (go_at_call 60; (with_reducible refine Hc.out.mono ?_); rintro e w' ⟨rfl, hS⟩)
      go_ret
      exact ⟨by rw [Hf.out]; rfl, hB.trans (hS.below _)⟩
    | some i =>
      rw [hi] at hc
      have hc' : Calls Try.prog 60 #[.slice (some ⟨b, off + hd, none⟩) (bs.length - hd) (c - hd), .slice (some ⟨w.heap.size, 0, none⟩) s.size (grownCap w s.size 0 5)] (Lib.bytesWorld w 5 s) fun e w' => e = .returned (.int .i64 (i : Int)) ∧ Same (Lib.bytesWorld w 5 s) w' := hc
      have hle := ixS_le _ _ i hi
      rw [List.length_drop, bytesOf_len] at hle
      have Hc := Lib.hid hc'
      have Hf : Hid (thrN bs hd (bytesOf s) = hd + i + s.size) := Lib.hid (by unfold thrN; rw [hi, bytesOf_len])
      clear hc hc' hi hk
      go_enter Try.func43, Try.ntmps43
      go_wp2_with (go_at_call 60; (with_reducible refine Hc.out.mono ?_); rintro e w' ⟨rfl, hS⟩)
      go_ret
      exact ⟨by rw [Hf.out]; go_num, hB.trans (hS.below _)⟩
end Go.Proofs.Ytdeiipbnaknedaa
