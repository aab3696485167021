/- places, as lex and yacc use them. -/
import Derived.Test.YtfdbpafenhdkbaaGreatDoorQFloat
import Derived.Test.YtfdbpafenhdkbaaGreatDoorProg
import Derived.Laws.Cover3
import Derived.Laws.ComplexArith
import Derived.Deep.QuietTactic
import Derived.BigQuiet
import Derived.ChangeAlike
import Derived.Laws.BytesArg
import Derived.Lib.ConvBytes
import Derived.Laws.AppendOwn
import Derived.Lib.AppendStr
namespace Go.Proofs.YtfdbpafenhdkbaaGreatDoor
open Go.RowKit
set_option linter.unusedVariables false
set_option linter.unusedSimpArgs false

theorem fN_1 : fN 1 = 4607182418800017408 := by decide

def okN (n : Nat) : Bool := decide (1 ≤ n ∧ n ≤ 1073741824)
def okP (l c : Nat) : Bool := okN l && okN c
/-- a place -/
def PV (l c : Nat) : Value := .complex .f64 (fN l) (fN c)
theorem PV_zero : PV 0 0 = .complex .f64 0 0 := by unfold PV; rw [fN_zero]

theorem floatOfInt_nat (n : Nat) : floatOfInt .f64 (n : Int) = fN n := by
  unfold floatOfInt FloatKind.nearest
  have e1 : decide ((n : Int) < 0) = false := by simp
  rw [e1, Int.natAbs_natCast]
  rfl
theorem add_bits (n m : Nat) (h : n + m < 9007199254740992) : floatBits .add .f64 (fN n) (fN m) = some (fN (n + m)) := by
  obtain ⟨f, hf, k, hk⟩ := (read_fN n (by omega)).sum (read_fN m (by omega))
  show ((FloatKind.f64.format.read (fN n)).sum (FloatKind.f64.format.read (fN m))).map FloatKind.f64.format.write = _
  have hf' : (FloatKind.f64.format.read (fN n)).sum (FloatKind.f64.format.read (fN m)) = some f := hf
  rw [hf']
  exact congrArg some (write_isN hk h)
theorem toInt_fN (n : Nat) (h : n ≤ 1073741824) : floatToIntVal .f64 (fN n) .i64 = some (n : Int) := by
  unfold floatToIntVal
  have := (read_fN n (by omega)).toInt
  have h' : (FloatKind.f64.decode (fN n)).toInt .zero = some (n : Int) := this
  rw [h']
  simp only []
  rw [if_pos]
  have e1 : IntKind.i64.min = -9223372036854775808 := by decide
  have e2 : IntKind.i64.max = 9223372036854775807 := by decide
  rw [e1, e2]
  omega

/-- a place that may be; none of others -/
def keptP (l c : Nat) : Value := if okP l c then PV l c else PV 0 0

/-- the place of a line and a column -/
def ofP (a b : Int) : Value := if 1 ≤ a ∧ a ≤ 1073741824 ∧ 1 ≤ b ∧ b ≤ 1073741824 then PV a.toNat b.toNat else PV 0 0

theorem ref_of (a b : Int) (w : World) : Calls Tryz.prog 114 #[.int .i64 a, .int .i64 b] w fun e w' => e = .returned (ofP a b) ∧ w = w' := by
  by_cases h : 1 ≤ a ∧ a ≤ 1073741824 ∧ 1 ≤ b ∧ b ≤ 1073741824
  · unfold ofP
    rw [if_pos h]
    obtain ⟨n, rfl⟩ : ∃ n : Nat, a = (n : Int) := ⟨a.toNat, by omega⟩
    obtain ⟨m, rfl⟩ : ∃ m : Nat, b = (m : Int) := ⟨b.toNat, by omega⟩
    have e1 := floatOfInt_nat n
    have e2 := floatOfInt_nat m
    obtain ⟨g1, g2, g3, g4⟩ := h
    unfold PV
    rw [Int.toNat_natCast, Int.toNat_natCast]
    generalize fN n = x at *
    generalize fN m = y at *
    go_enter Tryz.func114, Tryz.ntmps114
    go_wp2
    go_ret
    exact ⟨by simp [e1, e2], rfl⟩
  · unfold ofP
    rw [if_neg h, PV_zero]
    have hways : a < 1 ∨ (1 ≤ a ∧ 1073741824 < a) ∨ (1 ≤ a ∧ a ≤ 1073741824 ∧ b < 1) ∨ (1 ≤ a ∧ a ≤ 1073741824 ∧ 1 ≤ b ∧ 1073741824 < b) := by omega
    clear h
    rcases hways with g1 | ⟨g1, g2⟩ | ⟨g1, g2, g3⟩ | ⟨g1, g2, g3, g4⟩
    all_goals
      go_enter Tryz.func114, Tryz.ntmps114
      go_wp2
      go_ret
      exact ⟨rfl, rfl⟩

/-- behind a byte -/
def stepP (p : Nat × Nat) (b : Nat) : Nat × Nat := if b = 10 then (p.1 + 1, 1) else (p.1, p.2 + 1)

/-- is a place ahead of another one? -/
def beforeP (l c l2 c2 : Nat) : Bool := okP l c && okP l2 c2 && (decide (l < l2) || (decide (l = l2) && decide (c < c2)))

theorem cmp_lt (a b : Nat) : (some (compare a b) == some Ordering.lt) = decide (a < b) := by
  rcases Nat.lt_trichotomy a b with h | h | h
  · rw [Nat.compare_eq_lt.2 h]; simp [h]
  · rw [Nat.compare_eq_eq.2 h]; simp [h]
  · rw [Nat.compare_eq_gt.2 h]; simp; omega
theorem cmp_eq (a b : Nat) : (some (compare a b) == some Ordering.eq) = decide (a = b) := by
  rcases Nat.lt_trichotomy a b with h | h | h
  · rw [Nat.compare_eq_lt.2 h]; simp; omega
  · rw [Nat.compare_eq_eq.2 h]; simp [h]
  · rw [Nat.compare_eq_gt.2 h]; simp; omega

/-- line and column behind some bytes -/
def atN (bs : List Nat) : Nat × Nat := bs.foldl stepP (1, 1)
theorem atN_snoc (bs : List Nat) (b : Nat) : atN (bs ++ [b]) = stepP (atN bs) b := by simp [atN]
theorem atN_go (bs : List Nat) : ∀ p : Nat × Nat, 1 ≤ p.1 → 1 ≤ p.2 → 1 ≤ (bs.foldl stepP p).1 ∧ (bs.foldl stepP p).1 ≤ p.1 + bs.length ∧ 1 ≤ (bs.foldl stepP p).2 ∧ (bs.foldl stepP p).2 ≤ p.2 + bs.length := by
  induction bs with
  | nil => intro p h1 h2; simp; omega
  | cons b bs ih =>
    intro p h1 h2
    have hb : 1 ≤ (stepP p b).1 ∧ (stepP p b).1 ≤ p.1 + 1 ∧ 1 ≤ (stepP p b).2 ∧ (stepP p b).2 ≤ p.2 + 1 := by
      unfold stepP
      split <;> simp <;> omega
    have := ih (stepP p b) hb.1 hb.2.2.1
    rw [List.foldl_cons, List.length_cons]
    omega
theorem atN_bd (bs : List Nat) : 1 ≤ (atN bs).1 ∧ (atN bs).1 ≤ bs.length + 1 ∧ 1 ≤ (atN bs).2 ∧ (atN bs).2 ≤ bs.length + 1 := by
  have := atN_go bs (1, 1) (by decide) (by decide)
  unfold atN
  omega
theorem okP_of {l c : Nat} (h1 : 1 ≤ l) (h2 : l ≤ 1073741824) (h3 : 1 ≤ c) (h4 : c ≤ 1073741824) : okP l c = true := by simp [okP, okN, h1, h2, h3, h4]
theorem keptP_of {l c : Nat} (h : okP l c = true) : keptP l c = PV l c := by unfold keptP; rw [if_pos h]
theorem ofP_of (l c : Nat) (h : okP l c = true) : ofP (l : Int) (c : Int) = PV l c := by
  simp [okP, okN] at h
  unfold ofP
  rw [if_pos (by omega)]
  simp
theorem ofP_bad (a b : Int) (h : a < 1 ∨ 1073741824 < a ∨ b < 1 ∨ 1073741824 < b) : ofP a b = PV 0 0 := by
  unfold ofP
  rw [if_neg (by omega)]

/-- the place of a byte -/
def atP (bs : List Nat) (i : Int) : Value := if 0 ≤ i ∧ i ≤ bs.length then PV (atN (bs.take i.toNat)).1 (atN (bs.take i.toNat)).2 else PV 0 0

set_option maxHeartbeats 400000 in
theorem ref_at (A : Option Addr) (n c : Nat) (bs : List Nat) (i : Int) (w : World) (h : Nums .u8 w A n c bs) (hn : n ≤ 100000) :
    Calls Tryz.prog 96 #[.slice A n c, .int .i64 i] w fun e w' => e = .returned (atP bs i) ∧ w = w' := by
  obtain rfl := h.len
  have hcap := h.cap
  by_cases hi : 0 ≤ i ∧ i ≤ bs.length
  case neg =>
    have hf : atP bs i = .complex .f64 0 0 := by unfold atP; rw [if_neg hi, PV_zero]
    rw [hf]
    have hways : i < 0 ∨ (0 ≤ i ∧ (bs.length : Int) < i) := by omega
    clear hi hf
    rcases hways with g | ⟨g, g2⟩
    all_goals
      go_enter Tryz.func96, Tryz.ntmps96
      go_wp2
      go_ret
      exact ⟨rfl, rfl⟩
  have Hf : Hid (atP bs i = PV (atN (bs.take i.toNat)).1 (atN (bs.take i.toNat)).2) := Lib.hid (by unfold atP; rw [if_pos hi])
  obtain ⟨m, rfl⟩ : ∃ m : Nat, i = (m : Int) := ⟨i.toNat, by omega⟩
  obtain ⟨hi1, hi2⟩ := hi
  rw [Int.toNat_natCast] at Hf
  go_enter Tryz.func96, Tryz.ntmps96
  go_wp2
  go_loop [5, 6, 7] (fun l cc i => ∃ k lv cv : Nat, k ≤ m ∧ i = .int .i64 (k : Int) ∧ l = .int .i64 (lv : Int) ∧ cc = .int .i64 (cv : Int) ∧ Hid (atN (bs.take k) = (lv, cv))) (fun _ _ i => m - (intOf i).toNat)
  case atStart => exact ⟨0, 1, 1, Nat.zero_le _, rfl, rfl, rfl, Lib.hid rfl⟩
  case round =>
    obtain ⟨k, lv, cv, hk, rfl, rfl, rfl, Hat⟩ := hrel
    have hbd := atN_bd (bs.take k)
    have htl : (bs.take k).length ≤ 100000 := by rw [List.length_take]; omega
    rw [Hat.out] at hbd
    simp only [] at hbd
    by_cases hlt : k < m
    · obtain ⟨b, off, x, rfl, hb, Hx, hc⟩ := h.get (j := k) (by omega)
      have hnx : atN (bs.take (k + 1)) = stepP (lv, cv) x := by
        rw [List.take_add_one, Hx.out, ← Hat.out]
        exact atN_snoc _ _
      by_cases hx : x = 10
      · subst hx
        have Hnx := Lib.hid hnx
        clear hnx
        go_wp2
        go_round
        case rel => exact ⟨k + 1, lv + 1, 1, by omega, by go_num, by go_num, rfl, Lib.hid (by rw [Hnx.out]; simp [stepP])⟩
        case measure => simp [intOf]; omega
      · have Hnx := Lib.hid hnx
        have hxx : ((x : Int) == 10) = false := by rw [beq_eq_false_iff_ne]; omega
        have Hxne := Lib.hid hx
        clear hnx hx
        go_wp2
        go_round
        case rel => exact ⟨k + 1, lv, cv + 1, by omega, by go_num, rfl, by go_num, Lib.hid (by rw [Hnx.out]; simp [stepP, Hxne.out])⟩
        case measure => simp [intOf]; omega
    · obtain rfl : k = m := by omega
      have hc := ref_of (lv : Int) (cv : Int) w
      rw [ofP_of lv cv (okP_of hbd.1 (by omega) hbd.2.2.1 (by omega))] at hc
      have hff : atP bs (k : Int) = PV lv cv := by rw [Hf.out, Hat.out]
      generalize PV lv cv = q at *
      have Hff := Lib.hid hff
      have Hc := Lib.hid hc
      clear hc Hf hff
      go_wp2_with (go_at_call 114; (with_reducible refine Hc.out.mono ?_); rintro e w' ⟨rfl, rfl⟩)
      go_ret
      exact ⟨by rw [Hff.out]; rfl, rfl⟩

/-- bytes as a string -/
def str (l : List Nat) : ByteArray := ⟨(l.map UInt8.ofNat).toArray⟩

theorem run_bytes_str {P : Program} (w : World) (src e dst : TypeId) (hs : P.underlying src = some (.slice e)) (he : P.underlying e = some (.int .u8)) (hd : P.underlying dst = some .string)
    (A : Option Addr) (c : Nat) (zs : List Nat) (h : Nums .u8 w A zs.length c zs) : (convert src dst (.slice A zs.length c)).run P w = .ok (.string (str zs)) w := by
  have e1 : strOfNums (zs.map fun (x : Nat) => (x : Int)) = str zs := by simp [strOfNums, str, Function.comp_def]
  rcases A with _ | ad
  · have h0 : zs.length = 0 := by
      rcases Nat.eq_zero_or_pos zs.length with h0 | h0
      · exact h0
      · obtain ⟨b, off, he, _⟩ := h.at_ h0
        cases he
    obtain rfl := List.eq_nil_of_length_eq_zero h0
    exact run_convert_bytes_nil w src e hs he _ _ dst hd
  · by_cases h0 : 0 < zs.length
    · obtain ⟨b, off, he', _, hc⟩ := h.at_ h0
      injection he' with he'
      subst he'
      rw [run_convert_bytes_arg w src e hs he b off zs.length c (zs.map fun (x : Nat) => (x : Int)) (by simp) (fun i hi => by
        rw [hc i hi]
        simp [List.getElem?_eq_getElem hi]) dst hd, e1]
    · obtain rfl := List.eq_nil_of_length_eq_zero (show zs.length = 0 by omega)
      obtain ⟨b, off, spot⟩ := ad
      simp only [List.length_nil]
      rw [run_convert_bytes_string w src dst e _ _ _ hs he hd, run_bytesToString w ⟨b, off, spot⟩ 0 c [] (by simp [loadCells, loadCellsFrom])]
      rfl

/-- a string's bytes -/
def bytesOf (s : ByteArray) : List Nat := s.data.toList.map UInt8.toNat
theorem bytesOf_len (s : ByteArray) : (bytesOf s).length = s.size := by simp [bytesOf]
theorem bytesOf_get (s : ByteArray) (k : Nat) (h : k < s.size) : (bytesOf s)[k]? = some s[k].toNat := by
  simp only [bytesOf, List.getElem?_map]
  rw [List.getElem?_eq_getElem (by simpa using h)]
  rfl
theorem bytesOf_str (l : List Nat) (h : ∀ c ∈ l, c < 256) : bytesOf (str l) = l := by
  simp only [bytesOf, str, List.map_map]
  conv => rhs; rw [← List.map_id l]
  apply List.map_congr_left
  intro c hc
  have := h c hc
  simp only [Function.comp, id, UInt8.toNat_ofNat']
  omega
theorem bytesOf_lt (s : ByteArray) : ∀ c ∈ bytesOf s, c < 256 := by
  intro c hc
  simp only [bytesOf, List.mem_map] at hc
  obtain ⟨b, _, rfl⟩ := hc
  exact b.toNat_lt
theorem str_bytesOf (s : ByteArray) : str (bytesOf s) = s := by
  cases s with | mk d =>
  simp [str, bytesOf, Function.comp_def]

theorem str_size (l : List Nat) : (str l).size = l.length := by
  show (str l).data.size = _
  simp [str]
theorem isEmpty_str (s : ByteArray) (h : 0 < s.size) : s.toList.isEmpty = false ∧ ¬ s.toList = [] := by
  have e : s.toList = s.data.toList := ByteArray.toList_eq s
  have hl : s.data.toList.length = s.size := by simp
  constructor
  · rw [e, List.isEmpty_eq_false_iff]
    intro h0; rw [h0] at hl; simp at hl; omega
  · rw [e]; intro h0; rw [h0] at hl; simp at hl; omega
theorem isEmpty_str0 (s : ByteArray) (h : s.size = 0) : s.toList = [] := by
  have e : s.toList = s.data.toList := ByteArray.toList_eq s
  have hl : s.data.toList.length = s.size := by simp
  rw [e]
  exact List.eq_nil_of_length_eq_zero (by omega)

end Go.Proofs.YtfdbpafenhdkbaaGreatDoor

namespace Go.Proofs.YtfdbpafenhdkbaaGreatDoor
open Go.RowKit
set_option linter.unusedVariables false
set_option linter.unusedSimpArgs false

def letterB (c : Nat) : Bool := decide (97 ≤ c ∧ c ≤ 122) || decide (65 ≤ c ∧ c ≤ 90) || decide (c = 95)
def innerB (c : Nat) : Bool := letterB c || decide (48 ≤ c ∧ c ≤ 57) || decide (c = 46)

theorem letter_fact : ∀ c : Nat, c < 256 → letterB c = (decide (c = 95) || (decide (97 ≤ c ||| 32) && decide (c ||| 32 ≤ 122))) := by decide +kernel
theorem bits_or (c : Nat) : bits BinOp.or .u8 (c : Int) 32 = ((c ||| 32 : Nat) : Int) ∨ 256 ≤ c := by
  rcases Nat.lt_or_ge c 256 with h | h
  · left
    have : ∀ c : Nat, c < 256 → bits BinOp.or .u8 (c : Int) 32 = ((c ||| 32 : Nat) : Int) := by decide +kernel
    exact this c h
  · exact .inr h
theorem ret_bool {a b : Bool} (h : a = b) : Ending.returned (.bool a) = Ending.returned (.bool b) := by rw [h]

theorem lx_letter (c : Nat) (w : World) (hc : c < 256) :
    Calls Tryz.prog 83 #[.int .u8 (c : Int)] w fun e w' => e = .returned (.bool (letterB c)) ∧ w = w' := by
  have hf := letter_fact c hc
  have hb := (bits_or c).resolve_right (by omega)
  have hp : ∃ v : Nat, bits BinOp.or .u8 (c : Int) 32 = (v : Int) ∧ letterB c = (decide (c = 95) || (decide (97 ≤ v) && decide (v ≤ 122))) := ⟨_, hb, hf⟩
  clear hf hb
  obtain ⟨v, hv, hf⟩ := hp
  have Hf := Lib.hid hf
  clear hf
  have hways : c = 95 ∨ (c ≠ 95 ∧ v < 97) ∨ (c ≠ 95 ∧ 97 ≤ v ∧ v ≤ 122) ∨ (c ≠ 95 ∧ 97 ≤ v ∧ 122 < v) := by omega
  rcases hways with h | ⟨h, g⟩ | ⟨h, g, g2⟩ | ⟨h, g, g2⟩
  all_goals
    go_enter Tryz.func83, Tryz.ntmps83
    go_wp2
    go_ret
    refine ⟨ret_bool ?_, rfl⟩
    rw [Hf.out]
    rw [Bool.eq_iff_iff]; simp only [Bool.or_eq_true, Bool.and_eq_true, beq_iff_eq, bne_iff_ne, ne_eq, Bool.not_eq_true', decide_eq_true_eq, decide_eq_false_iff_not, Bool.false_eq_true, true_iff, false_iff, iff_true, iff_false]; omega
def plainB (c : Nat) : Bool := decide (32 ≤ c ∧ c ≤ 126 ∧ c ≠ 39 ∧ c ≠ 92)
def escapedB (c : Nat) : Bool := decide (c = 110 ∨ c = 116 ∨ c = 92 ∨ c = 39)
def smallB (c : Nat) : Bool := decide (97 ≤ c ∧ c ≤ 122)

theorem lx_first (c : Nat) (w : World) (hc : c < 256) :
    Calls Tryz.prog 93 #[.int .u8 (c : Int)] w fun e w' => e = .returned (.bool (letterB c)) ∧ w = w' := by
  have hways : c < 65 ∨ (65 ≤ c ∧ c ≤ 90) ∨ (90 < c ∧ c < 95) ∨ c = 95 ∨ (95 < c ∧ c < 97) ∨ (97 ≤ c ∧ c ≤ 122) ∨ 122 < c := by omega
  rcases hways with g0 | ⟨g0, g1⟩ | ⟨g0, g1⟩ | g0 | ⟨g0, g1⟩ | ⟨g0, g1⟩ | g0
  all_goals
    go_enter Tryz.func93, Tryz.ntmps93
    go_wp2
    all_goals
      go_ret
      refine ⟨ret_bool ?_, rfl⟩
      unfold letterB
      rw [Bool.eq_iff_iff]; simp only [Bool.or_eq_true, Bool.and_eq_true, beq_iff_eq, bne_iff_ne, ne_eq, Bool.not_eq_true', decide_eq_true_eq, decide_eq_false_iff_not, Bool.false_eq_true, true_iff, false_iff, iff_true, iff_false]; omega

theorem lx_plain (c : Nat) (w : World) (hc : c < 256) :
    Calls Tryz.prog 127 #[.int .u8 (c : Int)] w fun e w' => e = .returned (.bool (plainB c)) ∧ w = w' := by
  have hways : c < 32 ∨ (32 ≤ c ∧ c ≤ 126 ∧ c = 39) ∨ (32 ≤ c ∧ c ≤ 126 ∧ c = 92) ∨ (32 ≤ c ∧ c ≤ 126 ∧ c ≠ 39 ∧ c ≠ 92) ∨ 126 < c := by omega
  rcases hways with g0 | ⟨g0, g1, g2⟩ | ⟨g0, g1, g2⟩ | ⟨g0, g1, g2, g3⟩ | g0
  all_goals
    go_enter Tryz.func127, Tryz.ntmps127
    go_wp2
    all_goals
      go_ret
      refine ⟨ret_bool ?_, rfl⟩
      unfold plainB
      rw [Bool.eq_iff_iff]; simp only [Bool.or_eq_true, Bool.and_eq_true, beq_iff_eq, bne_iff_ne, ne_eq, Bool.not_eq_true', decide_eq_true_eq, decide_eq_false_iff_not, Bool.false_eq_true, true_iff, false_iff, iff_true, iff_false]; omega

theorem lx_escaped (c : Nat) (w : World) (hc : c < 256) :
    Calls Tryz.prog 128 #[.int .u8 (c : Int)] w fun e w' => e = .returned (.bool (escapedB c)) ∧ w = w' := by
  have hways : c = 110 ∨ c = 116 ∨ c = 92 ∨ c = 39 ∨ (c ≠ 110 ∧ c ≠ 116 ∧ c ≠ 92 ∧ c ≠ 39) := by omega
  rcases hways with g0 | g0 | g0 | g0 | ⟨g0, g1, g2, g3⟩
  all_goals
    go_enter Tryz.func128, Tryz.ntmps128
    go_wp2
    all_goals
      go_ret
      refine ⟨ret_bool ?_, rfl⟩
      unfold escapedB
      rw [Bool.eq_iff_iff]; simp only [Bool.or_eq_true, Bool.and_eq_true, beq_iff_eq, bne_iff_ne, ne_eq, Bool.not_eq_true', decide_eq_true_eq, decide_eq_false_iff_not, Bool.false_eq_true, true_iff, false_iff, iff_true, iff_false]; omega


theorem lx_inner (c : Nat) (w : World) (hc : c < 256) :
    Calls Tryz.prog 84 #[.int .u8 (c : Int)] w fun e w' => e = .returned (.bool (innerB c)) ∧ w = w' := by
  have h1 := lx_letter c w hc
  cases hl : letterB c
  all_goals
    rw [hl] at h1
    have H1 := Lib.hid h1
    have Hl := Lib.hid hl
    clear h1 hl
    have hways : (c < 46 ∧ ((c : Int) == 46) = false) ∨ ((c : Int) == 46) = true ∨ (46 < c ∧ c < 48 ∧ ((c : Int) == 46) = false) ∨ (48 ≤ c ∧ c ≤ 57 ∧ ((c : Int) == 46) = false) ∨ (57 < c ∧ ((c : Int) == 46) = false) := by
      simp only [beq_iff_eq, beq_eq_false_iff_ne, ne_eq]
      omega
    rcases hways with ⟨g, g0⟩ | g0 | ⟨g, g1, g0⟩ | ⟨g, g1, g0⟩ | ⟨g, g0⟩
    all_goals
      go_enter Tryz.func84, Tryz.ntmps84
      go_wp2_with (go_at_call 83; (with_reducible refine H1.out.mono ?_); rintro e w' ⟨rfl, rfl⟩)
      all_goals
        go_ret
        refine ⟨ret_bool ?_, rfl⟩
        unfold innerB
        rw [Hl.out]
        try simp only [beq_iff_eq, beq_eq_false_iff_ne, ne_eq] at g0
        try simp only [Bool.true_or, Bool.false_or]
        all_goals first
        | rfl
        | (rw [Bool.eq_iff_iff]; simp only [Bool.or_eq_true, Bool.and_eq_true, beq_iff_eq, bne_iff_ne, ne_eq, Bool.not_eq_true', decide_eq_true_eq, decide_eq_false_iff_not, Bool.false_eq_true, true_iff, false_iff, iff_true, iff_false]; omega)

theorem lx_later (c : Nat) (w : World) (hc : c < 256) :
    Calls Tryz.prog 94 #[.int .u8 (c : Int)] w fun e w' => e = .returned (.bool (innerB c)) ∧ w = w' := by
  have h1 := lx_first c w hc
  cases hl : letterB c
  all_goals
    rw [hl] at h1
    have H1 := Lib.hid h1
    have Hl := Lib.hid hl
    clear h1 hl
    have hways : (c < 46 ∧ ((c : Int) == 46) = false) ∨ ((c : Int) == 46) = true ∨ (46 < c ∧ c < 48 ∧ ((c : Int) == 46) = false) ∨ (48 ≤ c ∧ c ≤ 57 ∧ ((c : Int) == 46) = false) ∨ (57 < c ∧ ((c : Int) == 46) = false) := by
      simp only [beq_iff_eq, beq_eq_false_iff_ne, ne_eq]
      omega
    rcases hways with ⟨g, g0⟩ | g0 | ⟨g, g1, g0⟩ | ⟨g, g1, g0⟩ | ⟨g, g0⟩
    all_goals
      go_enter Tryz.func94, Tryz.ntmps94
      go_wp2_with (go_at_call 93; (with_reducible refine H1.out.mono ?_); rintro e w' ⟨rfl, rfl⟩)
      all_goals
        go_ret
        refine ⟨ret_bool ?_, rfl⟩
        unfold innerB
        rw [Hl.out]
        try simp only [beq_iff_eq, beq_eq_false_iff_ne, ne_eq] at g0
        try simp only [Bool.true_or, Bool.false_or]
        all_goals first
        | rfl
        | (rw [Bool.eq_iff_iff]; simp only [Bool.or_eq_true, Bool.and_eq_true, beq_iff_eq, bne_iff_ne, ne_eq, Bool.not_eq_true', decide_eq_true_eq, decide_eq_false_iff_not, Bool.false_eq_true, true_iff, false_iff, iff_true, iff_false]; omega)

end Go.Proofs.YtfdbpafenhdkbaaGreatDoor

namespace Go.Proofs.YtfdbpafenhdkbaaGreatDoor
open Go.RowKit
set_option linter.unusedVariables false
set_option linter.unusedSimpArgs false

theorem bytesWorld_below (w : World) (e : TypeId) (s : ByteArray) : Below w.heap.size w (Lib.bytesWorld w e s) := by
  refine ⟨rfl, rfl, rfl, ?_, fun k hk => Lib.bytesWorld_at_old w e s k hk⟩
  rw [Lib.bytesWorld_size]; omega
theorem bytesWorld_nums (w : World) (e : TypeId) (s : ByteArray) (hs : s.size ≤ maxLen) :
    Nums .u8 (Lib.bytesWorld w e s) (some ⟨w.heap.size, 0, none⟩) s.size (grownCap w s.size 0 e) (bytesOf s) := by
  refine ⟨by simp [nums, bytesOf_len], grownCap_ge w _ _ _, by simpa [maxLen] using grownCap_le_maxLen w s.size 0 e hs, fun _ => ⟨_, _, rfl, by rw [Lib.bytesWorld_size]; omega, fun j hj => ?_⟩⟩
  have hj' : j < s.size := by simpa [nums, bytesOf_len] using hj
  rw [Nat.zero_add, Lib.bytesWorld_cell w e s j hj']
  have hg := bytesOf_get s j hj'
  simp only [nums, List.getElem?_map, hg, Option.map_some]
  congr 2
  rw [List.getD_eq_getElem?_getD, List.getElem?_eq_getElem (by simpa using hj')]
  rfl

theorem getD_of_get {l : List Nat} {k x d : Nat} (h : l[k]? = some x) : l.getD k d = x := by rw [List.getD_eq_getElem?_getD, h]; rfl

def nameB (l : List Nat) : Bool := !(l.length == 0) && decide (l.length ≤ 20) && letterB (l.getD 0 0) && l.all innerB
theorem nameB_no {l : List Nat} (k : Nat) (h : k < l.length) (hd : innerB (l.getD k 0) = false) : nameB l = false := by
  have : l.all innerB = false := by
    rw [List.all_eq_false]
    refine ⟨l[k], List.getElem_mem h, ?_⟩
    simpa [List.getElem?_eq_getElem h] using hd
  simp [nameB, this]
theorem nameB_yes {l : List Nat} (h0 : l.length ≠ 0) (h1 : l.length ≤ 20) (h2 : letterB (l.getD 0 0) = true) (hd : ∀ j, j < l.length → innerB (l.getD j 0) = true) : nameB l = true := by
  have : l.all innerB = true := by
    rw [List.all_eq_true]
    intro c hc
    obtain ⟨j, hj, rfl⟩ := List.getElem_of_mem hc
    simpa [List.getElem?_eq_getElem hj] using hd j hj
  unfold nameB
  rw [this, h2]
  simp [h0, h1]

set_option maxHeartbeats 1000000 in
theorem lx_name (s : ByteArray) (w : World) : Calls Tryz.prog 53 #[.string s] w fun e w' => e = .returned (.bool (nameB (bytesOf s))) ∧ w = w' := by
  have hl := bytesOf_len s
  by_cases h0 : s.size = 0
  · have hfin : nameB (bytesOf s) = false := by simp [nameB, hl, h0]
    rw [hfin]
    have he := isEmpty_str0 s h0
    clear hfin hl
    go_enter Tryz.func53, Tryz.ntmps53
    go_wp2
    go_ret
    exact ⟨rfl, rfl⟩
  have h1 : 0 < s.size := by omega
  obtain ⟨he1, he2⟩ := isEmpty_str s h1
  by_cases h20 : s.size ≤ 20
  case neg =>
    have hfin : nameB (bytesOf s) = false := by simp [nameB, hl, h20]
    rw [hfin]
    have hbig : (20 : Int) < (s.size : Int) := by omega
    clear hfin hl h20
    go_enter Tryz.func53, Tryz.ntmps53
    go_wp2
    go_ret
    exact ⟨rfl, rfl⟩
  have hsm : ¬ (20 : Int) < (s.size : Int) := by omega
  have Hg : Hid (∀ k (h : k < s.size), (bytesOf s).getD k 0 = (s[k]'h).toNat) := Lib.hid fun k h => getD_of_get (bytesOf_get s k h)
  have Hl := Lib.hid hl
  have hc := lx_letter (s[0]'h1).toNat w ((s[0]'h1).toNat_lt)
  have h20' := Lib.hid h20
  clear hl h20
  cases hlt : letterB (s[0]'h1).toNat
  · have hfin : nameB (bytesOf s) = false := by unfold nameB; rw [Hg.out 0 h1, hlt]; simp
    rw [hfin]
    rw [hlt] at hc
    have Hc := Lib.hid hc
    clear hfin hc hlt
    go_enter Tryz.func53, Tryz.ntmps53
    go_wp2_with (go_at_call 83; (with_reducible refine Hc.out.mono ?_); rintro e w' ⟨rfl, rfl⟩)
    go_ret
    exact ⟨rfl, rfl⟩
  rw [hlt] at hc
  have Hc := Lib.hid hc
  have Hlt : Hid (letterB ((bytesOf s).getD 0 0) = true) := Lib.hid (by rw [Hg.out 0 h1]; exact hlt)
  clear hc hlt
  go_enter Tryz.func53, Tryz.ntmps53
  go_wp2_with (go_at_call 83; (with_reducible refine Hc.out.mono ?_); rintro e w' ⟨rfl, rfl⟩)
  go_loop [3, 19] (fun _ i => ∃ k : Nat, k ≤ s.size ∧ i = .int .i64 (k : Int) ∧ ∀ j, j < k → innerB ((bytesOf s).getD j 0) = true) (fun _ i => s.size - (intOf i).toNat)
  case atStart => exact ⟨0, Nat.zero_le _, rfl, fun j hj => by omega⟩
  case round =>
    obtain ⟨k, hk, rfl, hdig⟩ := hrel
    have Hdig := Lib.hid hdig
    clear hdig
    by_cases hlt : k < s.size
    · have hin := lx_inner (s[k]'hlt).toNat w ((s[k]'hlt).toNat_lt)
      have hg := Hg.out k hlt
      cases hd : innerB (s[k]'hlt).toNat
      · have hfin : nameB (bytesOf s) = false := nameB_no k (by rw [Hl.out]; exact hlt) (by rw [hg]; exact hd)
        have Hfin := Lib.hid hfin
        rw [hd] at hin
        have Hin := Lib.hid hin
        clear hin hd hg hfin
        go_wp2_with (go_at_call 84; (with_reducible refine Hin.out.mono ?_); rintro e w' ⟨rfl, rfl⟩)
        go_ret
        exact ⟨by rw [Hfin.out]; rfl, rfl⟩
      · rw [hd] at hin
        have Hin := Lib.hid hin
        have Hnew : Hid (innerB ((bytesOf s).getD k 0) = true) := Lib.hid (by rw [hg]; exact hd)
        clear hin hd hg
        go_wp2_with (go_at_call 84; (with_reducible refine Hin.out.mono ?_); rintro e w' ⟨rfl, rfl⟩)
        go_round
        case rel =>
          refine ⟨k + 1, by omega, by go_num, fun j hj => ?_⟩
          rcases Nat.lt_or_ge j k with h | h
          · exact Hdig.out j h
          · obtain rfl : j = k := by omega
            exact Hnew.out
        case measure => simp [intOf]; omega
    · have hfin : nameB (bytesOf s) = true := nameB_yes (by rw [Hl.out]; omega) (by rw [Hl.out]; exact h20'.out) Hlt.out (fun j hj => Hdig.out j (by rw [Hl.out] at hj; omega))
      have Hfin := Lib.hid hfin
      clear hfin
      go_wp2
      go_ret
      exact ⟨by rw [Hfin.out]; rfl, rfl⟩

set_option maxHeartbeats 1000000 in
theorem ref_name (s : ByteArray) (w : World) : Calls Tryz.prog 68 #[.string s] w fun e w' => e = .returned (.bool (nameB (bytesOf s))) ∧ w = w' := by
  have hl := bytesOf_len s
  by_cases h0 : s.size = 0
  · have hfin : nameB (bytesOf s) = false := by simp [nameB, hl, h0]
    rw [hfin]
    have he : ((s.size : Int) == 0) = true := by rw [beq_iff_eq]; omega
    clear hfin hl
    go_enter Tryz.func68, Tryz.ntmps68
    go_wp2
    go_ret
    exact ⟨rfl, rfl⟩
  have h1 : 0 < s.size := by omega
  have he : ((s.size : Int) == 0) = false := by rw [beq_eq_false_iff_ne]; omega
  have H0 := Lib.hid h0
  clear h0
  by_cases h20 : s.size ≤ 20
  case neg =>
    have hfin : nameB (bytesOf s) = false := by simp [nameB, hl, h20]
    rw [hfin]
    have hbig : (20 : Int) < (s.size : Int) := by omega
    clear hfin hl h20
    go_enter Tryz.func68, Tryz.ntmps68
    go_wp2
    go_ret
    exact ⟨rfl, rfl⟩
  have hsm : ¬ (20 : Int) < (s.size : Int) := by omega
  have Hg : Hid (∀ k (h : k < s.size), (bytesOf s).getD k 0 = (s[k]'h).toNat) := Lib.hid fun k h => getD_of_get (bytesOf_get s k h)
  have Hl := Lib.hid hl
  have hc := lx_first (s[0]'h1).toNat w ((s[0]'h1).toNat_lt)
  have h20' := Lib.hid h20
  clear hl h20
  cases hlt : letterB (s[0]'h1).toNat
  · have hfin : nameB (bytesOf s) = false := by unfold nameB; rw [Hg.out 0 h1, hlt]; simp
    rw [hfin]
    rw [hlt] at hc
    have Hc := Lib.hid hc
    clear hfin hc hlt
    go_enter Tryz.func68, Tryz.ntmps68
    go_wp2_with (go_at_call 93; (with_reducible refine Hc.out.mono ?_); rintro e w' ⟨rfl, rfl⟩)
    go_ret
    exact ⟨rfl, rfl⟩
  rw [hlt] at hc
  have Hc := Lib.hid hc
  have Hlt : Hid (letterB ((bytesOf s).getD 0 0) = true) := Lib.hid (by rw [Hg.out 0 h1]; exact hlt)
  clear hc hlt
  go_enter Tryz.func68, Tryz.ntmps68
  go_wp2_with (go_at_call 93; (with_reducible refine Hc.out.mono ?_); rintro e w' ⟨rfl, rfl⟩)
  go_loop [3] (fun i => ∃ k : Nat, k ≤ s.size ∧ i = .int .i64 (k : Int) ∧ ∀ j, j < k → innerB ((bytesOf s).getD j 0) = true) (fun i => s.size - (intOf i).toNat)
  case atStart => exact ⟨0, Nat.zero_le _, rfl, fun j hj => by omega⟩
  case round =>
    obtain ⟨k, hk, rfl, hdig⟩ := hrel
    have Hdig := Lib.hid hdig
    clear hdig
    by_cases hlt : k < s.size
    · have hin := lx_later (s[k]'hlt).toNat w ((s[k]'hlt).toNat_lt)
      have hg := Hg.out k hlt
      cases hd : innerB (s[k]'hlt).toNat
      · have hfin : nameB (bytesOf s) = false := nameB_no k (by rw [Hl.out]; exact hlt) (by rw [hg]; exact hd)
        have Hfin := Lib.hid hfin
        rw [hd] at hin
        have Hin := Lib.hid hin
        clear hin hd hg hfin
        go_wp2_with (go_at_call 94; (with_reducible refine Hin.out.mono ?_); rintro e w' ⟨rfl, rfl⟩)
        go_ret
        exact ⟨by rw [Hfin.out]; rfl, rfl⟩
      · rw [hd] at hin
        have Hin := Lib.hid hin
        have Hnew : Hid (innerB ((bytesOf s).getD k 0) = true) := Lib.hid (by rw [hg]; exact hd)
        clear hin hd hg
        go_wp2_with (go_at_call 94; (with_reducible refine Hin.out.mono ?_); rintro e w' ⟨rfl, rfl⟩)
        go_round
        case rel =>
          refine ⟨k + 1, by omega, by go_num, fun j hj => ?_⟩
          rcases Nat.lt_or_ge j k with h | h
          · exact Hdig.out j h
          · obtain rfl : j = k := by omega
            exact Hnew.out
        case measure => simp [intOf]; omega
    · have hfin : nameB (bytesOf s) = true := nameB_yes (by rw [Hl.out]; omega) (by rw [Hl.out]; exact h20'.out) Hlt.out (fun j hj => Hdig.out j (by rw [Hl.out] at hj; omega))
      have Hfin := Lib.hid hfin
      clear hfin
      go_wp2
      go_ret
      exact ⟨by rw [Hfin.out]; rfl, rfl⟩
end Go.Proofs.YtfdbpafenhdkbaaGreatDoor

namespace Go.Proofs.YtfdbpafenhdkbaaGreatDoor
open Go.RowKit
set_option linter.unusedVariables false
set_option linter.unusedSimpArgs false

/-- how many bytes the literal has that bytes begin with, and the error -/
def litN (l : List Nat) : Nat × Nat :=
  if l.length < 2 then (0, 4)
  else if plainB (l.getD 1 0) then (if l.length ≤ 2 then (0, 4) else if l.getD 2 0 = 39 then (3, 0) else (0, 3))
  else if l.getD 1 0 ≠ 92 then (0, 3)
  else if l.length < 3 then (0, 4)
  else if !escapedB (l.getD 2 0) then (0, 3)
  else if l.length ≤ 3 then (0, 4) else if l.getD 3 0 = 39 then (4, 0) else (0, 3)

theorem lt256 {l : List Nat} (h : ∀ x ∈ l, x < 256) (j : Nat) : l.getD j 0 < 256 := by
  rw [List.getD_eq_getElem?_getD]
  rcases Nat.lt_or_ge j l.length with h' | h'
  · rw [List.getElem?_eq_getElem h']; exact h _ (List.getElem_mem h')
  · rw [List.getElem?_eq_none h']; exact by decide

set_option maxHeartbeats 1000000 in
theorem lx_literal (A : Option Addr) (n c : Nat) (bs : List Nat) (w : World) (h : Nums .u8 w A n c bs) (hb : ∀ x ∈ bs, x < 256) :
    Calls Tryz.prog 122 #[.slice A n c] w fun e w' => e = .returned (.tuple #[.int .i64 ((litN bs).1 : Int), .int .i64 ((litN bs).2 : Int)]) ∧ w = w' := by
  obtain rfl := h.len
  have hcap := h.cap
  by_cases h2 : bs.length < 2
  · have hf : litN bs = (0, 4) := by simp [litN, h2]
    rw [hf]
    clear hf
    go_enter Tryz.func122, Tryz.ntmps122
    go_wp2
    go_ret2
    exact ⟨rfl, rfl⟩
  obtain ⟨b, off, rfl, hbl, hcell⟩ := h.at_ (by omega)
  have l1 := lt256 hb 1
  have l2 := lt256 hb 2
  have l3 := lt256 hb 3
  have c1 := hcell 1 (by omega)
  have c2 := fun h => hcell 2 h
  have c3 := fun h => hcell 3 h
  have hlit : litN bs = if plainB (bs.getD 1 0) then (if bs.length ≤ 2 then (0, 4) else if bs.getD 2 0 = 39 then (3, 0) else (0, 3))
      else if bs.getD 1 0 ≠ 92 then (0, 3) else if bs.length < 3 then (0, 4) else if !escapedB (bs.getD 2 0) then (0, 3)
      else if bs.length ≤ 3 then (0, 4) else if bs.getD 3 0 = 39 then (4, 0) else (0, 3) := by
    unfold litN; rw [if_neg h2]
  generalize bs.getD 1 0 = x1 at *
  generalize bs.getD 2 0 = x2 at *
  generalize bs.getD 3 0 = x3 at *
  generalize litN bs = r at *
  have p1 := lx_plain x1 w l1
  have e2 := lx_escaped x2 w l2
  clear hcell hb
  cases hp : plainB x1
  · rw [hp] at p1 hlit
    have P1 := Lib.hid p1
    clear p1 hp
    simp only [Bool.false_eq_true, if_false] at hlit
    by_cases hx : x1 = 92
    · have hxx : ((x1 : Int) == 92) = true := by rw [beq_iff_eq]; omega
      simp only [hx, ne_eq, not_true, if_false] at hlit
      clear hx
      by_cases h3 : bs.length < 3
      · rw [if_pos h3] at hlit
        subst hlit
        clear c2 c3 e2
        go_enter Tryz.func122, Tryz.ntmps122
        go_wp2_with (go_at_call 127; (with_reducible refine P1.out.mono ?_); rintro e w' ⟨rfl, rfl⟩)
        go_ret2
        exact ⟨rfl, rfl⟩
      · rw [if_neg h3] at hlit
        have c2 := c2 (by omega)
        cases he : escapedB x2
        · rw [he] at e2 hlit
          have E2 := Lib.hid e2
          clear e2 he c3
          simp only [Bool.not_false, if_true] at hlit
          subst hlit
          go_enter Tryz.func122, Tryz.ntmps122
          go_wp2_with (first
            | (go_at_call 127; (with_reducible refine P1.out.mono ?_); rintro e w' ⟨rfl, rfl⟩)
            | (go_at_call 128; (with_reducible refine E2.out.mono ?_); rintro e w' ⟨rfl, rfl⟩))
          go_ret2
          exact ⟨rfl, rfl⟩
        · rw [he] at e2 hlit
          have E2 := Lib.hid e2
          clear e2 he
          simp only [Bool.not_true, Bool.false_eq_true, if_false] at hlit
          by_cases h4 : bs.length ≤ 3
          · rw [if_pos h4] at hlit
            subst hlit
            clear c3
            go_enter Tryz.func122, Tryz.ntmps122
            go_wp2_with (first
              | (go_at_call 127; (with_reducible refine P1.out.mono ?_); rintro e w' ⟨rfl, rfl⟩)
              | (go_at_call 128; (with_reducible refine E2.out.mono ?_); rintro e w' ⟨rfl, rfl⟩))
            go_ret2
            exact ⟨rfl, rfl⟩
          · rw [if_neg h4] at hlit
            have c3 := c3 (by omega)
            by_cases hq : x3 = 39
            · have hqq : ((x3 : Int) == 39) = true := by rw [beq_iff_eq]; omega
              rw [if_pos hq] at hlit
              subst hlit
              clear hq
              go_enter Tryz.func122, Tryz.ntmps122
              go_wp2_with (first
                | (go_at_call 127; (with_reducible refine P1.out.mono ?_); rintro e w' ⟨rfl, rfl⟩)
                | (go_at_call 128; (with_reducible refine E2.out.mono ?_); rintro e w' ⟨rfl, rfl⟩))
              go_ret2
              exact ⟨rfl, rfl⟩
            · have hqq : ((x3 : Int) == 39) = false := by rw [beq_eq_false_iff_ne]; omega
              rw [if_neg hq] at hlit
              subst hlit
              clear hq
              go_enter Tryz.func122, Tryz.ntmps122
              go_wp2_with (first
                | (go_at_call 127; (with_reducible refine P1.out.mono ?_); rintro e w' ⟨rfl, rfl⟩)
                | (go_at_call 128; (with_reducible refine E2.out.mono ?_); rintro e w' ⟨rfl, rfl⟩))
              go_ret2
              exact ⟨rfl, rfl⟩
    · have hxx : ((x1 : Int) == 92) = false := by rw [beq_eq_false_iff_ne]; omega
      rw [if_pos hx] at hlit
      subst hlit
      clear hx c2 c3 e2
      go_enter Tryz.func122, Tryz.ntmps122
      go_wp2_with (go_at_call 127; (with_reducible refine P1.out.mono ?_); rintro e w' ⟨rfl, rfl⟩)
      go_ret2
      exact ⟨rfl, rfl⟩
  · rw [hp] at p1 hlit
    have P1 := Lib.hid p1
    clear p1 hp e2 c3
    simp only [if_true] at hlit
    by_cases h3 : bs.length ≤ 2
    · rw [if_pos h3] at hlit
      subst hlit
      clear c2
      go_enter Tryz.func122, Tryz.ntmps122
      go_wp2_with (go_at_call 127; (with_reducible refine P1.out.mono ?_); rintro e w' ⟨rfl, rfl⟩)
      go_ret2
      exact ⟨rfl, rfl⟩
    · rw [if_neg h3] at hlit
      have c2 := c2 (by omega)
      by_cases hq : x2 = 39
      · have hqq : ((x2 : Int) == 39) = true := by rw [beq_iff_eq]; omega
        rw [if_pos hq] at hlit
        subst hlit
        clear hq
        go_enter Tryz.func122, Tryz.ntmps122
        go_wp2_with (go_at_call 127; (with_reducible refine P1.out.mono ?_); rintro e w' ⟨rfl, rfl⟩)
        go_ret2
        exact ⟨rfl, rfl⟩
      · have hqq : ((x2 : Int) == 39) = false := by rw [beq_eq_false_iff_ne]; omega
        rw [if_neg hq] at hlit
        subst hlit
        clear hq
        go_enter Tryz.func122, Tryz.ntmps122
        go_wp2_with (go_at_call 127; (with_reducible refine P1.out.mono ?_); rintro e w' ⟨rfl, rfl⟩)
        go_ret2
        exact ⟨rfl, rfl⟩
end Go.Proofs.YtfdbpafenhdkbaaGreatDoor

namespace Go.Proofs.YtfdbpafenhdkbaaGreatDoor
open Go.RowKit
set_option linter.unusedVariables false
set_option linter.unusedSimpArgs false

def litB (l : List Nat) : Bool :=
  (decide (l.length = 3) && decide (l.getD 0 0 = 39) && decide (l.getD 2 0 = 39) && plainB (l.getD 1 0)) ||
  (decide (l.length = 4) && decide (l.getD 0 0 = 39) && decide (l.getD 3 0 = 39) && decide (l.getD 1 0 = 92) && escapedB (l.getD 2 0))

theorem plain92 : plainB 92 = false := by decide
theorem litB_lit (l : List Nat) : litB l = (decide (l.getD 0 0 = 39) && (decide ((litN l).2 = 0) && decide ((litN l).1 = l.length))) := by
  unfold litB litN
  generalize l.getD 0 0 = x0
  generalize hx1 : l.getD 1 0 = x1
  generalize l.getD 2 0 = x2
  generalize l.getD 3 0 = x3
  generalize l.length = n
  by_cases h92 : x1 = 92
  · subst h92
    rw [plain92]
    cases escapedB x2 <;> grind
  · cases plainB x1 <;> grind

set_option maxHeartbeats 1000000 in
theorem lx_Literal (s : ByteArray) (w : World) (hs : s.size ≤ maxLen) :
    Calls Tryz.prog 105 #[.string s] w fun e w' => e = .returned (.bool (litB (bytesOf s))) ∧ Below w.heap.size w w' := by
  have hl := bytesOf_len s
  have hf := litB_lit (bytesOf s)
  by_cases h0 : s.size = 0
  · have hfin : litB (bytesOf s) = false := by unfold litB; rw [hl, h0]; simp
    rw [hfin]
    have he := isEmpty_str0 s h0
    clear hfin hl hf
    go_enter Tryz.func105, Tryz.ntmps105
    go_wp2
    go_ret
    exact ⟨rfl, Below.refl _ _⟩
  have h1 : 0 < s.size := by omega
  obtain ⟨he1, he2⟩ := isEmpty_str s h1
  have hg0 := getD_of_get (d := 0) (bytesOf_get s 0 h1)
  rw [hg0, hl] at hf
  have H0 := Lib.hid h0
  clear h0
  by_cases hq : (s[0]'h1).toNat = 39
  case neg =>
    have hfin : litB (bytesOf s) = false := by rw [hf]; simp [hq]
    rw [hfin]
    have hqq : (((s[0]'h1).toNat : Int) == 39) = false := by rw [beq_eq_false_iff_ne]; omega
    clear hfin hl hf hg0 hq
    go_enter Tryz.func105, Tryz.ntmps105
    go_wp2
    go_ret
    exact ⟨rfl, Below.refl _ _⟩
  have hqq : (((s[0]'h1).toNat : Int) == 39) = true := by rw [beq_iff_eq]; omega
  rw [hq] at hf
  simp only [decide_true, Bool.true_and] at hf
  have kc := fun w => Lib.run_convert_string_bytes (P := Tryz.prog) w 9 49 5 s Tryz.underlying9 Tryz.underlying49 Tryz.underlying5
  have hB := bytesWorld_below w 5 s
  have hc := lx_literal _ _ _ (bytesOf s) _ (bytesWorld_nums w 5 s hs) (bytesOf_lt s)
  generalize litB (bytesOf s) = r at *
  generalize litN (bytesOf s) = p at *
  obtain ⟨p1, p2⟩ := p
  simp only [] at hc hf
  have Hc := Lib.hid hc
  clear hc hl hg0 hq
  by_cases z1 : p2 = 0
  · have y1 : ((p2 : Int) == 0) = true := by rw [beq_iff_eq]; omega
    have d1 : decide (p2 = 0) = true := by simp [z1]
    rw [d1] at hf
    clear d1 z1
    by_cases z2 : p1 = s.size
    · have y2 : ((p1 : Int) == (s.size : Int)) = true := by rw [beq_iff_eq]; omega
      have d2 : decide (p1 = s.size) = true := by simp [z2]
      rw [d2] at hf
      subst hf
      clear d2 z2
      go_enter Tryz.func105, Tryz.ntmps105
      go_wp2_with (go_at_call 122; (with_reducible refine Hc.out.mono ?_); rintro e w' ⟨rfl, rfl⟩)
      go_ret
      exact ⟨rfl, hB⟩
    · have y2 : ((p1 : Int) == (s.size : Int)) = false := by rw [beq_eq_false_iff_ne]; omega
      have d2 : decide (p1 = s.size) = false := by simp [z2]
      rw [d2] at hf
      subst hf
      clear d2 z2
      go_enter Tryz.func105, Tryz.ntmps105
      go_wp2_with (go_at_call 122; (with_reducible refine Hc.out.mono ?_); rintro e w' ⟨rfl, rfl⟩)
      go_ret
      exact ⟨rfl, hB⟩
  · have y1 : ((p2 : Int) == 0) = false := by rw [beq_eq_false_iff_ne]; omega
    have d1 : decide (p2 = 0) = false := by simp [z1]
    rw [d1] at hf
    subst hf
    clear d1 z1
    go_enter Tryz.func105, Tryz.ntmps105
    go_wp2_with (go_at_call 122; (with_reducible refine Hc.out.mono ?_); rintro e w' ⟨rfl, rfl⟩)
    go_ret
    exact ⟨rfl, hB⟩

set_option maxHeartbeats 1000000 in
theorem ref_Literal (s : ByteArray) (w : World) :
    Calls Tryz.prog 92 #[.string s] w fun e w' => e = .returned (.bool (litB (bytesOf s))) ∧ w = w' := by
  have hl := bytesOf_len s
  have Hg : Hid (∀ k (h : k < s.size), (bytesOf s).getD k 0 = (s[k]'h).toNat) := Lib.hid fun k h => getD_of_get (bytesOf_get s k h)
  have Hf : Hid (litB (bytesOf s) = ((decide (s.size = 3) && decide ((bytesOf s).getD 0 0 = 39) && decide ((bytesOf s).getD 2 0 = 39) && plainB ((bytesOf s).getD 1 0)) ||
    (decide (s.size = 4) && decide ((bytesOf s).getD 0 0 = 39) && decide ((bytesOf s).getD 3 0 = 39) && decide ((bytesOf s).getD 1 0 = 92) && escapedB ((bytesOf s).getD 2 0)))) := Lib.hid (by unfold litB; rw [hl])
  clear hl
  by_cases h3 : s.size = 3
  · have e3 : ((s.size : Int) == 3) = true := by rw [beq_iff_eq]; omega
    have k0 : 0 < s.size := by omega
    have k1 : 1 < s.size := by omega
    have k2 : 2 < s.size := by omega
    have Hf2 : Hid (litB (bytesOf s) = (decide ((s[0]'k0).toNat = 39) && decide ((s[2]'k2).toNat = 39) && decide (32 ≤ (s[1]'k1).toNat ∧ (s[1]'k1).toNat ≤ 126 ∧ (s[1]'k1).toNat ≠ 39 ∧ (s[1]'k1).toNat ≠ 92))) := Lib.hid (by
      rw [Hf.out, Hg.out 0 k0, Hg.out 1 k1, Hg.out 2 k2, h3]
      simp [plainB])
    clear h3 Hf
    go_enter Tryz.func92, Tryz.ntmps92
    go_wp2
    all_goals
      go_ret
      refine ⟨ret_bool ?_, rfl⟩
      rw [Hf2.out]
      rw [Bool.eq_iff_iff]; simp only [Bool.or_eq_true, Bool.and_eq_true, beq_iff_eq, bne_iff_ne, ne_eq, Bool.not_eq_true', decide_eq_true_eq, decide_eq_false_iff_not, Bool.false_eq_true, true_iff, false_iff, iff_true, iff_false]; omega
  have e3 : ((s.size : Int) == 3) = false := by rw [beq_eq_false_iff_ne]; omega
  by_cases h4 : s.size = 4
  · have e4 : ((s.size : Int) == 4) = true := by rw [beq_iff_eq]; omega
    have k0 : 0 < s.size := by omega
    have k1 : 1 < s.size := by omega
    have k2 : 2 < s.size := by omega
    have k3 : 3 < s.size := by omega
    have Hf2 : Hid (litB (bytesOf s) = (decide ((s[0]'k0).toNat = 39) && decide ((s[3]'k3).toNat = 39) && decide ((s[1]'k1).toNat = 92) && decide ((s[2]'k2).toNat = 110 ∨ (s[2]'k2).toNat = 116 ∨ (s[2]'k2).toNat = 92 ∨ (s[2]'k2).toNat = 39))) := Lib.hid (by
      rw [Hf.out, Hg.out 0 k0, Hg.out 1 k1, Hg.out 2 k2, Hg.out 3 k3, h4]
      simp [escapedB])
    clear h3 h4 Hf
    go_enter Tryz.func92, Tryz.ntmps92
    go_wp2
    all_goals
      go_ret
      refine ⟨ret_bool ?_, rfl⟩
      rw [Hf2.out]
      rw [Bool.eq_iff_iff]; simp only [Bool.or_eq_true, Bool.and_eq_true, beq_iff_eq, bne_iff_ne, ne_eq, Bool.not_eq_true', decide_eq_true_eq, decide_eq_false_iff_not, Bool.false_eq_true, true_iff, false_iff, iff_true, iff_false]; omega
  · have e4 : ((s.size : Int) == 4) = false := by rw [beq_eq_false_iff_ne]; omega
    have hfin : litB (bytesOf s) = false := by rw [Hf.out]; simp [h3, h4]
    rw [hfin]
    clear hfin h3 h4 Hf
    go_enter Tryz.func92, Tryz.ntmps92
    go_wp2
    go_ret
    exact ⟨rfl, rfl⟩
end Go.Proofs.YtfdbpafenhdkbaaGreatDoor

namespace Go.Proofs.YtfdbpafenhdkbaaGreatDoor
open Go.RowKit
set_option linter.unusedVariables false
set_option linter.unusedSimpArgs false

/-- a slice that reads as strings -/
def Strs (w : World) (A : Option Addr) (n c : Nat) (ss : List ByteArray) : Prop := Sl w A n c (ss.map Value.string)
theorem Strs.len {w : World} {A : Option Addr} {n c : Nat} {ss : List ByteArray} (h : Strs w A n c ss) : ss.length = n := by have := h.1; simpa using this
theorem Strs.cap {w : World} {A : Option Addr} {n c : Nat} {ss : List ByteArray} (h : Strs w A n c ss) : n ≤ c ∧ c ≤ 9223372036854775807 := ⟨h.2.1, h.2.2.1⟩
theorem Strs.below {w w' : World} {A : Option Addr} {n c : Nat} {ss : List ByteArray} (h : Strs w A n c ss) (hb : Below w.heap.size w w') : Strs w' A n c ss := Sl.below h hb
theorem Strs.ext {w w' : World} {A : Option Addr} {n c : Nat} {ss : List ByteArray} (h : Strs w A n c ss) {B : Nat} (hB : w.heap.size ≤ B) (hb : Below B w w') : Strs w' A n c ss := h.below (hb.mono hB)
theorem Strs.get {w : World} {A : Option Addr} {n c : Nat} {ss : List ByteArray} (h : Strs w A n c ss) {j : Nat} (hj : j < n) :
    ∃ b off s, A = some ⟨b, off, none⟩ ∧ b < w.heap.size ∧ Hid (ss[j]? = some s) ∧ w.cell? ⟨b, off + j, none⟩ = some (.string s) := by
  have hl := h.len
  obtain ⟨b, off, e, hb, hc⟩ := h.2.2.2 (by rw [List.length_map]; omega)
  refine ⟨b, off, ss[j]'(by omega), e, hb, Lib.hid (List.getElem?_eq_getElem (by omega)), ?_⟩
  rw [hc j (by rw [List.length_map]; omega)]
  simp [List.getElem?_eq_getElem (show j < ss.length by omega)]

theorem strCells_nums (s : ByteArray) : Lib.strCells s = nums .u8 (bytesOf s) := by simp [Lib.strCells, nums, bytesOf, Function.comp_def]

section
variable {P : Program} {w : World}
/-- 'append' of a string's bytes -/
theorem wpl_append_str {ops : Array Oper} {rest : List Oper} {o : Oper} {a : Act} {Q : Exit → Act → World → Prop} (hgd : o.guard = none) (s x : Operand) (t u : TypeId)
    (ho : o.op = .call { callee := .builtin .append, args := #[s, x], argTypes := #[t, u] })
    (base : Nat) (e : TypeId) (ht : P.underlying t = some (.slice e)) (hu : P.underlying u = some .string)
    (hi : (P.info? e).map (fun i => (i.zero, i.size, i.bytes)) = some (some (.int .u8 0), 1, 1))
    (A : Option Addr) (n c : Nat) (xs : List Nat) (hs : a.eval s = .slice A n c) (hown : w.ownsRow base e 1 (.slice A n c) n (nums .u8 xs))
    (z : ByteArray) (hx : a.eval x = .string z)
    (hbytes : n + z.size ≤ 140737488355328) (hbase : base ≤ w.heap.size)
    (h : ∀ A' c' w', w'.ownsRow base e 1 (.slice A' (n + z.size) c') (n + z.size) (nums .u8 (xs ++ bytesOf z)) → w.grownBy w' (Value.slice A n c).ownBlock →
      wpList P ops Q rest (a.put o.dst (.slice A' (n + z.size) c')) w') : wpList P ops Q (o :: rest) a w := by
  obtain ⟨i, hi', hz, hsz, hby⟩ := info_parts hi
  refine Lib.wpList_append_own_string w hgd s x t u ho base e i ht hu hi' hz hsz hby _ n _ hs hown z hx (by simp only [maxLen]; omega) hbytes hbase fun v' w' h1 h2 _ => ?_
  obtain ⟨A', c', rfl⟩ := own_form h1
  rw [strCells_nums, ← nums_append] at h1
  exact h A' c' w' h1 h2
end
theorem own_nil {w : World} {base e size n c : Nat} {A : Option Addr} {xs : List Value} (h : w.ownsRow base e size (.slice A n c) n xs) : A = none → c = 0 := by
  intro hA
  rcases h.2 with ⟨h0, h1⟩ | ⟨g, cap, cur, hv, hb, hg, hnc, hcm, hcs, htake⟩
  · injection h0
  · injection hv with h1 h2 h3
    rw [hA] at h1; cases h1
end Go.Proofs.YtfdbpafenhdkbaaGreatDoor
