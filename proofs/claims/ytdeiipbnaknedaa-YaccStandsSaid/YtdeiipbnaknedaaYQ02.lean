/- places, as lex and yacc use them. -/
import Derived.Test.YtdeiipbnaknedaaYQ01
import Derived.ChangeAlike
import Derived.Laws.BytesArg
namespace Go.Proofs.Ytdeiipbnaknedaa
open Go.RowKit
set_option linter.unusedVariables false
set_option linter.unusedSimpArgs false

def okN (n : Nat) : Bool := decide (1 ≤ n ∧ n ≤ 1073741824)
def okP (l c : Nat) : Bool := okN l && okN c
/-- a place -/
def PV (l c : Nat) : Value := .complex .f64 (fN l) (fN c)
theorem PV_zero : PV 0 0 = .complex .f64 0 0 := by unfold PV; rw [fN_zero]

theorem floatOfInt_nat (n : Nat) : floatOfInt .f64 (n : Int) = fN n := by
  unfold floatOfInt FloatKind.nearest
  have e1 : decide ((n : Int) < 0) = false := by simp
  rw [e1, Int.natAbs_natCast]
  rfl
theorem add_bits (n m : Nat) (h : n + m < 9007199254740992) : floatBits .add .f64 (fN n) (fN m) = some (fN (n + m)) := by
  obtain ⟨f, hf, k, hk⟩ := (read_fN n (by omega)).sum (read_fN m (by omega))
  show ((FloatKind.f64.format.read (fN n)).sum (FloatKind.f64.format.read (fN m))).map FloatKind.f64.format.write = _
  have hf' : (FloatKind.f64.format.read (fN n)).sum (FloatKind.f64.format.read (fN m)) = some f := hf
  rw [hf']
  exact congrArg some (write_isN hk h)
theorem toInt_fN (n : Nat) (h : n ≤ 1073741824) : floatToIntVal .f64 (fN n) .i64 = some (n : Int) := by
  unfold floatToIntVal
  have := (read_fN n (by omega)).toInt
  have h' : (FloatKind.f64.decode (fN n)).toInt .zero = some (n : Int) := this
  rw [h']
  simp only []
  rw [if_pos]
  have e1 : IntKind.i64.min = -9223372036854775808 := by decide
  have e2 : IntKind.i64.max = 9223372036854775807 := by decide
  rw [e1, e2]
  omega

theorem pl_right (l c : Nat) (w : World) (hl : l < 9007199254740992) (hc : c < 9007199254740992) :
    Calls Try.prog 62 #[.complex .f64 (fN l) (fN c)] w fun e w' => e = .returned (.bool (okP l c)) ∧ w = w' := by
  have h1 := whole_fN l w hl
  have h2 := whole_fN c w hc
  unfold okP
  rw [show decide (1 ≤ l ∧ l ≤ 1073741824) = okN l from rfl] at h1
  rw [show decide (1 ≤ c ∧ c ≤ 1073741824) = okN c from rfl] at h2
  generalize fN l = x at *
  generalize fN c = y at *
  cases h : okN l
  all_goals
    rw [h] at h1
    have H1 := Lib.hid h1
    have H2 := Lib.hid h2
    clear h1 h2 h
    generalize okN c = q at *
    go_enter Try.func62, Try.ntmps62
    go_wp2_with (first
      | (go_at_call 71; (with_reducible refine H1.out.mono ?_); rintro e w' ⟨rfl, rfl⟩; clear H1)
      | (go_at_call 71; (with_reducible refine H2.out.mono ?_); rintro e w' ⟨rfl, rfl⟩))
    go_ret
    exact ⟨by simp, rfl⟩

/-- a place that may be; none of others -/
def keptP (l c : Nat) : Value := if okP l c then PV l c else PV 0 0

theorem pl_kept (l c : Nat) (w : World) (hl : l < 9007199254740992) (hc : c < 9007199254740992) :
    Calls Try.prog 63 #[.complex .f64 (fN l) (fN c)] w fun e w' => e = .returned (keptP l c) ∧ w = w' := by
  have h1 := pl_right l c w hl hc
  unfold keptP
  rw [PV_zero]
  unfold PV
  generalize fN l = x at *
  generalize fN c = y at *
  cases h : okP l c
  all_goals
    rw [h] at h1
    have H1 := Lib.hid h1
    clear h1 h
    go_enter Try.func63, Try.ntmps63
    go_wp2_with (go_at_call 62; (with_reducible refine H1.out.mono ?_); rintro e w' ⟨rfl, rfl⟩)
    go_ret
    exact ⟨rfl, rfl⟩

/-- the place of a line and a column -/
def ofP (a b : Int) : Value := if 1 ≤ a ∧ a ≤ 1073741824 ∧ 1 ≤ b ∧ b ≤ 1073741824 then PV a.toNat b.toNat else PV 0 0

theorem pl_of (a b : Int) (w : World) : Calls Try.prog 22 #[.int .i64 a, .int .i64 b] w fun e w' => e = .returned (ofP a b) ∧ w = w' := by
  by_cases h : 1 ≤ a ∧ a ≤ 1073741824 ∧ 1 ≤ b ∧ b ≤ 1073741824
  · unfold ofP
    rw [if_pos h]
    obtain ⟨n, rfl⟩ : ∃ n : Nat, a = (n : Int) := ⟨a.toNat, by omega⟩
    obtain ⟨m, rfl⟩ : ∃ m : Nat, b = (m : Int) := ⟨b.toNat, by omega⟩
    have e1 := floatOfInt_nat n
    have e2 := floatOfInt_nat m
    obtain ⟨g1, g2, g3, g4⟩ := h
    unfold PV
    rw [Int.toNat_natCast, Int.toNat_natCast]
    generalize fN n = x at *
    generalize fN m = y at *
    go_enter Try.func22, Try.ntmps22
    go_wp2
    go_ret
    exact ⟨by simp [e1, e2], rfl⟩
  · unfold ofP
    rw [if_neg h, PV_zero]
    have hways : a < 1 ∨ (1 ≤ a ∧ 1073741824 < a) ∨ (1 ≤ a ∧ a ≤ 1073741824 ∧ b < 1) ∨ (1 ≤ a ∧ a ≤ 1073741824 ∧ 1 ≤ b ∧ 1073741824 < b) := by omega
    clear h
    rcases hways with g1 | ⟨g1, g2⟩ | ⟨g1, g2, g3⟩ | ⟨g1, g2, g3, g4⟩
    all_goals
      go_enter Try.func22, Try.ntmps22
      go_wp2
      go_ret
      exact ⟨rfl, rfl⟩

theorem ref_of (a b : Int) (w : World) : Calls Try.prog 32 #[.int .i64 a, .int .i64 b] w fun e w' => e = .returned (ofP a b) ∧ w = w' := by
  by_cases h : 1 ≤ a ∧ a ≤ 1073741824 ∧ 1 ≤ b ∧ b ≤ 1073741824
  · unfold ofP
    rw [if_pos h]
    obtain ⟨n, rfl⟩ : ∃ n : Nat, a = (n : Int) := ⟨a.toNat, by omega⟩
    obtain ⟨m, rfl⟩ : ∃ m : Nat, b = (m : Int) := ⟨b.toNat, by omega⟩
    have e1 := floatOfInt_nat n
    have e2 := floatOfInt_nat m
    obtain ⟨g1, g2, g3, g4⟩ := h
    unfold PV
    rw [Int.toNat_natCast, Int.toNat_natCast]
    generalize fN n = x at *
    generalize fN m = y at *
    go_enter Try.func32, Try.ntmps32
    go_wp2
    go_ret
    exact ⟨by simp [e1, e2], rfl⟩
  · unfold ofP
    rw [if_neg h, PV_zero]
    have hways : a < 1 ∨ (1 ≤ a ∧ 1073741824 < a) ∨ (1 ≤ a ∧ a ≤ 1073741824 ∧ b < 1) ∨ (1 ≤ a ∧ a ≤ 1073741824 ∧ 1 ≤ b ∧ 1073741824 < b) := by omega
    clear h
    rcases hways with g1 | ⟨g1, g2⟩ | ⟨g1, g2, g3⟩ | ⟨g1, g2, g3, g4⟩
    all_goals
      go_enter Try.func32, Try.ntmps32
      go_wp2
      go_ret
      exact ⟨rfl, rfl⟩

/-- behind a byte -/
def stepP (p : Nat × Nat) (b : Nat) : Nat × Nat := if b = 10 then (p.1 + 1, 1) else (p.1, p.2 + 1)

theorem pl_step (l c b : Nat) (w : World) (hl : l < 1000000000000) (hc : c < 1000000000000) (hok : okP l c = true) :
    Calls Try.prog 46 #[.complex .f64 (fN l) (fN c), .int .u8 (b : Int)] w fun e w' =>
      e = .returned (keptP (stepP (l, c) b).1 (stepP (l, c) b).2) ∧ w = w' := by
  have h1 := pl_right l c w (by omega) (by omega)
  rw [hok] at h1
  by_cases hb : b = 10
  · subst hb
    simp only [stepP, if_true]
    have h2 := pl_kept (l + 1) 1 w (by omega) (by decide)
    have ha := add_bits l 1 (by omega)
    rw [fN_1] at ha h2
    have hr : ∀ w, (binOp .add 83 (.float .f64 (fN l)) (.float .f64 4607182418800017408)).run Try.prog w = .ok (.float .f64 (fN (l + 1))) w := fun w => run_float_arith w .add 83 .f64 _ _ _ ha
    generalize fN l = x at *
    generalize fN c = y at *
    generalize fN (l + 1) = x1 at *
    have H1 := Lib.hid h1
    have H2 := Lib.hid h2
    clear h1 h2 ha
    go_enter Try.func46, Try.ntmps46
    go_wp2_with (first
      | (go_at_call 62; (with_reducible refine H1.out.mono ?_); rintro e w' ⟨rfl, rfl⟩)
      | (go_at_call 63; (with_reducible refine H2.out.mono ?_); rintro e w' ⟨rfl, rfl⟩))
    go_ret
    exact ⟨rfl, rfl⟩
  · simp only [stepP, if_neg hb]
    have h2 := pl_kept l (c + 1) w (by omega) (by omega)
    have ha := add_bits c 1 (by omega)
    have hz := add_bits l 0 (by omega)
    rw [fN_1] at ha
    rw [fN_zero, Nat.add_zero] at hz
    have hbb : ((b : Int) == 10) = false := by rw [beq_eq_false_iff_ne]; omega
    have hr : ∀ w, (binOp .add 28 (.complex .f64 (fN l) (fN c)) (.complex .f64 0 4607182418800017408)).run Try.prog w = .ok (.complex .f64 (fN l) (fN (c + 1))) w := fun w =>
      run_complex_sum w .add (.inl rfl) 28 .f64 _ _ _ _ _ _ (by simp [cSumBits, hz, ha])
    generalize fN l = x at *
    generalize fN c = y at *
    generalize fN (c + 1) = y1 at *
    have H1 := Lib.hid h1
    have H2 := Lib.hid h2
    clear h1 h2 ha hz hb
    go_enter Try.func46, Try.ntmps46
    go_wp2_with (first
      | (go_at_call 62; (with_reducible refine H1.out.mono ?_); rintro e w' ⟨rfl, rfl⟩)
      | (go_at_call 63; (with_reducible refine H2.out.mono ?_); rintro e w' ⟨rfl, rfl⟩))
    go_ret
    exact ⟨rfl, rfl⟩

/-- is a place ahead of another one? -/
def beforeP (l c l2 c2 : Nat) : Bool := okP l c && okP l2 c2 && (decide (l < l2) || (decide (l = l2) && decide (c < c2)))

theorem cmp_lt (a b : Nat) : (some (compare a b) == some Ordering.lt) = decide (a < b) := by
  rcases Nat.lt_trichotomy a b with h | h | h
  · rw [Nat.compare_eq_lt.2 h]; simp [h]
  · rw [Nat.compare_eq_eq.2 h]; simp [h]
  · rw [Nat.compare_eq_gt.2 h]; simp; omega
theorem cmp_eq (a b : Nat) : (some (compare a b) == some Ordering.eq) = decide (a = b) := by
  rcases Nat.lt_trichotomy a b with h | h | h
  · rw [Nat.compare_eq_lt.2 h]; simp; omega
  · rw [Nat.compare_eq_eq.2 h]; simp [h]
  · rw [Nat.compare_eq_gt.2 h]; simp; omega

/-- line and column behind some bytes -/
def atN (bs : List Nat) : Nat × Nat := bs.foldl stepP (1, 1)
theorem atN_snoc (bs : List Nat) (b : Nat) : atN (bs ++ [b]) = stepP (atN bs) b := by simp [atN]
theorem atN_go (bs : List Nat) : ∀ p : Nat × Nat, 1 ≤ p.1 → 1 ≤ p.2 → 1 ≤ (bs.foldl stepP p).1 ∧ (bs.foldl stepP p).1 ≤ p.1 + bs.length ∧ 1 ≤ (bs.foldl stepP p).2 ∧ (bs.foldl stepP p).2 ≤ p.2 + bs.length := by
  induction bs with
  | nil => intro p h1 h2; simp; omega
  | cons b bs ih =>
    intro p h1 h2
    have hb : 1 ≤ (stepP p b).1 ∧ (stepP p b).1 ≤ p.1 + 1 ∧ 1 ≤ (stepP p b).2 ∧ (stepP p b).2 ≤ p.2 + 1 := by
      unfold stepP
      split <;> simp <;> omega
    have := ih (stepP p b) hb.1 hb.2.2.1
    rw [List.foldl_cons, List.length_cons]
    omega
theorem atN_bd (bs : List Nat) : 1 ≤ (atN bs).1 ∧ (atN bs).1 ≤ bs.length + 1 ∧ 1 ≤ (atN bs).2 ∧ (atN bs).2 ≤ bs.length + 1 := by
  have := atN_go bs (1, 1) (by decide) (by decide)
  unfold atN
  omega
theorem okP_of {l c : Nat} (h1 : 1 ≤ l) (h2 : l ≤ 1073741824) (h3 : 1 ≤ c) (h4 : c ≤ 1073741824) : okP l c = true := by simp [okP, okN, h1, h2, h3, h4]
theorem keptP_of {l c : Nat} (h : okP l c = true) : keptP l c = PV l c := by unfold keptP; rw [if_pos h]
theorem ofP_of (l c : Nat) (h : okP l c = true) : ofP (l : Int) (c : Int) = PV l c := by
  simp [okP, okN] at h
  unfold ofP
  rw [if_pos (by omega)]
  simp
theorem ofP_bad (a b : Int) (h : a < 1 ∨ 1073741824 < a ∨ b < 1 ∨ 1073741824 < b) : ofP a b = PV 0 0 := by
  unfold ofP
  rw [if_neg (by omega)]

/-- the place of a byte -/
def atP (bs : List Nat) (i : Int) : Value := if 0 ≤ i ∧ i ≤ bs.length then PV (atN (bs.take i.toNat)).1 (atN (bs.take i.toNat)).2 else PV 0 0

set_option maxHeartbeats 400000 in
theorem ref_at (A : Option Addr) (n c : Nat) (bs : List Nat) (i : Int) (w : World) (h : Nums .u8 w A n c bs) (hn : n ≤ 100000) :
    Calls Try.prog 13 #[.slice A n c, .int .i64 i] w fun e w' => e = .returned (atP bs i) ∧ w = w' := by
  obtain rfl := h.len
  have hcap := h.cap
  by_cases hi : 0 ≤ i ∧ i ≤ bs.length
  case neg =>
    have hf : atP bs i = .complex .f64 0 0 := by unfold atP; rw [if_neg hi, PV_zero]
    rw [hf]
    have hways : i < 0 ∨ (0 ≤ i ∧ (bs.length : Int) < i) := by omega
    clear hi hf
    rcases hways with g | ⟨g, g2⟩
    all_goals
      go_enter Try.func13, Try.ntmps13
      go_wp2
      go_ret
      exact ⟨rfl, rfl⟩
  have Hf : Hid (atP bs i = PV (atN (bs.take i.toNat)).1 (atN (bs.take i.toNat)).2) := Lib.hid (by unfold atP; rw [if_pos hi])
  obtain ⟨m, rfl⟩ : ∃ m : Nat, i = (m : Int) := ⟨i.toNat, by omega⟩
  obtain ⟨hi1, hi2⟩ := hi
  rw [Int.toNat_natCast] at Hf
  go_enter Try.func13, Try.ntmps13
  go_wp2
  go_loop [5, 6, 7] (fun l cc i => ∃ k lv cv : Nat, k ≤ m ∧ i = .int .i64 (k : Int) ∧ l = .int .i64 (lv : Int) ∧ cc = .int .i64 (cv : Int) ∧ Hid (atN (bs.take k) = (lv, cv))) (fun _ _ i => m - (intOf i).toNat)
  case atStart => exact ⟨0, 1, 1, Nat.zero_le _, rfl, rfl, rfl, Lib.hid rfl⟩
  case round =>
    obtain ⟨k, lv, cv, hk, rfl, rfl, rfl, Hat⟩ := hrel
    have hbd := atN_bd (bs.take k)
    have htl : (bs.take k).length ≤ 100000 := by rw [List.length_take]; omega
    rw [Hat.out] at hbd
    simp only [] at hbd
    by_cases hlt : k < m
    · obtain ⟨b, off, x, rfl, hb, Hx, hc⟩ := h.get (j := k) (by omega)
      have hnx : atN (bs.take (k + 1)) = stepP (lv, cv) x := by
        rw [List.take_add_one, Hx.out, ← Hat.out]
        exact atN_snoc _ _
      by_cases hx : x = 10
      · subst hx
        have Hnx := Lib.hid hnx
        clear hnx
        go_wp2
        go_round
        case rel => exact ⟨k + 1, lv + 1, 1, by omega, by go_num, by go_num, rfl, Lib.hid (by rw [Hnx.out]; simp [stepP])⟩
        case measure => simp [intOf]; omega
      · have Hnx := Lib.hid hnx
        have hxx : ((x : Int) == 10) = false := by rw [beq_eq_false_iff_ne]; omega
        have Hxne := Lib.hid hx
        clear hnx hx
        go_wp2
        go_round
        case rel => exact ⟨k + 1, lv, cv + 1, by omega, by go_num, rfl, by go_num, Lib.hid (by rw [Hnx.out]; simp [stepP, Hxne.out])⟩
        case measure => simp [intOf]; omega
    · obtain rfl : k = m := by omega
      have hc := ref_of (lv : Int) (cv : Int) w
      rw [ofP_of lv cv (okP_of hbd.1 (by omega) hbd.2.2.1 (by omega))] at hc
      have hff : atP bs (k : Int) = PV lv cv := by rw [Hf.out, Hat.out]
      generalize PV lv cv = q at *
      have Hff := Lib.hid hff
      have Hc := Lib.hid hc
      clear hc Hf hff
      go_wp2_with (go_at_call 32; (with_reducible refine Hc.out.mono ?_); rintro e w' ⟨rfl, rfl⟩)
      go_ret
      exact ⟨by rw [Hff.out]; rfl, rfl⟩

/-- bytes as a string -/
def str (l : List Nat) : ByteArray := ⟨(l.map UInt8.ofNat).toArray⟩

theorem run_bytes_str {P : Program} (w : World) (src e dst : TypeId) (hs : P.underlying src = some (.slice e)) (he : P.underlying e = some (.int .u8)) (hd : P.underlying dst = some .string)
    (A : Option Addr) (c : Nat) (zs : List Nat) (h : Nums .u8 w A zs.length c zs) : (convert src dst (.slice A zs.length c)).run P w = .ok (.string (str zs)) w := by
  have e1 : strOfNums (zs.map fun (x : Nat) => (x : Int)) = str zs := by simp [strOfNums, str, Function.comp_def]
  rcases A with _ | ad
  · have h0 : zs.length = 0 := by
      rcases Nat.eq_zero_or_pos zs.length with h0 | h0
      · exact h0
      · obtain ⟨b, off, he, _⟩ := h.at_ h0
        cases he
    obtain rfl := List.eq_nil_of_length_eq_zero h0
    exact run_convert_bytes_nil w src e hs he _ _ dst hd
  · by_cases h0 : 0 < zs.length
    · obtain ⟨b, off, he', _, hc⟩ := h.at_ h0
      injection he' with he'
      subst he'
      rw [run_convert_bytes_arg w src e hs he b off zs.length c (zs.map fun (x : Nat) => (x : Int)) (by simp) (fun i hi => by
        rw [hc i hi]
        simp [List.getElem?_eq_getElem hi]) dst hd, e1]
    · obtain rfl := List.eq_nil_of_length_eq_zero (show zs.length = 0 by omega)
      obtain ⟨b, off, spot⟩ := ad
      simp only [List.length_nil]
      rw [run_convert_bytes_string w src dst e _ _ _ hs he hd, run_bytesToString w ⟨b, off, spot⟩ 0 c [] (by simp [loadCells, loadCellsFrom])]
      rfl

/-- a string's bytes -/
def bytesOf (s : ByteArray) : List Nat := s.data.toList.map UInt8.toNat
theorem bytesOf_len (s : ByteArray) : (bytesOf s).length = s.size := by simp [bytesOf]
theorem bytesOf_get (s : ByteArray) (k : Nat) (h : k < s.size) : (bytesOf s)[k]? = some s[k].toNat := by
  simp only [bytesOf, List.getElem?_map]
  rw [List.getElem?_eq_getElem (by simpa using h)]
  rfl
theorem bytesOf_str (l : List Nat) (h : ∀ c ∈ l, c < 256) : bytesOf (str l) = l := by
  simp only [bytesOf, str, List.map_map]
  conv => rhs; rw [← List.map_id l]
  apply List.map_congr_left
  intro c hc
  have := h c hc
  simp only [Function.comp, id, UInt8.toNat_ofNat']
  omega
theorem bytesOf_lt (s : ByteArray) : ∀ c ∈ bytesOf s, c < 256 := by
  intro c hc
  simp only [bytesOf, List.mem_map] at hc
  obtain ⟨b, _, rfl⟩ := hc
  exact b.toNat_lt
theorem str_bytesOf (s : ByteArray) : str (bytesOf s) = s := by
  cases s with | mk d =>
  simp [str, bytesOf, Function.comp_def]

theorem str_size (l : List Nat) : (str l).size = l.length := by
  show (str l).data.size = _
  simp [str]
theorem isEmpty_str (s : ByteArray) (h : 0 < s.size) : s.toList.isEmpty = false ∧ ¬ s.toList = [] := by
  have e : s.toList = s.data.toList := ByteArray.toList_eq s
  have hl : s.data.toList.length = s.size := by simp
  constructor
  · rw [e, List.isEmpty_eq_false_iff]
    intro h0; rw [h0] at hl; simp at hl; omega
  · rw [e]; intro h0; rw [h0] at hl; simp at hl; omega
theorem isEmpty_str0 (s : ByteArray) (h : s.size = 0) : s.toList = [] := by
  have e : s.toList = s.data.toList := ByteArray.toList_eq s
  have hl : s.data.toList.length = s.size := by simp
  rw [e]
  exact List.eq_nil_of_length_eq_zero (by omega)

end Go.Proofs.Ytdeiipbnaknedaa
/- lex: the small functions. -/
namespace Go.Proofs.Ytdeiipbnaknedaa
open Go.RowKit
set_option linter.unusedVariables false
set_option linter.unusedSimpArgs false

def letterB (c : Nat) : Bool := decide (97 ≤ c ∧ c ≤ 122) || decide (65 ≤ c ∧ c ≤ 90) || decide (c = 95)
def innerB (c : Nat) : Bool := letterB c || decide (48 ≤ c ∧ c ≤ 57) || decide (c = 46)

theorem letter_fact : ∀ c : Nat, c < 256 → letterB c = (decide (c = 95) || (decide (97 ≤ c ||| 32) && decide (c ||| 32 ≤ 122))) := by decide +kernel
theorem bits_or (c : Nat) : bits BinOp.or .u8 (c : Int) 32 = ((c ||| 32 : Nat) : Int) ∨ 256 ≤ c := by
  rcases Nat.lt_or_ge c 256 with h | h
  · left
    have : ∀ c : Nat, c < 256 → bits BinOp.or .u8 (c : Int) 32 = ((c ||| 32 : Nat) : Int) := by decide +kernel
    exact this c h
  · exact .inr h
theorem ret_bool {a b : Bool} (h : a = b) : Ending.returned (.bool a) = Ending.returned (.bool b) := by rw [h]

theorem lx_letter (c : Nat) (w : World) (hc : c < 256) :
    Calls Try.prog 47 #[.int .u8 (c : Int)] w fun e w' => e = .returned (.bool (letterB c)) ∧ w = w' := by
  have hf := letter_fact c hc
  have hb := (bits_or c).resolve_right (by omega)
  have hp : ∃ v : Nat, bits BinOp.or .u8 (c : Int) 32 = (v : Int) ∧ letterB c = (decide (c = 95) || (decide (97 ≤ v) && decide (v ≤ 122))) := ⟨_, hb, hf⟩
  clear hf hb
  obtain ⟨v, hv, hf⟩ := hp
  have Hf := Lib.hid hf
  clear hf
  have hways : c = 95 ∨ (c ≠ 95 ∧ v < 97) ∨ (c ≠ 95 ∧ 97 ≤ v ∧ v ≤ 122) ∨ (c ≠ 95 ∧ 97 ≤ v ∧ 122 < v) := by omega
  rcases hways with h | ⟨h, g⟩ | ⟨h, g, g2⟩ | ⟨h, g, g2⟩
  all_goals
    go_enter Try.func47, Try.ntmps47
    go_wp2
    go_ret
    refine ⟨ret_bool ?_, rfl⟩
    rw [Hf.out]
    rw [Bool.eq_iff_iff]; simp only [Bool.or_eq_true, Bool.and_eq_true, beq_iff_eq, bne_iff_ne, ne_eq, Bool.not_eq_true', decide_eq_true_eq, decide_eq_false_iff_not, Bool.false_eq_true, true_iff, false_iff, iff_true, iff_false]; omega
def plainB (c : Nat) : Bool := decide (32 ≤ c ∧ c ≤ 126 ∧ c ≠ 39 ∧ c ≠ 92)
def escapedB (c : Nat) : Bool := decide (c = 110 ∨ c = 116 ∨ c = 92 ∨ c = 39)
def smallB (c : Nat) : Bool := decide (97 ≤ c ∧ c ≤ 122)

theorem lx_first (c : Nat) (w : World) (hc : c < 256) :
    Calls Try.prog 33 #[.int .u8 (c : Int)] w fun e w' => e = .returned (.bool (letterB c)) ∧ w = w' := by
  have hways : c < 65 ∨ (65 ≤ c ∧ c ≤ 90) ∨ (90 < c ∧ c < 95) ∨ c = 95 ∨ (95 < c ∧ c < 97) ∨ (97 ≤ c ∧ c ≤ 122) ∨ 122 < c := by omega
  rcases hways with g0 | ⟨g0, g1⟩ | ⟨g0, g1⟩ | g0 | ⟨g0, g1⟩ | ⟨g0, g1⟩ | g0
  all_goals
    go_enter Try.func33, Try.ntmps33
    go_wp2
    all_goals
      go_ret
      refine ⟨ret_bool ?_, rfl⟩
      unfold letterB
      rw [Bool.eq_iff_iff]; simp only [Bool.or_eq_true, Bool.and_eq_true, beq_iff_eq, bne_iff_ne, ne_eq, Bool.not_eq_true', decide_eq_true_eq, decide_eq_false_iff_not, Bool.false_eq_true, true_iff, false_iff, iff_true, iff_false]; omega

theorem lx_plain (c : Nat) (w : World) (hc : c < 256) :
    Calls Try.prog 64 #[.int .u8 (c : Int)] w fun e w' => e = .returned (.bool (plainB c)) ∧ w = w' := by
  have hways : c < 32 ∨ (32 ≤ c ∧ c ≤ 126 ∧ c = 39) ∨ (32 ≤ c ∧ c ≤ 126 ∧ c = 92) ∨ (32 ≤ c ∧ c ≤ 126 ∧ c ≠ 39 ∧ c ≠ 92) ∨ 126 < c := by omega
  rcases hways with g0 | ⟨g0, g1, g2⟩ | ⟨g0, g1, g2⟩ | ⟨g0, g1, g2, g3⟩ | g0
  all_goals
    go_enter Try.func64, Try.ntmps64
    go_wp2
    all_goals
      go_ret
      refine ⟨ret_bool ?_, rfl⟩
      unfold plainB
      rw [Bool.eq_iff_iff]; simp only [Bool.or_eq_true, Bool.and_eq_true, beq_iff_eq, bne_iff_ne, ne_eq, Bool.not_eq_true', decide_eq_true_eq, decide_eq_false_iff_not, Bool.false_eq_true, true_iff, false_iff, iff_true, iff_false]; omega

theorem lx_escaped (c : Nat) (w : World) (hc : c < 256) :
    Calls Try.prog 65 #[.int .u8 (c : Int)] w fun e w' => e = .returned (.bool (escapedB c)) ∧ w = w' := by
  have hways : c = 110 ∨ c = 116 ∨ c = 92 ∨ c = 39 ∨ (c ≠ 110 ∧ c ≠ 116 ∧ c ≠ 92 ∧ c ≠ 39) := by omega
  rcases hways with g0 | g0 | g0 | g0 | ⟨g0, g1, g2, g3⟩
  all_goals
    go_enter Try.func65, Try.ntmps65
    go_wp2
    all_goals
      go_ret
      refine ⟨ret_bool ?_, rfl⟩
      unfold escapedB
      rw [Bool.eq_iff_iff]; simp only [Bool.or_eq_true, Bool.and_eq_true, beq_iff_eq, bne_iff_ne, ne_eq, Bool.not_eq_true', decide_eq_true_eq, decide_eq_false_iff_not, Bool.false_eq_true, true_iff, false_iff, iff_true, iff_false]; omega

theorem lx_small (c : Nat) (w : World) (hc : c < 256) :
    Calls Try.prog 51 #[.int .u8 (c : Int)] w fun e w' => e = .returned (.bool (smallB c)) ∧ w = w' := by
  have hways : c < 97 ∨ (97 ≤ c ∧ c ≤ 122) ∨ 122 < c := by omega
  rcases hways with g0 | ⟨g0, g1⟩ | g0
  all_goals
    go_enter Try.func51, Try.ntmps51
    go_wp2
    all_goals
      go_ret
      refine ⟨ret_bool ?_, rfl⟩
      unfold smallB
      rw [Bool.eq_iff_iff]; simp only [Bool.or_eq_true, Bool.and_eq_true, beq_iff_eq, bne_iff_ne, ne_eq, Bool.not_eq_true', decide_eq_true_eq, decide_eq_false_iff_not, Bool.false_eq_true, true_iff, false_iff, iff_true, iff_false]; omega

theorem lx_inner (c : Nat) (w : World) (hc : c < 256) :
    Calls Try.prog 49 #[.int .u8 (c : Int)] w fun e w' => e = .returned (.bool (innerB c)) ∧ w = w' := by
  have h1 := lx_letter c w hc
  cases hl : letterB c
  all_goals
    rw [hl] at h1
    have H1 := Lib.hid h1
    have Hl := Lib.hid hl
    clear h1 hl
    have hways : (c < 46 ∧ ((c : Int) == 46) = false) ∨ ((c : Int) == 46) = true ∨ (46 < c ∧ c < 48 ∧ ((c : Int) == 46) = false) ∨ (48 ≤ c ∧ c ≤ 57 ∧ ((c : Int) == 46) = false) ∨ (57 < c ∧ ((c : Int) == 46) = false) := by
      simp only [beq_iff_eq, beq_eq_false_iff_ne, ne_eq]
      omega
    rcases hways with ⟨g, g0⟩ | g0 | ⟨g, g1, g0⟩ | ⟨g, g1, g0⟩ | ⟨g, g0⟩
    all_goals
      go_enter Try.func49, Try.ntmps49
      go_wp2_with (go_at_call 47; (with_reducible refine H1.out.mono ?_); rintro e w' ⟨rfl, rfl⟩)
      all_goals
        go_ret
        refine ⟨ret_bool ?_, rfl⟩
        unfold innerB
        rw [Hl.out]
        try simp only [beq_iff_eq, beq_eq_false_iff_ne, ne_eq] at g0
        try simp only [Bool.true_or, Bool.false_or]
        all_goals first
        | rfl
        | (rw [Bool.eq_iff_iff]; simp only [Bool.or_eq_true, Bool.and_eq_true, beq_iff_eq, bne_iff_ne, ne_eq, Bool.not_eq_true', decide_eq_true_eq, decide_eq_false_iff_not, Bool.false_eq_true, true_iff, false_iff, iff_true, iff_false]; omega)

theorem lx_later (c : Nat) (w : World) (hc : c < 256) :
    Calls Try.prog 34 #[.int .u8 (c : Int)] w fun e w' => e = .returned (.bool (innerB c)) ∧ w = w' := by
  have h1 := lx_first c w hc
  cases hl : letterB c
  all_goals
    rw [hl] at h1
    have H1 := Lib.hid h1
    have Hl := Lib.hid hl
    clear h1 hl
    have hways : (c < 46 ∧ ((c : Int) == 46) = false) ∨ ((c : Int) == 46) = true ∨ (46 < c ∧ c < 48 ∧ ((c : Int) == 46) = false) ∨ (48 ≤ c ∧ c ≤ 57 ∧ ((c : Int) == 46) = false) ∨ (57 < c ∧ ((c : Int) == 46) = false) := by
      simp only [beq_iff_eq, beq_eq_false_iff_ne, ne_eq]
      omega
    rcases hways with ⟨g, g0⟩ | g0 | ⟨g, g1, g0⟩ | ⟨g, g1, g0⟩ | ⟨g, g0⟩
    all_goals
      go_enter Try.func34, Try.ntmps34
      go_wp2_with (go_at_call 33; (with_reducible refine H1.out.mono ?_); rintro e w' ⟨rfl, rfl⟩)
      all_goals
        go_ret
        refine ⟨ret_bool ?_, rfl⟩
        unfold innerB
        rw [Hl.out]
        try simp only [beq_iff_eq, beq_eq_false_iff_ne, ne_eq] at g0
        try simp only [Bool.true_or, Bool.false_or]
        all_goals first
        | rfl
        | (rw [Bool.eq_iff_iff]; simp only [Bool.or_eq_true, Bool.and_eq_true, beq_iff_eq, bne_iff_ne, ne_eq, Bool.not_eq_true', decide_eq_true_eq, decide_eq_false_iff_not, Bool.false_eq_true, true_iff, false_iff, iff_true, iff_false]; omega)

end Go.Proofs.Ytdeiipbnaknedaa
