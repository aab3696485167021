/- the reference's reading: one token: a name. -/
import Derived.Test.YtdeiipbnaknedaaYQ27
import Derived.Deep.RegionWith
namespace Go.Proofs.Ytdeiipbnaknedaa
open Go.RowKit
set_option linter.unusedVariables false
set_option linter.unusedSimpArgs false

set_option maxRecDepth 100000 in
set_option maxHeartbeats 2000000 in
theorem rf_one_name (A : Option Addr) (n c i f : Nat) (xs : List Nat) (w : World) (h : Nums .u8 w A n c xs) (hb : ∀ x ∈ xs, x < 256) (hn : n ≤ 100000) (hi : i < n) (h1 : letterB (xs.getD i 0) = true) (hf1 : i < f) (hf2 : f ≤ n) (hf3 : f ≤ i + 20)
    (hin : ∀ k, i < k → k < f → innerB (xs.getD k 0) = true) (hout : f < n → innerB (xs.getD f 0) = false) :
    Calls Try.prog 14 #[.slice A n c, .int .i64 (i : Int)] w fun e w' => e = .returned (.tuple #[TkV 1 ((xs.drop i).take (f - i)) (atP xs i), .int .i64 (f : Int), .int .i64 0]) ∧ Below w.heap.size w w' := by
  obtain rfl := h.len
  have hcap := h.cap
  obtain ⟨b, off, x, rfl, hbl, Hx, hc⟩ := h.get hi
  have hx : xs.getD i 0 = x := by rw [List.getD_eq_getElem?_getD, Hx.out]; rfl
  rw [hx] at h1
  have H := Lib.hid h
  have CT := Lib.hid fun W (hW : Below w.heap.size w W) => ref_at (some ⟨b, off, none⟩) xs.length c xs (i : Int) W (h.below hW) hn
  have hx256 : x < 256 := hb x (List.mem_of_getElem? Hx.out)
  have CF := Lib.hid fun W => lx_first x W hx256
  rw [h1] at CF
  obtain ⟨ca, cb, hat⟩ : ∃ a b, atP xs (i : Int) = .complex .f64 a b := by
    unfold atP PV
    split
    · exact ⟨_, _, rfl⟩
    · exact ⟨_, _, rfl⟩
  rw [hat] at CT ⊢
  have Hb := Lib.hid hb
  have Hin := Lib.hid hin
  have Hout := Lib.hid hout
  clear h hb h1 hx hat hin hout
  have hB1 := alloc_below w (.cells #[.int .i64 0, .string ⟨#[]⟩, .complex .f64 0 0] 38)
  have ksc : ∀ (w : World) (a : Addr) (k : FloatKind) (x y : Nat) (m : Mode), (store a (.complex k x y) m).run Try.prog w = stored Try.prog w a (.complex k x y) m := fun w a k x y m => run_store Try.prog w a _ m rfl
  go_enter Try.func14, Try.ntmps14
  go_wp2_with (first
    | (go_at_call 13; (with_reducible refine (CT.out _ hB1).mono ?_); rintro e w2 ⟨rfl, rfl⟩)
    | (go_at_call 33; (with_reducible refine (CF.out _).mono ?_); rintro e w3 ⟨rfl, rfl⟩))
  go_loop [9] (fun v => ∃ (k : Nat), i < k ∧ k ≤ f ∧ v = .int .i64 (k : Int)) (fun v => xs.length - (intOf v).toNat)
  case atStart => exact ⟨i + 1, by omega, by omega, by go_num⟩
  case round =>
    obtain ⟨k, hk1, hk2, rfl⟩ := hrel
    by_cases hkf : k < f
    · obtain ⟨b2, off2, y, e2, _, Hy, hcy⟩ := H.out.get (j := k) (by omega)
      injection e2 with e2
      injection e2 with e2 e3
      subst e2 e3
      have hy : xs.getD k 0 = y := by rw [List.getD_eq_getElem?_getD, Hy.out]; rfl
      have hl := Hin.out k hk1 hkf
      rw [hy] at hl
      have CL := Lib.hid fun W => lx_later y W (Hb.out y (List.mem_of_getElem? Hy.out))
      rw [hl] at CL
      have hkn : k < xs.length := by omega
      clear hl hy
      go_wp2_with (go_at_call 34; (with_reducible refine (CL.out _).mono ?_); rintro e w3 ⟨rfl, rfl⟩)
      go_round
      case rel => exact ⟨k + 1, by omega, by omega, by go_num⟩
      case measure => simp [intOf]; omega
    · obtain rfl : k = f := by omega
      by_cases hkn : k < xs.length
      · obtain ⟨b2, off2, y, e2, _, Hy, hcy⟩ := H.out.get (j := k) hkn
        injection e2 with e2
        injection e2 with e2 e3
        subst e2 e3
        have hy : xs.getD k 0 = y := by rw [List.getD_eq_getElem?_getD, Hy.out]; rfl
        have hl := Hout.out hkn
        rw [hy] at hl
        have CL := Lib.hid fun W => lx_later y W (Hb.out y (List.mem_of_getElem? Hy.out))
        rw [hl] at CL
        clear hl hy
        go_wp2_with (go_at_call 34; (with_reducible refine (CL.out _).mono ?_); rintro e w3 ⟨rfl, rfl⟩)
        have hcv : ∀ W, Below w.heap.size w W → (convert 22 9 (.slice (some ⟨b, off + i, none⟩) (k - i) (c - i))).run Try.prog W = .ok (.string (str ((xs.drop i).take (k - i)))) W := fun W hW => by
          have hp := (H.out.below hW).part i (k - i) (c - i) (by omega) (by omega) (by omega)
          have hl : ((xs.drop i).take (k - i)).length = k - i := by rw [List.length_take, List.length_drop]; omega
          have := run_bytes_str (P := Try.prog) W 22 5 9 Try.underlying22 Try.underlying5 Try.underlying9 (some ⟨b, off + i, none⟩) (c - i) _ (by rw [hl]; exact hp)
          rwa [hl] at this
        have hv1 := hcv _ (below_alloc hB1 (.cells #[.int .i64 0, .string ⟨#[]⟩, .complex .f64 ca cb] 38))
        have hv2 := hcv _ (below_alloc hB1 (.cells #[.int .i64 0, .string ⟨#[]⟩, .complex .f64 ca cb] 38)).drew
        have hv3 := hcv _ (below_alloc hB1 (.cells #[.int .i64 1, .string ⟨#[]⟩, .complex .f64 ca cb] 38))
        have hv4 := hcv _ (below_alloc hB1 (.cells #[.int .i64 1, .string ⟨#[]⟩, .complex .f64 ca cb] 38)).drew
        generalize htx : str ((xs.drop i).take (k - i)) = tx at *
        have Htx := Lib.hid htx
        clear hcv htx
        go_region_with (fail)
        all_goals
          go_wp2_with fail
          refine bodyPost_ret (results_cell2 (p := 4) (u := 5) (v := 6) (by kernel_rfl) _ _ w.heap.size 38 #[.int .i64 1, .string tx, .complex .f64 ca cb] (0, 0) _ rfl (Blk.drew (Blk.ext (Blk.new w _ _) (alloc_below _ _))) Try.underlying38 rfl (by kernel_rfl)) rfl ?_
          exact ⟨by unfold TkV; rw [Htx.out]; rfl, (below_alloc (alloc_below _ _) _).drew⟩
      · go_wp2_with fail
        have hcv : ∀ W, Below w.heap.size w W → (convert 22 9 (.slice (some ⟨b, off + i, none⟩) (k - i) (c - i))).run Try.prog W = .ok (.string (str ((xs.drop i).take (k - i)))) W := fun W hW => by
          have hp := (H.out.below hW).part i (k - i) (c - i) (by omega) (by omega) (by omega)
          have hl : ((xs.drop i).take (k - i)).length = k - i := by rw [List.length_take, List.length_drop]; omega
          have := run_bytes_str (P := Try.prog) W 22 5 9 Try.underlying22 Try.underlying5 Try.underlying9 (some ⟨b, off + i, none⟩) (c - i) _ (by rw [hl]; exact hp)
          rwa [hl] at this
        have hv1 := hcv _ (below_alloc hB1 (.cells #[.int .i64 0, .string ⟨#[]⟩, .complex .f64 ca cb] 38))
        have hv2 := hcv _ (below_alloc hB1 (.cells #[.int .i64 0, .string ⟨#[]⟩, .complex .f64 ca cb] 38)).drew
        have hv3 := hcv _ (below_alloc hB1 (.cells #[.int .i64 1, .string ⟨#[]⟩, .complex .f64 ca cb] 38))
        have hv4 := hcv _ (below_alloc hB1 (.cells #[.int .i64 1, .string ⟨#[]⟩, .complex .f64 ca cb] 38)).drew
        generalize htx : str ((xs.drop i).take (k - i)) = tx at *
        have Htx := Lib.hid htx
        clear hcv htx
        go_region_with (fail)
        all_goals
          go_wp2_with fail
          refine bodyPost_ret (results_cell2 (p := 4) (u := 5) (v := 6) (by kernel_rfl) _ _ w.heap.size 38 #[.int .i64 1, .string tx, .complex .f64 ca cb] (0, 0) _ rfl (Blk.drew (Blk.ext (Blk.new w _ _) (alloc_below _ _))) Try.underlying38 rfl (by kernel_rfl)) rfl ?_
          exact ⟨by unfold TkV; rw [Htx.out]; rfl, (below_alloc (alloc_below _ _) _).drew⟩
end Go.Proofs.Ytdeiipbnaknedaa
/- the reference's reading: one token: a word behind a percent sign. -/
namespace Go.Proofs.Ytdeiipbnaknedaa
open Go.RowKit
set_option linter.unusedVariables false
set_option linter.unusedSimpArgs false

/-- the kind of a word behind a percent sign -/
def percentP (xs : List Nat) : Int :=
  if xs = [116, 111, 107, 101, 110] then 3 else if xs = [108, 101, 102, 116] then 4 else if xs = [114, 105, 103, 104, 116] then 5 else if xs = [110, 111, 110, 97, 115, 115, 111, 99] then 6
  else if xs = [115, 116, 97, 114, 116] then 7 else if xs = [112, 114, 101, 99] then 8 else 0
theorem str_eqB {xs pat : List Nat} (hx : ∀ x ∈ xs, x < 256) (hp : ∀ x ∈ pat, x < 256) : ((str xs).toList == (str pat).toList) = decide (xs = pat) := by
  rw [Bool.eq_iff_iff, beq_iff_eq, decide_eq_true_iff]
  constructor
  · intro h
    have h2 : str xs = str pat := by
      have := toList_beq (str xs) (str pat)
      rw [h, beq_self_eq_true] at this
      simpa using this.symm
    have h3 := congrArg bytesOf h2
    rwa [bytesOf_str _ hx, bytesOf_str _ hp] at h3
  · intro h; rw [h]

set_option maxRecDepth 20000 in
set_option maxHeartbeats 1000000 in
theorem rf_percent (xs : List Nat) (w : World) (hx : ∀ x ∈ xs, x < 256) : Calls Try.prog 37 #[.string (str xs)] w fun e w' => e = .returned (.int .i64 (percentP xs)) ∧ w = w' := by
  have h1 := str_eqB hx (pat := [116, 111, 107, 101, 110]) (by decide)
  have h2 := str_eqB hx (pat := [108, 101, 102, 116]) (by decide)
  have h3 := str_eqB hx (pat := [114, 105, 103, 104, 116]) (by decide)
  have h4 := str_eqB hx (pat := [110, 111, 110, 97, 115, 115, 111, 99]) (by decide)
  have h5 := str_eqB hx (pat := [115, 116, 97, 114, 116]) (by decide)
  have h6 := str_eqB hx (pat := [112, 114, 101, 99]) (by decide)
  have e1 : (str [116, 111, 107, 101, 110]).toList = [116, 111, 107, 101, 110] := by kernel_rfl
  have e2 : (str [108, 101, 102, 116]).toList = [108, 101, 102, 116] := by kernel_rfl
  have e3 : (str [114, 105, 103, 104, 116]).toList = [114, 105, 103, 104, 116] := by kernel_rfl
  have e4 : (str [110, 111, 110, 97, 115, 115, 111, 99]).toList = [110, 111, 110, 97, 115, 115, 111, 99] := by kernel_rfl
  have e5 : (str [115, 116, 97, 114, 116]).toList = [115, 116, 97, 114, 116] := by kernel_rfl
  have e6 : (str [112, 114, 101, 99]).toList = [112, 114, 101, 99] := by kernel_rfl
  rw [e1] at h1
  rw [e2] at h2
  rw [e3] at h3
  rw [e4] at h4
  rw [e5] at h5
  rw [e6] at h6
  have Hf : Hid (percentP xs = if xs = [116, 111, 107, 101, 110] then 3 else if xs = [108, 101, 102, 116] then 4 else if xs = [114, 105, 103, 104, 116] then 5 else if xs = [110, 111, 110, 97, 115, 115, 111, 99] then 6 else if xs = [115, 116, 97, 114, 116] then 7 else if xs = [112, 114, 101, 99] then 8 else 0) := Lib.hid rfl
  generalize percentP xs = r at *
  clear e1 e2 e3 e4 e5 e6 hx
  generalize (str xs) = sx at *
  rcases (by
    by_cases g1 : xs = [116, 111, 107, 101, 110]
    · exact .inl ⟨decide_eq_true g1, by rw [Hf.out, if_pos g1]⟩
    by_cases g2 : xs = [108, 101, 102, 116]
    · exact .inr (.inl ⟨decide_eq_false g1, decide_eq_true g2, by rw [Hf.out, if_neg g1, if_pos g2]⟩)
    by_cases g3 : xs = [114, 105, 103, 104, 116]
    · exact .inr (.inr (.inl ⟨decide_eq_false g1, decide_eq_false g2, decide_eq_true g3, by rw [Hf.out, if_neg g1, if_neg g2, if_pos g3]⟩))
    by_cases g4 : xs = [110, 111, 110, 97, 115, 115, 111, 99]
    · exact .inr (.inr (.inr (.inl ⟨decide_eq_false g1, decide_eq_false g2, decide_eq_false g3, decide_eq_true g4, by rw [Hf.out, if_neg g1, if_neg g2, if_neg g3, if_pos g4]⟩)))
    by_cases g5 : xs = [115, 116, 97, 114, 116]
    · exact .inr (.inr (.inr (.inr (.inl ⟨decide_eq_false g1, decide_eq_false g2, decide_eq_false g3, decide_eq_false g4, decide_eq_true g5, by rw [Hf.out, if_neg g1, if_neg g2, if_neg g3, if_neg g4, if_pos g5]⟩))))
    by_cases g6 : xs = [112, 114, 101, 99]
    · exact .inr (.inr (.inr (.inr (.inr (.inl ⟨decide_eq_false g1, decide_eq_false g2, decide_eq_false g3, decide_eq_false g4, decide_eq_false g5, decide_eq_true g6, by rw [Hf.out, if_neg g1, if_neg g2, if_neg g3, if_neg g4, if_neg g5, if_pos g6]⟩)))))
    · exact .inr (.inr (.inr (.inr (.inr (.inr ⟨decide_eq_false g1, decide_eq_false g2, decide_eq_false g3, decide_eq_false g4, decide_eq_false g5, decide_eq_false g6, by rw [Hf.out, if_neg g1, if_neg g2, if_neg g3, if_neg g4, if_neg g5, if_neg g6]⟩))))) :
    (decide (xs = [116, 111, 107, 101, 110]) = true ∧ r = 3) ∨ (decide (xs = [116, 111, 107, 101, 110]) = false ∧ decide (xs = [108, 101, 102, 116]) = true ∧ r = 4) ∨
    (decide (xs = [116, 111, 107, 101, 110]) = false ∧ decide (xs = [108, 101, 102, 116]) = false ∧ decide (xs = [114, 105, 103, 104, 116]) = true ∧ r = 5) ∨
    (decide (xs = [116, 111, 107, 101, 110]) = false ∧ decide (xs = [108, 101, 102, 116]) = false ∧ decide (xs = [114, 105, 103, 104, 116]) = false ∧ decide (xs = [110, 111, 110, 97, 115, 115, 111, 99]) = true ∧ r = 6) ∨
    (decide (xs = [116, 111, 107, 101, 110]) = false ∧ decide (xs = [108, 101, 102, 116]) = false ∧ decide (xs = [114, 105, 103, 104, 116]) = false ∧ decide (xs = [110, 111, 110, 97, 115, 115, 111, 99]) = false ∧ decide (xs = [115, 116, 97, 114, 116]) = true ∧ r = 7) ∨
    (decide (xs = [116, 111, 107, 101, 110]) = false ∧ decide (xs = [108, 101, 102, 116]) = false ∧ decide (xs = [114, 105, 103, 104, 116]) = false ∧ decide (xs = [110, 111, 110, 97, 115, 115, 111, 99]) = false ∧ decide (xs = [115, 116, 97, 114, 116]) = false ∧ decide (xs = [112, 114, 101, 99]) = true ∧ r = 8) ∨
    (decide (xs = [116, 111, 107, 101, 110]) = false ∧ decide (xs = [108, 101, 102, 116]) = false ∧ decide (xs = [114, 105, 103, 104, 116]) = false ∧ decide (xs = [110, 111, 110, 97, 115, 115, 111, 99]) = false ∧ decide (xs = [115, 116, 97, 114, 116]) = false ∧ decide (xs = [112, 114, 101, 99]) = false ∧ r = 0)) with
    ⟨k1, rfl⟩ | ⟨k1, k2, rfl⟩ | ⟨k1, k2, k3, rfl⟩ | ⟨k1, k2, k3, k4, rfl⟩ | ⟨k1, k2, k3, k4, k5, rfl⟩ | ⟨k1, k2, k3, k4, k5, k6, rfl⟩ | ⟨k1, k2, k3, k4, k5, k6, rfl⟩
  all_goals
    (try rw [k1] at h1) <;> (try rw [k2] at h2) <;> (try rw [k3] at h3) <;> (try rw [k4] at h4) <;> (try rw [k5] at h5) <;> (try rw [k6] at h6)
    clear Hf
    go_enter Try.func37, Try.ntmps37
    go_wp2_with fail
    go_ret
    exact ⟨rfl, rfl⟩

def lowerB (x : Nat) : Bool := decide (97 ≤ x) && decide (x ≤ 122)
theorem lowerB_yes {x : Nat} (h : lowerB x = true) : 97 ≤ x ∧ x ≤ 122 := by
  unfold lowerB at h
  rw [Bool.and_eq_true, decide_eq_true_iff, decide_eq_true_iff] at h
  exact h
theorem lowerB_no {x : Nat} (h : lowerB x = false) : x < 97 ∨ (97 ≤ x ∧ 122 < x) := by
  unfold lowerB at h
  rw [Bool.and_eq_false_iff, decide_eq_false_iff_not, decide_eq_false_iff_not] at h
  omega
set_option maxRecDepth 100000 in
set_option maxHeartbeats 4000000 in
theorem rf_one_word (A : Option Addr) (n c i f : Nat) (xs : List Nat) (w : World) (h : Nums .u8 w A n c xs) (hb : ∀ x ∈ xs, x < 256) (hn : n ≤ 100000) (hi : i < n) (h2 : xs.getD i 0 = 37) (h3 : hasP xs i [37, 37] = false) (hf1 : i < f) (hf2 : f ≤ n)
    (hin : ∀ k, i < k → k < f → lowerB (xs.getD k 0) = true) (hout : f < n → lowerB (xs.getD f 0) = false) (hk : percentP ((xs.drop (i + 1)).take (f - (i + 1))) ≠ 0) :
    Calls Try.prog 14 #[.slice A n c, .int .i64 (i : Int)] w fun e w' => e = .returned (.tuple #[TkV (percentP ((xs.drop (i + 1)).take (f - (i + 1)))) [] (atP xs i), .int .i64 (f : Int), .int .i64 0]) ∧ Below w.heap.size w w' := by
  obtain rfl := h.len
  have hcap := h.cap
  obtain ⟨b, off, x, rfl, hbl, Hx, hc⟩ := h.get hi
  have hx : xs.getD i 0 = x := by rw [List.getD_eq_getElem?_getD, Hx.out]; rfl
  rw [hx] at h2
  have H := Lib.hid h
  have CT := Lib.hid fun W (hW : Below w.heap.size w W) => ref_at (some ⟨b, off, none⟩) xs.length c xs (i : Int) W (h.below hW) hn
  have CH := Lib.hid fun W (hW : Below w.heap.size w W) => (rf_has7 (some ⟨b, off, none⟩) xs.length c i xs [37, 37] W (h.below hW) hb (by decide) hn (by omega) (by decide))
  rw [h3, show str [37, 37] = ⟨#[37, 37]⟩ from rfl] at CH
  have hx256 : x < 256 := by omega
  have CF := Lib.hid fun W => lx_first x W hx256
  rw [show letterB x = false by rw [h2]; rfl] at CF
  have d2 : ((x : Int) == 39) = false := by rw [beq_eq_false_iff_ne]; omega
  have d4 : ((x : Int) == 37) = true := by rw [beq_iff_eq]; omega
  obtain ⟨ca, cb, hat⟩ : ∃ a b, atP xs (i : Int) = .complex .f64 a b := by
    unfold atP PV
    split
    · exact ⟨_, _, rfl⟩
    · exact ⟨_, _, rfl⟩
  rw [hat] at CT ⊢
  have hsub : ∀ y ∈ (xs.drop (i + 1)).take (f - (i + 1)), y < 256 := fun y hy => hb y (List.mem_of_mem_drop (List.mem_of_mem_take hy))
  have CP := Lib.hid fun W => rf_percent ((xs.drop (i + 1)).take (f - (i + 1))) W hsub
  obtain ⟨At, hsl, hAt⟩ : ∃ At : Option Addr, (∀ W : World, (Instr.sliceAt 22 (.slice (some ⟨b, off, none⟩) xs.length c) (some (.int .i64 ((i : Int) + 1))) (some (.int .i64 (f : Int))) none).run Try.prog W = .ok (.slice At (f - (i + 1)) (c - (i + 1))) W) ∧
      ∀ W, Below w.heap.size w W → Nums .u8 W At (f - (i + 1)) (c - (i + 1)) ((xs.drop (i + 1)).take (f - (i + 1))) := by
    refine ⟨if c = i + 1 then some ⟨b, off, none⟩ else some ⟨b, off + (i + 1), none⟩, fun W => ?_, fun W hW => ?_⟩
    · have h1 : ¬ ((f : Int) < (i : Int) + 1) := by omega
      have h2 : ¬ ((c : Int) < (f : Int)) := by omega
      have h3 : ((i : Int) + 1).toNat = i + 1 := by omega
      go_simp
      rw [if_pos (by omega), if_pos (by omega)]
    · by_cases hci : c = i + 1
      · have hz : f - (i + 1) = 0 := by omega
        rw [if_pos hci, hz, List.take_zero]
        exact Nums.nil _ _ _ _ (by omega)
      · rw [if_neg hci]
        exact (h.below hW).part (i + 1) (f - (i + 1)) (c - (i + 1)) (by omega) (by omega) (by omega)
  have hcv : ∀ W, Below w.heap.size w W → (convert 22 9 (.slice At (f - (i + 1)) (c - (i + 1)))).run Try.prog W = .ok (.string (str ((xs.drop (i + 1)).take (f - (i + 1))))) W := fun W hW => by
    have hl : ((xs.drop (i + 1)).take (f - (i + 1))).length = f - (i + 1) := by rw [List.length_take, List.length_drop]; omega
    have := run_bytes_str (P := Try.prog) W 22 5 9 Try.underlying22 Try.underlying5 Try.underlying9 At (c - (i + 1)) _ (by rw [hl]; exact hAt W hW)
    rwa [hl] at this
  clear hAt
  have d5 : (percentP ((xs.drop (i + 1)).take (f - (i + 1))) == 0) = false := by rw [beq_eq_false_iff_ne]; exact hk
  generalize percentP ((xs.drop (i + 1)).take (f - (i + 1))) = mk at *
  generalize str ((xs.drop (i + 1)).take (f - (i + 1))) = tx at *
  have Hb := Lib.hid hb
  have Hin := Lib.hid hin
  have Hout := Lib.hid hout
  have Hcv := Lib.hid hcv
  clear h hb h2 h3 hx hat hin hout hsub hk hcv
  have hB1 := alloc_below w (.cells #[.int .i64 0, .string ⟨#[]⟩, .complex .f64 0 0] 38)
  have ksc : ∀ (w : World) (a : Addr) (k : FloatKind) (x y : Nat) (m : Mode), (store a (.complex k x y) m).run Try.prog w = stored Try.prog w a (.complex k x y) m := fun w a k x y m => run_store Try.prog w a _ m rfl
  go_enter Try.func14, Try.ntmps14
  go_wp2_with (first
    | (go_at_call 13; (with_reducible refine (CT.out _ hB1).mono ?_); rintro e w2 ⟨rfl, rfl⟩)
    | (go_at_call 33; (with_reducible refine (CF.out _).mono ?_); rintro e w3 ⟨rfl, rfl⟩)
    | (go_at_call 28; (with_reducible refine (CH.out _ (below_alloc hB1 _)).mono ?_); rintro e w4 ⟨rfl, rfl⟩))
  go_loop [9] (fun v => ∃ (k : Nat), i < k ∧ k ≤ f ∧ v = .int .i64 (k : Int)) (fun v => xs.length - (intOf v).toNat)
  case atStart => exact ⟨i + 1, by omega, by omega, by go_num⟩
  case round =>
    obtain ⟨k, hk1, hk2, rfl⟩ := hrel
    by_cases hkf : k < f
    · obtain ⟨b2, off2, y, e2, _, Hy, hcy⟩ := H.out.get (j := k) (by omega)
      injection e2 with e2
      injection e2 with e2 e3
      subst e2 e3
      have hy : xs.getD k 0 = y := by rw [List.getD_eq_getElem?_getD, Hy.out]; rfl
      have hl := Hin.out k hk1 hkf
      rw [hy] at hl
      obtain ⟨y1, y2⟩ := lowerB_yes hl
      have q1 : (97 : Int) ≤ (y : Int) := by omega
      have q2 : (y : Int) ≤ 122 := by omega
      have hkn : k < xs.length := by omega
      clear hl hy
      go_wp2_with fail
      go_round
      case rel => exact ⟨k + 1, by omega, by omega, by go_num⟩
      case measure => simp [intOf]; omega
    · obtain rfl : k = f := by omega
      have hX := Hcv.out _ (below_alloc hB1 (.cells #[.int .i64 0, .string ⟨#[]⟩, .complex .f64 ca cb] 38))
      by_cases hkn : k < xs.length
      · obtain ⟨b2, off2, y, e2, _, Hy, hcy⟩ := H.out.get (j := k) hkn
        injection e2 with e2
        injection e2 with e2 e3
        subst e2 e3
        have hy : xs.getD k 0 = y := by rw [List.getD_eq_getElem?_getD, Hy.out]; rfl
        have hl := Hout.out hkn
        rw [hy] at hl
        rcases lowerB_no hl with y1 | ⟨y1, y2⟩
        · have q1 : ¬ ((97 : Int) ≤ (y : Int)) := by omega
          clear hl hy
          go_wp2_with (go_at_call 37; (with_reducible refine (CP.out _).mono ?_); rintro e w3 ⟨rfl, rfl⟩)
          refine bodyPost_ret (results_cell2 (p := 4) (u := 5) (v := 6) (by kernel_rfl) _ _ w.heap.size 38 #[.int .i64 mk, .string ⟨#[]⟩, .complex .f64 ca cb] (0, 0) _ rfl (Blk.ext (Blk.new w _ _) (alloc_below _ _)) Try.underlying38 rfl (by kernel_rfl)) rfl ?_
          exact ⟨rfl, below_alloc (alloc_below _ _) _⟩
        · have q1 : (97 : Int) ≤ (y : Int) := by omega
          have q2 : ¬ ((y : Int) ≤ 122) := by omega
          clear hl hy
          go_wp2_with (go_at_call 37; (with_reducible refine (CP.out _).mono ?_); rintro e w3 ⟨rfl, rfl⟩)
          refine bodyPost_ret (results_cell2 (p := 4) (u := 5) (v := 6) (by kernel_rfl) _ _ w.heap.size 38 #[.int .i64 mk, .string ⟨#[]⟩, .complex .f64 ca cb] (0, 0) _ rfl (Blk.ext (Blk.new w _ _) (alloc_below _ _)) Try.underlying38 rfl (by kernel_rfl)) rfl ?_
          exact ⟨rfl, below_alloc (alloc_below _ _) _⟩
      · go_wp2_with (go_at_call 37; (with_reducible refine (CP.out _).mono ?_); rintro e w3 ⟨rfl, rfl⟩)
        refine bodyPost_ret (results_cell2 (p := 4) (u := 5) (v := 6) (by kernel_rfl) _ _ w.heap.size 38 #[.int .i64 mk, .string ⟨#[]⟩, .complex .f64 ca cb] (0, 0) _ rfl (Blk.ext (Blk.new w _ _) (alloc_below _ _)) Try.underlying38 rfl (by kernel_rfl)) rfl ?_
        exact ⟨rfl, below_alloc (alloc_below _ _) _⟩
end Go.Proofs.Ytdeiipbnaknedaa
