/- the reference's tokens: skip. -/
import Derived.Test.YtdeiipbnaknedaaYQ29
namespace Go.Proofs.Ytdeiipbnaknedaa
open Go.RowKit
set_option linter.unusedVariables false
set_option linter.unusedSimpArgs false

theorem blank_ways (x : Nat) : x = 32 ∨ x = 9 ∨ x = 10 ∨ x = 13 ∨ (((x : Int) == 32) = false ∧ ((x : Int) == 9) = false ∧ ((x : Int) == 10) = false ∧ ((x : Int) == 13) = false ∧ ¬ (x = 32 ∨ x = 9 ∨ x = 10 ∨ x = 13)) := by
  by_cases g1 : x = 32
  · exact .inl g1
  by_cases g2 : x = 9
  · exact .inr (.inl g2)
  by_cases g3 : x = 10
  · exact .inr (.inr (.inl g3))
  by_cases g4 : x = 13
  · exact .inr (.inr (.inr (.inl g4)))
  refine .inr (.inr (.inr (.inr ⟨?_, ?_, ?_, ?_, by omega⟩))) <;> (rw [beq_eq_false_iff_ne]; omega)
set_option maxRecDepth 20000 in
set_option maxHeartbeats 2000000 in
theorem rf_skip (A : Option Addr) (n c i : Nat) (xs : List Nat) (w : World) (h : Nums .u8 w A n c xs) (hb : ∀ x ∈ xs, x < 256) (hn : n ≤ 100000) (hi : i < n) :
    Calls Try.prog 12 #[.slice A n c, .int .i64 (i : Int)] w fun e w' => e = .returned (.tuple #[.int .i64 (skipI xs i), .bool (skipN (xs.drop i)).2]) ∧ w = w' := by
  obtain rfl := h.len
  have hcap := h.cap
  have C1 := Lib.hid (rf_has7 A xs.length c i xs [47, 42] w h hb (by decide) hn (by omega) (by decide))
  have C2 := Lib.hid (rf_has7 A xs.length c i xs [47, 47] w h hb (by decide) hn (by omega) (by decide))
  have C3 := Lib.hid (rf_has7 A xs.length c i xs [37, 123] w h hb (by decide) hn (by omega) (by decide))
  rw [show str [47, 42] = ⟨#[47, 42]⟩ from rfl] at C1
  rw [show str [47, 47] = ⟨#[47, 47]⟩ from rfl] at C2
  rw [show str [37, 123] = ⟨#[37, 123]⟩ from rfl] at C3
  rw [hasP_pre _ (by omega)] at C1 C2 C3
  obtain ⟨b, off, x, rfl, hbl, Hx, hc⟩ := h.get hi
  have hx : xs.getD i 0 = x := by rw [List.getD_eq_getElem?_getD, Hx.out]; rfl
  have hS : Hid (skipN (xs.drop i) = if x = 32 ∨ x = 9 ∨ x = 10 ∨ x = 13 then (1, true)
    else if [47, 42].isPrefixOf (xs.drop i) then (thrN (xs.drop i) 2 [42, 47], true)
    else if [47, 47].isPrefixOf (xs.drop i) then (lineN (xs.drop i), true)
    else if [37, 123].isPrefixOf (xs.drop i) then (thrN (xs.drop i) 2 [37, 125], true)
    else if x = 60 then (thrN ((xs.drop i).take (lineN (xs.drop i))) 1 [62], true)
    else if x = 123 then (actN (xs.drop i), true)
    else (0, false)) := Lib.hid (by
      unfold skipN
      rw [getD_drop, Nat.add_zero, hx])
  have H := Lib.hid h
  have Hb := Lib.hid hb
  have HX := Lib.hid hx
  have hlen : (xs.drop i).length = xs.length - i := List.length_drop ..
  clear h hb hx
  rcases blank_ways x with rfl | rfl | rfl | rfl | ⟨g1, g2, g3, g4, g5⟩
  · have hR : skipI xs i = ((i + 1 : Nat) : Int) ∧ (skipN (xs.drop i)).2 = true := by unfold skipI; rw [hS.out]; exact ⟨rfl, rfl⟩
    rw [hR.1, hR.2]
    clear hR hS
    go_enter Try.func12, Try.ntmps12
    go_wp2_with fail
    refine bodyPost_ret (results_tmp2 rfl _ _ _) rfl ?_
    exact ⟨rfl, rfl⟩
  · have hR : skipI xs i = ((i + 1 : Nat) : Int) ∧ (skipN (xs.drop i)).2 = true := by unfold skipI; rw [hS.out]; exact ⟨rfl, rfl⟩
    rw [hR.1, hR.2]
    clear hR hS
    go_enter Try.func12, Try.ntmps12
    go_wp2_with fail
    refine bodyPost_ret (results_tmp2 rfl _ _ _) rfl ?_
    exact ⟨rfl, rfl⟩
  · have hR : skipI xs i = ((i + 1 : Nat) : Int) ∧ (skipN (xs.drop i)).2 = true := by unfold skipI; rw [hS.out]; exact ⟨rfl, rfl⟩
    rw [hR.1, hR.2]
    clear hR hS
    go_enter Try.func12, Try.ntmps12
    go_wp2_with fail
    refine bodyPost_ret (results_tmp2 rfl _ _ _) rfl ?_
    exact ⟨rfl, rfl⟩
  · have hR : skipI xs i = ((i + 1 : Nat) : Int) ∧ (skipN (xs.drop i)).2 = true := by unfold skipI; rw [hS.out]; exact ⟨rfl, rfl⟩
    rw [hR.1, hR.2]
    clear hR hS
    go_enter Try.func12, Try.ntmps12
    go_wp2_with fail
    refine bodyPost_ret (results_tmp2 rfl _ _ _) rfl ?_
    exact ⟨rfl, rfl⟩
  · have S1 := hS.out
    rw [if_neg g5] at S1
    clear hS g5
    cases k1 : [47, 42].isPrefixOf (xs.drop i)
    case true =>
      rw [k1, if_pos rfl] at S1
      have h2 := prefix_two k1
      have CP := Lib.hid (rf_past (some ⟨b, off, none⟩) xs.length c (i + 2) xs [42, 47] w H.out Hb.out (by decide) (by decide) hn (by omega))
      rw [show str [42, 47] = ⟨#[42, 47]⟩ from rfl, pastI_thr xs i 2 _ (by decide)] at CP
      have hR : skipI xs i = (if thrN (xs.drop i) 2 [42, 47] = 0 then -1 else ((i + thrN (xs.drop i) 2 [42, 47] : Nat) : Int)) ∧ (skipN (xs.drop i)).2 = true := by unfold skipI; rw [S1]; exact ⟨rfl, rfl⟩
      rw [hR.1, hR.2]
      rw [k1] at C1
      generalize (if thrN (xs.drop i) 2 [42, 47] = 0 then -1 else ((i + thrN (xs.drop i) 2 [42, 47] : Nat) : Int)) = r at *
      rw [show ((i + 2 : Nat) : Int) = (i : Int) + 2 from by omega] at CP
      clear hR S1 k1 H Hb HX Hx
      go_enter Try.func12, Try.ntmps12
      go_wp2_with (first
        | (go_at_call 28; (with_reducible refine C1.out.mono ?_); rintro e w2 ⟨rfl, rfl⟩)
        | (go_at_call 29; (with_reducible refine CP.out.mono ?_); rintro e w2 ⟨rfl, rfl⟩))
      refine bodyPost_ret (results_tmp2 rfl _ _ _) rfl ?_
      exact ⟨rfl, rfl⟩
    case false =>
    rw [k1, if_neg Bool.false_ne_true] at S1
    rw [k1] at C1
    cases k2 : [47, 47].isPrefixOf (xs.drop i)
    case true =>
      rw [k2, if_pos rfl] at S1
      have CP := Lib.hid (rf_lineY (some ⟨b, off, none⟩) xs.length c i xs w H.out hn (by omega))
      have h47 : x ≠ 10 := fun h => by rw [h] at g3; exact absurd g3 (by decide)
      have hl0 : lineN (xs.drop i) ≠ 0 := by
        have := lineN_pos (xs.drop i) (by omega) (by rw [getD_drop, Nat.add_zero, HX.out]; exact h47)
        omega
      have hR : skipI xs i = ((i + lineN (xs.drop i) : Nat) : Int) ∧ (skipN (xs.drop i)).2 = true := by unfold skipI; rw [S1]; exact ⟨by simp [hl0], rfl⟩
      rw [hR.1, hR.2]
      rw [k2] at C2
      generalize i + lineN (xs.drop i) = r at *
      clear hR S1 k1 k2 H Hb HX Hx
      go_enter Try.func12, Try.ntmps12
      go_wp2_with (first
        | (go_at_call 28; (with_reducible refine C1.out.mono ?_); rintro e w2 ⟨rfl, rfl⟩)
        | (go_at_call 28; (with_reducible refine C2.out.mono ?_); rintro e w2 ⟨rfl, rfl⟩)
        | (go_at_call 30; (with_reducible refine CP.out.mono ?_); rintro e w2 ⟨rfl, rfl⟩))
      refine bodyPost_ret (results_tmp2 rfl _ _ _) rfl ?_
      exact ⟨rfl, rfl⟩
    case false =>
    rw [k2, if_neg Bool.false_ne_true] at S1
    rw [k2] at C2
    cases k3 : [37, 123].isPrefixOf (xs.drop i)
    case true =>
      rw [k3, if_pos rfl] at S1
      have h2 := prefix_two k3
      have CP := Lib.hid (rf_past (some ⟨b, off, none⟩) xs.length c (i + 2) xs [37, 125] w H.out Hb.out (by decide) (by decide) hn (by omega))
      rw [show str [37, 125] = ⟨#[37, 125]⟩ from rfl, pastI_thr xs i 2 _ (by decide)] at CP
      have hR : skipI xs i = (if thrN (xs.drop i) 2 [37, 125] = 0 then -1 else ((i + thrN (xs.drop i) 2 [37, 125] : Nat) : Int)) ∧ (skipN (xs.drop i)).2 = true := by unfold skipI; rw [S1]; exact ⟨rfl, rfl⟩
      rw [hR.1, hR.2]
      rw [k3] at C3
      generalize (if thrN (xs.drop i) 2 [37, 125] = 0 then -1 else ((i + thrN (xs.drop i) 2 [37, 125] : Nat) : Int)) = r at *
      rw [show ((i + 2 : Nat) : Int) = (i : Int) + 2 from by omega] at CP
      clear hR S1 k1 k2 k3 H Hb HX Hx
      go_enter Try.func12, Try.ntmps12
      go_wp2_with (first
        | (go_at_call 28; (with_reducible refine C1.out.mono ?_); rintro e w2 ⟨rfl, rfl⟩)
        | (go_at_call 28; (with_reducible refine C2.out.mono ?_); rintro e w2 ⟨rfl, rfl⟩)
        | (go_at_call 28; (with_reducible refine C3.out.mono ?_); rintro e w2 ⟨rfl, rfl⟩)
        | (go_at_call 29; (with_reducible refine CP.out.mono ?_); rintro e w2 ⟨rfl, rfl⟩))
      refine bodyPost_ret (results_tmp2 rfl _ _ _) rfl ?_
      exact ⟨rfl, rfl⟩
    case false =>
    rw [k3, if_neg Bool.false_ne_true] at S1
    rw [k3] at C3
    by_cases k4 : x = 60
    · rw [if_pos k4] at S1
      have hl1 := lineN_pos (xs.drop i) (by omega) (by rw [getD_drop, Nat.add_zero, HX.out]; omega)
      have hl2 := lineN_le (xs.drop i)
      have CL := Lib.hid (rf_lineY (some ⟨b, off, none⟩) xs.length c i xs w H.out hn (by omega))
      have hsub := H.out.take (i + lineN (xs.drop i)) c (by omega) (by omega) (by omega)
      have CP := Lib.hid (rf_past (some ⟨b, off, none⟩) (i + lineN (xs.drop i)) c (i + 1) (xs.take (i + lineN (xs.drop i))) [62] w hsub (fun y hy => Hb.out y (List.mem_of_mem_take hy)) (by decide) (by decide) (by omega) (by omega))
      rw [show str [62] = ⟨#[62]⟩ from rfl, pastI_thr _ i 1 _ (by decide), List.drop_take, Nat.add_sub_cancel_left] at CP
      have hR : skipI xs i = (if thrN ((xs.drop i).take (lineN (xs.drop i))) 1 [62] = 0 then -1 else ((i + thrN ((xs.drop i).take (lineN (xs.drop i))) 1 [62] : Nat) : Int)) ∧ (skipN (xs.drop i)).2 = true := by unfold skipI; rw [S1]; exact ⟨rfl, rfl⟩
      rw [hR.1, hR.2]
      generalize (if thrN ((xs.drop i).take (lineN (xs.drop i))) 1 [62] = 0 then -1 else ((i + thrN ((xs.drop i).take (lineN (xs.drop i))) 1 [62] : Nat) : Int)) = r at *
      rw [show ((i + 1 : Nat) : Int) = (i : Int) + 1 from by omega] at CP
      have q4 : ((x : Int) == 60) = true := by rw [beq_iff_eq]; omega
      have hm1 : i + lineN (xs.drop i) ≤ xs.length := by omega
      generalize i + lineN (xs.drop i) = m at *
      have s1 : (m : Int) ≤ (c : Int) := by omega
      clear hR S1 k1 k2 k3 H Hb HX Hx hsub hl1 hl2
      go_enter Try.func12, Try.ntmps12
      go_wp2_with (first
        | (go_at_call 28; (with_reducible refine C1.out.mono ?_); rintro e w2 ⟨rfl, rfl⟩)
        | (go_at_call 28; (with_reducible refine C2.out.mono ?_); rintro e w2 ⟨rfl, rfl⟩)
        | (go_at_call 28; (with_reducible refine C3.out.mono ?_); rintro e w2 ⟨rfl, rfl⟩)
        | (go_at_call 30; (with_reducible refine CL.out.mono ?_); rintro e w2 ⟨rfl, rfl⟩)
        | (go_at_call 29; (with_reducible refine CP.out.mono ?_); rintro e w2 ⟨rfl, rfl⟩))
      refine bodyPost_ret (results_tmp2 rfl _ _ _) rfl ?_
      exact ⟨rfl, rfl⟩
    rw [if_neg k4] at S1
    have q4 : ((x : Int) == 60) = false := by rw [beq_eq_false_iff_ne]; omega
    by_cases k5 : x = 123
    · rw [if_pos k5] at S1
      have CP := Lib.hid (rf_action (some ⟨b, off, none⟩) xs.length c i xs w H.out hn hi (by rw [HX.out]; exact k5))
      have hR : skipI xs i = actI xs i ∧ (skipN (xs.drop i)).2 = true := by unfold skipI actI; rw [S1]; exact ⟨rfl, rfl⟩
      rw [hR.1, hR.2]
      generalize actI xs i = r at *
      have q5 : ((x : Int) == 123) = true := by rw [beq_iff_eq]; omega
      clear hR S1 k1 k2 k3 k4 k5 H Hb HX Hx
      go_enter Try.func12, Try.ntmps12
      go_wp2_with (first
        | (go_at_call 28; (with_reducible refine C1.out.mono ?_); rintro e w2 ⟨rfl, rfl⟩)
        | (go_at_call 28; (with_reducible refine C2.out.mono ?_); rintro e w2 ⟨rfl, rfl⟩)
        | (go_at_call 28; (with_reducible refine C3.out.mono ?_); rintro e w2 ⟨rfl, rfl⟩)
        | (go_at_call 31; (with_reducible refine CP.out.mono ?_); rintro e w2 ⟨rfl, rfl⟩))
      refine bodyPost_ret (results_tmp2 rfl _ _ _) rfl ?_
      exact ⟨rfl, rfl⟩
    · rw [if_neg k5] at S1
      have hR : skipI xs i = (i : Int) ∧ (skipN (xs.drop i)).2 = false := by unfold skipI; rw [S1]; exact ⟨rfl, rfl⟩
      rw [hR.1, hR.2]
      have q5 : ((x : Int) == 123) = false := by rw [beq_eq_false_iff_ne]; omega
      clear hR S1 k1 k2 k3 k4 k5 H Hb HX Hx
      go_enter Try.func12, Try.ntmps12
      go_wp2_with (first
        | (go_at_call 28; (with_reducible refine C1.out.mono ?_); rintro e w2 ⟨rfl, rfl⟩)
        | (go_at_call 28; (with_reducible refine C2.out.mono ?_); rintro e w2 ⟨rfl, rfl⟩)
        | (go_at_call 28; (with_reducible refine C3.out.mono ?_); rintro e w2 ⟨rfl, rfl⟩))
      refine bodyPost_ret (results_tmp2 rfl _ _ _) rfl ?_
      exact ⟨rfl, rfl⟩
end Go.Proofs.Ytdeiipbnaknedaa
/- the reference's reading: one token: a literal. -/
namespace Go.Proofs.Ytdeiipbnaknedaa
open Go.RowKit
set_option linter.unusedVariables false
set_option linter.unusedSimpArgs false

set_option maxRecDepth 100000 in
set_option maxHeartbeats 2000000 in
theorem rf_one_lit (A : Option Addr) (n c i : Nat) (xs : List Nat) (w : World) (h : Nums .u8 w A n c xs) (hb : ∀ x ∈ xs, x < 256) (hn : n ≤ 100000) (hi : i + 3 ≤ n) (h2 : xs.getD i 0 = 39) (h3 : litB ((xs.drop i).take 3) = true) :
    Calls Try.prog 14 #[.slice A n c, .int .i64 (i : Int)] w fun e w' => e = .returned (.tuple #[TkV 2 ((xs.drop i).take 3) (atP xs i), .int .i64 ((i + 3 : Nat) : Int), .int .i64 0]) ∧ Below w.heap.size w w' := by
  obtain rfl := h.len
  have hcap := h.cap
  obtain ⟨b, off, x, rfl, hbl, Hx, hc⟩ := h.get (j := i) (by omega)
  have hx : xs.getD i 0 = x := by rw [List.getD_eq_getElem?_getD, Hx.out]; rfl
  obtain rfl : 39 = x := by rw [← hx, h2]
  have h1 : letterB 39 = false := by decide
  have H := Lib.hid h
  have CT := Lib.hid fun W (hW : Below w.heap.size w W) => ref_at (some ⟨b, off, none⟩) xs.length c xs (i : Int) W (h.below hW) hn
  have CF : Hid (∀ W, Calls Try.prog 33 #[.int .u8 39] W fun e w' => e = .returned (.bool false) ∧ W = w') := Lib.hid fun W => by
    have := lx_first 39 W (by decide)
    rwa [h1] at this
  obtain ⟨ca, cb, hat⟩ : ∃ a b, atP xs (i : Int) = .complex .f64 a b := by
    unfold atP PV
    split
    · exact ⟨_, _, rfl⟩
    · exact ⟨_, _, rfl⟩
  rw [hat] at CT ⊢
  have Hb := Lib.hid hb
  have hbs : ∀ y ∈ (xs.drop i).take 3, y < 256 := fun y hy => hb y (List.mem_of_mem_drop (List.mem_of_mem_take hy))
  have cL : ∀ W, Calls Try.prog 35 #[.string (str ((xs.drop i).take 3))] W fun e w' => e = .returned (.bool true) ∧ W = w' := fun W => by
    have := ref_Literal (str ((xs.drop i).take 3)) W
    rwa [bytesOf_str _ hbs, h3] at this
  have CL := Lib.hid cL
  clear h hb h1 h2 h3 hx hat hbs cL
  have hB1 := alloc_below w (.cells #[.int .i64 0, .string ⟨#[]⟩, .complex .f64 0 0] 38)
  have ksc : ∀ (w : World) (a : Addr) (k : FloatKind) (x y : Nat) (m : Mode), (store a (.complex k x y) m).run Try.prog w = stored Try.prog w a (.complex k x y) m := fun w a k x y m => run_store Try.prog w a _ m rfl
  go_enter Try.func14, Try.ntmps14
  go_wp2_with (first
    | (go_at_call 13; (with_reducible refine (CT.out _ hB1).mono ?_); rintro e w2 ⟨rfl, rfl⟩)
    | (go_at_call 33; (with_reducible refine (CF.out _).mono ?_); rintro e w3 ⟨rfl, rfl⟩))
  have hcv : ∀ W, Below w.heap.size w W → (convert 22 9 (.slice (some ⟨b, off + i, none⟩) 3 (c - i))).run Try.prog W = .ok (.string (str ((xs.drop i).take 3))) W := fun W hW => by
    have hp := (H.out.below hW).part i 3 (c - i) (by omega) (by omega) (by omega)
    have hl : ((xs.drop i).take 3).length = 3 := by rw [List.length_take, List.length_drop]; omega
    have := run_bytes_str (P := Try.prog) W 22 5 9 Try.underlying22 Try.underlying5 Try.underlying9 (some ⟨b, off + i, none⟩) (c - i) _ (by rw [hl]; exact hp)
    rwa [hl] at this
  have hv1 := hcv _ (below_alloc hB1 (.cells #[.int .i64 0, .string ⟨#[]⟩, .complex .f64 ca cb] 38))
  have hv2 := hcv _ (below_alloc hB1 (.cells #[.int .i64 0, .string ⟨#[]⟩, .complex .f64 ca cb] 38)).drew
  have hv3 := hcv _ (below_alloc hB1 (.cells #[.int .i64 2, .string ⟨#[]⟩, .complex .f64 ca cb] 38))
  have hv4 := hcv _ (below_alloc hB1 (.cells #[.int .i64 2, .string ⟨#[]⟩, .complex .f64 ca cb] 38)).drew
  generalize htx : str ((xs.drop i).take 3) = tx at *
  have Htx := Lib.hid htx
  have s2 : IntKind.i64.wrap ((i : Int) + 3) = (i : Int) + 3 := IntWalk.i64_in _ (by omega)
  have s3 : (i : Int) + 3 ≤ (xs.length : Int) := by omega
  have s4 : ((i : Int) + 3).toNat = i + 3 := by omega
  have s5 : (0 : Int) ≤ (i : Int) + 3 := by omega
  have s6 : (i : Int) ≤ (i : Int) + 3 := by omega
  have s7 : i + 3 - i = 3 := by omega
  have s8 : (i : Int) + 3 ≤ (c : Int) := by omega
  clear hcv htx
  go_loop [10] (fun v => v = .int .i64 3) (fun _ => 0)
  case atStart => rfl
  case round =>
    subst hrel
    go_wp2_with (go_at_call 35; (with_reducible refine (CL.out _).mono ?_); rintro e w3 ⟨rfl, rfl⟩)
    go_region_with (fail)
    all_goals
      go_wp2_with fail
      refine bodyPost_ret (results_cell2 (p := 4) (u := 5) (v := 6) (by kernel_rfl) _ _ w.heap.size 38 #[.int .i64 2, .string tx, .complex .f64 ca cb] (0, 0) _ rfl (Blk.drew (Blk.ext (Blk.new w _ _) (alloc_below _ _))) Try.underlying38 rfl (by kernel_rfl)) rfl ?_
      exact ⟨by unfold TkV; rw [Htx.out]; rfl, (below_alloc (alloc_below _ _) _).drew⟩
end Go.Proofs.Ytdeiipbnaknedaa
