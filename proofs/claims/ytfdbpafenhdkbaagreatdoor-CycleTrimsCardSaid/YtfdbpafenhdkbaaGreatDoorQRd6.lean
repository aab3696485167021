/- the reference's reading: one token: a name. -/
import Derived.Test.YtfdbpafenhdkbaaGreatDoorQRd1
import Derived.Deep.RegionWith
namespace Go.Proofs.YtfdbpafenhdkbaaGreatDoor
open Go.RowKit
set_option linter.unusedVariables false
set_option linter.unusedSimpArgs false

set_option maxRecDepth 100000 in
set_option maxHeartbeats 2000000 in
theorem rf_one_name (A : Option Addr) (n c i f : Nat) (xs : List Nat) (w : World) (h : Nums .u8 w A n c xs) (hb : ∀ x ∈ xs, x < 256) (hn : n ≤ 100000) (hi : i < n) (h1 : letterB (xs.getD i 0) = true) (hf1 : i < f) (hf2 : f ≤ n) (hf3 : f ≤ i + 20)
    (hin : ∀ k, i < k → k < f → innerB (xs.getD k 0) = true) (hout : f < n → innerB (xs.getD f 0) = false) :
    Calls Tryz.prog 97 #[.slice A n c, .int .i64 (i : Int)] w fun e w' => e = .returned (.tuple #[TokV 1 ((xs.drop i).take (f - i)) (atP xs i), .int .i64 (f : Int), .int .i64 0]) ∧ Below w.heap.size w w' := by
  obtain rfl := h.len
  have hcap := h.cap
  obtain ⟨b, off, x, rfl, hbl, Hx, hc⟩ := h.get hi
  have hx : xs.getD i 0 = x := by rw [List.getD_eq_getElem?_getD, Hx.out]; rfl
  rw [hx] at h1
  have H := Lib.hid h
  have CT := Lib.hid fun W (hW : Below w.heap.size w W) => ref_at (some ⟨b, off, none⟩) xs.length c xs (i : Int) W (h.below hW) hn
  have hx256 : x < 256 := hb x (List.mem_of_getElem? Hx.out)
  have CF := Lib.hid fun W => lx_first x W hx256
  rw [h1] at CF
  obtain ⟨ca, cb, hat⟩ : ∃ a b, atP xs (i : Int) = .complex .f64 a b := by
    unfold atP PV
    split
    · exact ⟨_, _, rfl⟩
    · exact ⟨_, _, rfl⟩
  rw [hat] at CT ⊢
  have Hb := Lib.hid hb
  have Hin := Lib.hid hin
  have Hout := Lib.hid hout
  clear h hb h1 hx hat hin hout
  have hB1 := alloc_below w (.cells #[.int .i64 0, .string ⟨#[]⟩, .complex .f64 0 0] 116)
  have ksc : ∀ (w : World) (a : Addr) (k : FloatKind) (x y : Nat) (m : Mode), (store a (.complex k x y) m).run Tryz.prog w = stored Tryz.prog w a (.complex k x y) m := fun w a k x y m => run_store Tryz.prog w a _ m rfl
  go_enter Tryz.func97, Tryz.ntmps97
  go_wp2_with (first
    | (go_at_call 96; (with_reducible refine (CT.out _ hB1).mono ?_); rintro e w2 ⟨rfl, rfl⟩)
    | (go_at_call 93; (with_reducible refine (CF.out _).mono ?_); rintro e w3 ⟨rfl, rfl⟩))
  go_loop [9] (fun v => ∃ (k : Nat), i < k ∧ k ≤ f ∧ v = .int .i64 (k : Int)) (fun v => xs.length - (intOf v).toNat)
  case atStart => exact ⟨i + 1, by omega, by omega, by go_num⟩
  case round =>
    obtain ⟨k, hk1, hk2, rfl⟩ := hrel
    by_cases hkf : k < f
    · obtain ⟨b2, off2, y, e2, _, Hy, hcy⟩ := H.out.get (j := k) (by omega)
      injection e2 with e2
      injection e2 with e2 e3
      subst e2 e3
      have hy : xs.getD k 0 = y := by rw [List.getD_eq_getElem?_getD, Hy.out]; rfl
      have hl := Hin.out k hk1 hkf
      rw [hy] at hl
      have CL := Lib.hid fun W => lx_later y W (Hb.out y (List.mem_of_getElem? Hy.out))
      rw [hl] at CL
      have hkn : k < xs.length := by omega
      clear hl hy
      go_wp2_with (go_at_call 94; (with_reducible refine (CL.out _).mono ?_); rintro e w3 ⟨rfl, rfl⟩)
      go_round
      case rel => exact ⟨k + 1, by omega, by omega, by go_num⟩
      case measure => simp [intOf]; omega
    · obtain rfl : k = f := by omega
      by_cases hkn : k < xs.length
      · obtain ⟨b2, off2, y, e2, _, Hy, hcy⟩ := H.out.get (j := k) hkn
        injection e2 with e2
        injection e2 with e2 e3
        subst e2 e3
        have hy : xs.getD k 0 = y := by rw [List.getD_eq_getElem?_getD, Hy.out]; rfl
        have hl := Hout.out hkn
        rw [hy] at hl
        have CL := Lib.hid fun W => lx_later y W (Hb.out y (List.mem_of_getElem? Hy.out))
        rw [hl] at CL
        clear hl hy
        go_wp2_with (go_at_call 94; (with_reducible refine (CL.out _).mono ?_); rintro e w3 ⟨rfl, rfl⟩)
        have hcv : ∀ W, Below w.heap.size w W → (convert 49 9 (.slice (some ⟨b, off + i, none⟩) (k - i) (c - i))).run Tryz.prog W = .ok (.string (str ((xs.drop i).take (k - i)))) W := fun W hW => by
          have hp := (H.out.below hW).part i (k - i) (c - i) (by omega) (by omega) (by omega)
          have hl : ((xs.drop i).take (k - i)).length = k - i := by rw [List.length_take, List.length_drop]; omega
          have := run_bytes_str (P := Tryz.prog) W 49 5 9 Tryz.underlying49 Tryz.underlying5 Tryz.underlying9 (some ⟨b, off + i, none⟩) (c - i) _ (by rw [hl]; exact hp)
          rwa [hl] at this
        have hv1 := hcv _ (below_alloc hB1 (.cells #[.int .i64 0, .string ⟨#[]⟩, .complex .f64 ca cb] 116))
        have hv2 := hcv _ (below_alloc hB1 (.cells #[.int .i64 0, .string ⟨#[]⟩, .complex .f64 ca cb] 116)).drew
        have hv3 := hcv _ (below_alloc hB1 (.cells #[.int .i64 1, .string ⟨#[]⟩, .complex .f64 ca cb] 116))
        have hv4 := hcv _ (below_alloc hB1 (.cells #[.int .i64 1, .string ⟨#[]⟩, .complex .f64 ca cb] 116)).drew
        generalize htx : str ((xs.drop i).take (k - i)) = tx at *
        have Htx := Lib.hid htx
        clear hcv htx
        go_region_with (fail)
        all_goals
          go_wp2_with fail
          refine bodyPost_ret (results_cell2 (p := 4) (u := 5) (v := 6) (by kernel_rfl) _ _ w.heap.size 116 #[.int .i64 1, .string tx, .complex .f64 ca cb] (0, 0) _ rfl (Blk.drew (Blk.ext (Blk.new w _ _) (alloc_below _ _))) Tryz.underlying116 rfl (by kernel_rfl)) rfl ?_
          exact ⟨by unfold TokV; rw [Htx.out]; rfl, (below_alloc (alloc_below _ _) _).drew⟩
      · go_wp2_with fail
        have hcv : ∀ W, Below w.heap.size w W → (convert 49 9 (.slice (some ⟨b, off + i, none⟩) (k - i) (c - i))).run Tryz.prog W = .ok (.string (str ((xs.drop i).take (k - i)))) W := fun W hW => by
          have hp := (H.out.below hW).part i (k - i) (c - i) (by omega) (by omega) (by omega)
          have hl : ((xs.drop i).take (k - i)).length = k - i := by rw [List.length_take, List.length_drop]; omega
          have := run_bytes_str (P := Tryz.prog) W 49 5 9 Tryz.underlying49 Tryz.underlying5 Tryz.underlying9 (some ⟨b, off + i, none⟩) (c - i) _ (by rw [hl]; exact hp)
          rwa [hl] at this
        have hv1 := hcv _ (below_alloc hB1 (.cells #[.int .i64 0, .string ⟨#[]⟩, .complex .f64 ca cb] 116))
        have hv2 := hcv _ (below_alloc hB1 (.cells #[.int .i64 0, .string ⟨#[]⟩, .complex .f64 ca cb] 116)).drew
        have hv3 := hcv _ (below_alloc hB1 (.cells #[.int .i64 1, .string ⟨#[]⟩, .complex .f64 ca cb] 116))
        have hv4 := hcv _ (below_alloc hB1 (.cells #[.int .i64 1, .string ⟨#[]⟩, .complex .f64 ca cb] 116)).drew
        generalize htx : str ((xs.drop i).take (k - i)) = tx at *
        have Htx := Lib.hid htx
        clear hcv htx
        go_region_with (fail)
        all_goals
          go_wp2_with fail
          refine bodyPost_ret (results_cell2 (p := 4) (u := 5) (v := 6) (by kernel_rfl) _ _ w.heap.size 116 #[.int .i64 1, .string tx, .complex .f64 ca cb] (0, 0) _ rfl (Blk.drew (Blk.ext (Blk.new w _ _) (alloc_below _ _))) Tryz.underlying116 rfl (by kernel_rfl)) rfl ?_
          exact ⟨by unfold TokV; rw [Htx.out]; rfl, (below_alloc (alloc_below _ _) _).drew⟩
end Go.Proofs.YtfdbpafenhdkbaaGreatDoor

namespace Go.Proofs.YtfdbpafenhdkbaaGreatDoor
open Go.RowKit
set_option linter.unusedVariables false
set_option linter.unusedSimpArgs false

set_option maxRecDepth 100000 in
set_option maxHeartbeats 2000000 in
theorem rf_one_lit (A : Option Addr) (n c i : Nat) (xs : List Nat) (w : World) (h : Nums .u8 w A n c xs) (hb : ∀ x ∈ xs, x < 256) (hn : n ≤ 100000) (hi : i + 3 ≤ n) (h2 : xs.getD i 0 = 39) (h3 : litB ((xs.drop i).take 3) = true) :
    Calls Tryz.prog 97 #[.slice A n c, .int .i64 (i : Int)] w fun e w' => e = .returned (.tuple #[TokV 2 ((xs.drop i).take 3) (atP xs i), .int .i64 ((i + 3 : Nat) : Int), .int .i64 0]) ∧ Below w.heap.size w w' := by
  obtain rfl := h.len
  have hcap := h.cap
  obtain ⟨b, off, x, rfl, hbl, Hx, hc⟩ := h.get (j := i) (by omega)
  have hx : xs.getD i 0 = x := by rw [List.getD_eq_getElem?_getD, Hx.out]; rfl
  obtain rfl : 39 = x := by rw [← hx, h2]
  have h1 : letterB 39 = false := by decide
  have H := Lib.hid h
  have CT := Lib.hid fun W (hW : Below w.heap.size w W) => ref_at (some ⟨b, off, none⟩) xs.length c xs (i : Int) W (h.below hW) hn
  have CF : Hid (∀ W, Calls Tryz.prog 93 #[.int .u8 39] W fun e w' => e = .returned (.bool false) ∧ W = w') := Lib.hid fun W => by
    have := lx_first 39 W (by decide)
    rwa [h1] at this
  obtain ⟨ca, cb, hat⟩ : ∃ a b, atP xs (i : Int) = .complex .f64 a b := by
    unfold atP PV
    split
    · exact ⟨_, _, rfl⟩
    · exact ⟨_, _, rfl⟩
  rw [hat] at CT ⊢
  have Hb := Lib.hid hb
  have hbs : ∀ y ∈ (xs.drop i).take 3, y < 256 := fun y hy => hb y (List.mem_of_mem_drop (List.mem_of_mem_take hy))
  have cL : ∀ W, Calls Tryz.prog 92 #[.string (str ((xs.drop i).take 3))] W fun e w' => e = .returned (.bool true) ∧ W = w' := fun W => by
    have := ref_Literal (str ((xs.drop i).take 3)) W
    rwa [bytesOf_str _ hbs, h3] at this
  have CL := Lib.hid cL
  clear h hb h1 h2 h3 hx hat hbs cL
  have hB1 := alloc_below w (.cells #[.int .i64 0, .string ⟨#[]⟩, .complex .f64 0 0] 116)
  have ksc : ∀ (w : World) (a : Addr) (k : FloatKind) (x y : Nat) (m : Mode), (store a (.complex k x y) m).run Tryz.prog w = stored Tryz.prog w a (.complex k x y) m := fun w a k x y m => run_store Tryz.prog w a _ m rfl
  go_enter Tryz.func97, Tryz.ntmps97
  go_wp2_with (first
    | (go_at_call 96; (with_reducible refine (CT.out _ hB1).mono ?_); rintro e w2 ⟨rfl, rfl⟩)
    | (go_at_call 93; (with_reducible refine (CF.out _).mono ?_); rintro e w3 ⟨rfl, rfl⟩))
  have hcv : ∀ W, Below w.heap.size w W → (convert 49 9 (.slice (some ⟨b, off + i, none⟩) 3 (c - i))).run Tryz.prog W = .ok (.string (str ((xs.drop i).take 3))) W := fun W hW => by
    have hp := (H.out.below hW).part i 3 (c - i) (by omega) (by omega) (by omega)
    have hl : ((xs.drop i).take 3).length = 3 := by rw [List.length_take, List.length_drop]; omega
    have := run_bytes_str (P := Tryz.prog) W 49 5 9 Tryz.underlying49 Tryz.underlying5 Tryz.underlying9 (some ⟨b, off + i, none⟩) (c - i) _ (by rw [hl]; exact hp)
    rwa [hl] at this
  have hv1 := hcv _ (below_alloc hB1 (.cells #[.int .i64 0, .string ⟨#[]⟩, .complex .f64 ca cb] 116))
  have hv2 := hcv _ (below_alloc hB1 (.cells #[.int .i64 0, .string ⟨#[]⟩, .complex .f64 ca cb] 116)).drew
  have hv3 := hcv _ (below_alloc hB1 (.cells #[.int .i64 2, .string ⟨#[]⟩, .complex .f64 ca cb] 116))
  have hv4 := hcv _ (below_alloc hB1 (.cells #[.int .i64 2, .string ⟨#[]⟩, .complex .f64 ca cb] 116)).drew
  generalize htx : str ((xs.drop i).take 3) = tx at *
  have Htx := Lib.hid htx
  have s2 : IntKind.i64.wrap ((i : Int) + 3) = (i : Int) + 3 := IntWalk.i64_in _ (by omega)
  have s3 : (i : Int) + 3 ≤ (xs.length : Int) := by omega
  have s4 : ((i : Int) + 3).toNat = i + 3 := by omega
  have s5 : (0 : Int) ≤ (i : Int) + 3 := by omega
  have s6 : (i : Int) ≤ (i : Int) + 3 := by omega
  have s7 : i + 3 - i = 3 := by omega
  have s8 : (i : Int) + 3 ≤ (c : Int) := by omega
  clear hcv htx
  go_loop [10] (fun v => v = .int .i64 3) (fun _ => 0)
  case atStart => rfl
  case round =>
    subst hrel
    go_wp2_with (go_at_call 92; (with_reducible refine (CL.out _).mono ?_); rintro e w3 ⟨rfl, rfl⟩)
    go_region_with (fail)
    all_goals
      go_wp2_with fail
      refine bodyPost_ret (results_cell2 (p := 4) (u := 5) (v := 6) (by kernel_rfl) _ _ w.heap.size 116 #[.int .i64 2, .string tx, .complex .f64 ca cb] (0, 0) _ rfl (Blk.drew (Blk.ext (Blk.new w _ _) (alloc_below _ _))) Tryz.underlying116 rfl (by kernel_rfl)) rfl ?_
      exact ⟨by unfold TokV; rw [Htx.out]; rfl, (below_alloc (alloc_below _ _) _).drew⟩
end Go.Proofs.YtfdbpafenhdkbaaGreatDoor
