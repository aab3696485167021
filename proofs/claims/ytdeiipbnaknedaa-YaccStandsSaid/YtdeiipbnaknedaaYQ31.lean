/- the reference's tokens: one, at any token. -/
import Derived.Test.YtdeiipbnaknedaaYQ30
import Derived.OpenShut
import Derived.ProofKit
namespace Go.Proofs.Ytdeiipbnaknedaa
open Go.RowKit
set_option linter.unusedVariables false
set_option linter.unusedSimpArgs false

set_option maxRecDepth 100000 in
set_option maxHeartbeats 2000000 in
theorem rf_one_lit4 (A : Option Addr) (n c i : Nat) (xs : List Nat) (w : World) (h : Nums .u8 w A n c xs) (hb : ∀ x ∈ xs, x < 256) (hn : n ≤ 100000) (hi : i + 4 ≤ n) (h2 : xs.getD i 0 = 39) (h3 : litB ((xs.drop i).take 3) = false) (h4 : litB ((xs.drop i).take 4) = true) :
    Calls Try.prog 14 #[.slice A n c, .int .i64 (i : Int)] w fun e w' => e = .returned (.tuple #[TkV 2 ((xs.drop i).take 4) (atP xs i), .int .i64 ((i + 4 : Nat) : Int), .int .i64 0]) ∧ Below w.heap.size w w' := by
  obtain rfl := h.len
  have hcap := h.cap
  obtain ⟨b, off, x, rfl, hbl, Hx, hc⟩ := h.get (j := i) (by omega)
  have hx : xs.getD i 0 = x := by rw [List.getD_eq_getElem?_getD, Hx.out]; rfl
  obtain rfl : 39 = x := by rw [← hx, h2]
  have h1 : letterB 39 = false := by decide
  have H := Lib.hid h
  have CT := Lib.hid fun W (hW : Below w.heap.size w W) => ref_at (some ⟨b, off, none⟩) xs.length c xs (i : Int) W (h.below hW) hn
  have CF : Hid (∀ W, Calls Try.prog 33 #[.int .u8 39] W fun e w' => e = .returned (.bool false) ∧ W = w') := Lib.hid fun W => by
    have := lx_first 39 W (by decide)
    rwa [h1] at this
  obtain ⟨ca, cb, hat⟩ : ∃ a b, atP xs (i : Int) = .complex .f64 a b := by
    unfold atP PV
    split
    · exact ⟨_, _, rfl⟩
    · exact ⟨_, _, rfl⟩
  rw [hat] at CT ⊢
  have Hb := Lib.hid hb
  have hbs : ∀ y ∈ (xs.drop i).take 3, y < 256 := fun y hy => hb y (List.mem_of_mem_drop (List.mem_of_mem_take hy))
  have hbs4 : ∀ y ∈ (xs.drop i).take 4, y < 256 := fun y hy => hb y (List.mem_of_mem_drop (List.mem_of_mem_take hy))
  have cL4 : ∀ W, Calls Try.prog 35 #[.string (str ((xs.drop i).take 4))] W fun e w' => e = .returned (.bool true) ∧ W = w' := fun W => by
    have := ref_Literal (str ((xs.drop i).take 4)) W
    rwa [bytesOf_str _ hbs4, h4] at this
  have CL4 := Lib.hid cL4
  have cL : ∀ W, Calls Try.prog 35 #[.string (str ((xs.drop i).take 3))] W fun e w' => e = .returned (.bool false) ∧ W = w' := fun W => by
    have := ref_Literal (str ((xs.drop i).take 3)) W
    rwa [bytesOf_str _ hbs, h3] at this
  have CL := Lib.hid cL
  clear h hb h1 h2 h3 h4 hx hat hbs hbs4 cL cL4
  have hB1 := alloc_below w (.cells #[.int .i64 0, .string ⟨#[]⟩, .complex .f64 0 0] 38)
  have ksc : ∀ (w : World) (a : Addr) (k : FloatKind) (x y : Nat) (m : Mode), (store a (.complex k x y) m).run Try.prog w = stored Try.prog w a (.complex k x y) m := fun w a k x y m => run_store Try.prog w a _ m rfl
  go_enter Try.func14, Try.ntmps14
  go_wp2_with (first
    | (go_at_call 13; (with_reducible refine (CT.out _ hB1).mono ?_); rintro e w2 ⟨rfl, rfl⟩)
    | (go_at_call 33; (with_reducible refine (CF.out _).mono ?_); rintro e w3 ⟨rfl, rfl⟩))
  have hcq : ∀ (m : Nat), m ≤ 4 → ∀ W, Below w.heap.size w W → (convert 22 9 (.slice (some ⟨b, off + i, none⟩) m (c - i))).run Try.prog W = .ok (.string (str ((xs.drop i).take m))) W := fun m hm W hW => by
    have hp := (H.out.below hW).part i m (c - i) (by omega) (by omega) (by omega)
    have hl : ((xs.drop i).take m).length = m := by rw [List.length_take, List.length_drop]; omega
    have := run_bytes_str (P := Try.prog) W 22 5 9 Try.underlying22 Try.underlying5 Try.underlying9 (some ⟨b, off + i, none⟩) (c - i) _ (by rw [hl]; exact hp)
    rwa [hl] at this
  have hcv := hcq 4 (by omega)
  have hv0 := hcq 3 (by omega) _ (below_alloc hB1 (.cells #[.int .i64 0, .string ⟨#[]⟩, .complex .f64 ca cb] 38))
  have hv1 := hcv _ (below_alloc hB1 (.cells #[.int .i64 0, .string ⟨#[]⟩, .complex .f64 ca cb] 38))
  have hv2 := hcv _ (below_alloc hB1 (.cells #[.int .i64 0, .string ⟨#[]⟩, .complex .f64 ca cb] 38)).drew
  have hv3 := hcv _ (below_alloc hB1 (.cells #[.int .i64 2, .string ⟨#[]⟩, .complex .f64 ca cb] 38))
  have hv4 := hcv _ (below_alloc hB1 (.cells #[.int .i64 2, .string ⟨#[]⟩, .complex .f64 ca cb] 38)).drew
  generalize htx : str ((xs.drop i).take 4) = tx at *
  generalize str ((xs.drop i).take 3) = tx3 at *
  have Htx := Lib.hid htx
  have s2 : IntKind.i64.wrap ((i : Int) + 3) = (i : Int) + 3 := IntWalk.i64_in _ (by omega)
  have s3 : (i : Int) + 3 ≤ (xs.length : Int) := by omega
  have s4 : ((i : Int) + 3).toNat = i + 3 := by omega
  have s5 : (0 : Int) ≤ (i : Int) + 3 := by omega
  have s6 : (i : Int) ≤ (i : Int) + 3 := by omega
  have s7 : i + 3 - i = 3 := by omega
  have s8 : (i : Int) + 3 ≤ (c : Int) := by omega
  have r2 : IntKind.i64.wrap ((i : Int) + 4) = (i : Int) + 4 := IntWalk.i64_in _ (by omega)
  have r3 : (i : Int) + 4 ≤ (xs.length : Int) := by omega
  have r4 : ((i : Int) + 4).toNat = i + 4 := by omega
  have r5 : (0 : Int) ≤ (i : Int) + 4 := by omega
  have r6 : (i : Int) ≤ (i : Int) + 4 := by omega
  have r7 : i + 4 - i = 4 := by omega
  have r8 : (i : Int) + 4 ≤ (c : Int) := by omega
  clear hcv hcq htx
  go_loop [10] (fun v => v = .int .i64 3 ∨ v = .int .i64 4) (fun v => 5 - (intOf v).toNat)
  case atStart => exact .inl rfl
  case round =>
    rcases hrel with rfl | rfl
    · go_wp2_with (go_at_call 35; (with_reducible refine (CL.out _).mono ?_); rintro e w3 ⟨rfl, rfl⟩)
      go_round
      case rel => exact .inr rfl
      case measure => simp [intOf]
    · go_wp2_with (go_at_call 35; (with_reducible refine (CL4.out _).mono ?_); rintro e w3 ⟨rfl, rfl⟩)
      go_region_with (fail)
      all_goals
        go_wp2_with fail
        refine bodyPost_ret (results_cell2 (p := 4) (u := 5) (v := 6) (by kernel_rfl) _ _ w.heap.size 38 #[.int .i64 2, .string tx, .complex .f64 ca cb] (0, 0) _ rfl (Blk.drew (Blk.ext (Blk.new w _ _) (alloc_below _ _))) Try.underlying38 rfl (by kernel_rfl)) rfl ?_
        exact ⟨by unfold TkV; rw [Htx.out]; rfl, (below_alloc (alloc_below _ _) _).drew⟩

theorem atP_PA (xs : List Nat) (i : Nat) (hi : i ≤ xs.length) : atP xs (i : Int) = PA (xs.take i) := by
  unfold atP PA
  rw [if_pos ⟨by omega, by omega⟩]
  rfl
theorem small_lower (x : Nat) : lowerB x = smallB x := by
  unfold lowerB smallB
  rw [Bool.eq_iff_iff]
  simp
theorem rf_oneN (A : Option Addr) (n c i : Nat) (xs : List Nat) (w : World) (h : Nums .u8 w A n c xs) (hb : ∀ x ∈ xs, x < 256) (hn : n ≤ 100000) (hi : i < n) (he : (tokN (xs.drop i)).2.2.2 = 0) :
    Calls Try.prog 14 #[.slice A n c, .int .i64 (i : Int)] w fun e w' => e = .returned (.tuple #[TokV (tokN (xs.drop i)).1 (tokN (xs.drop i)).2.1 (PA (xs.take i)), .int .i64 ((i + (tokN (xs.drop i)).2.2.1 : Nat) : Int), .int .i64 0]) ∧ Below w.heap.size w w' := by
  have hl := h.len
  rw [← atP_PA xs i (by omega)]
  have hg : (xs.drop i).getD 0 0 = xs.getD i 0 := by rw [getD_drop, Nat.add_zero]
  revert he
  unfold tokN
  rw [hg]
  by_cases h1 : letterB (xs.getD i 0) = true
  · rw [if_pos h1]
    obtain ⟨r1, r2, r3, r4⟩ := run_ends innerB xs i (by omega)
    by_cases h20 : 20 < runN innerB (xs.drop i)
    · rw [if_pos h20]
      intro he
      cases he
    · rw [if_neg h20]
      intro _
      have := rf_one_name A n c i (i + runN innerB (xs.drop i)) xs w h hb hn hi h1 r1 (by omega) (by omega) r3 (fun hlt => r4 (by omega))
      rwa [Nat.add_sub_cancel_left] at this
  rw [if_neg h1]
  have h1' : letterB (xs.getD i 0) = false := by simpa using h1
  by_cases h2 : xs.getD i 0 = 39
  · rw [if_pos h2]
    by_cases h3 : (litN (xs.drop i)).2 = 0
    · rw [if_pos h3]
      intro _
      have hll : (xs.drop i).length = xs.length - i := List.length_drop ..
      rcases lit_take (hg.trans h2) h3 with ⟨e, hle, hb3⟩ | ⟨e, hle, hb3, hb4⟩
      · rw [e]
        exact rf_one_lit A n c i xs w h hb hn (by omega) h2 hb3
      · rw [e]
        exact rf_one_lit4 A n c i xs w h hb hn (by omega) h2 hb3 hb4
    · rw [if_neg h3]
      intro he
      exact absurd he h3
  rw [if_neg h2]
  intro he
  have hw : wordN ((xs.drop i).take (signN (xs.drop i))) ≠ 0 := fun h0 => by
    have he : (if wordN ((xs.drop i).take (signN (xs.drop i))) = 0 then 3 else 0) = 0 := he
    rw [if_pos h0] at he
    cases he
  clear he
  show Calls _ _ _ _ fun e w' => e = .returned (.tuple #[TokV (wordN ((xs.drop i).take (signN (xs.drop i)))) [] (atP xs i), .int .i64 ((i + signN (xs.drop i) : Nat) : Int), .int .i64 0]) ∧ Below w.heap.size w w'
  revert hw
  unfold signN
  rw [hg]
  have hp := hasP_pre (xs := xs) (i := i) [37, 37] (by omega)
  cases k : [37, 37].isPrefixOf (xs.drop i) with
  | true =>
    rw [if_pos rfl]
    intro _
    have ht : (xs.drop i).take 2 = [37, 37] := by
      rw [List.isPrefixOf_iff_prefix] at k
      obtain ⟨t, ht⟩ := k
      rw [← ht]
      rfl
    rw [ht]
    exact rf_one_cut A n c i xs w h hb hn hi h1' h2 (by rw [hp, k])
  | false =>
    rw [if_neg Bool.false_ne_true]
    have h3 : hasP xs i [37, 37] = false := by rw [hp, k]
    have hdg := drop_get (l := xs) (k := i) (by omega)
    by_cases h4 : xs.getD i 0 = 37
    · rw [if_pos h4]
      obtain ⟨r1, r2, r3, r4⟩ := run_ends smallB xs i (by omega)
      have htk : (xs.drop i).take (runN smallB (xs.drop i)) = 37 :: (xs.drop (i + 1)).take (runN smallB (xs.drop i) - 1) := by
        obtain ⟨m, hm⟩ : ∃ m, runN smallB (xs.drop i) = m + 1 := ⟨runN smallB (xs.drop i) - 1, by omega⟩
        rw [hm, hdg, h4]
        rfl
      have hws : (xs.drop (i + 1)).take (runN smallB (xs.drop i) - 1) ≠ [37] := fun h0 => by
        have hlen := congrArg List.length h0
        rw [List.length_take, List.length_drop, List.length_singleton] at hlen
        have h5 := r3 (i + 1) (by omega) (by omega)
        have h6 : ((xs.drop (i + 1)).take (runN smallB (xs.drop i) - 1)).getD 0 0 = xs.getD (i + 1) 0 := by
          rw [List.getD_eq_getElem?_getD, List.getElem?_take_of_lt (by omega), ← List.getD_eq_getElem?_getD, getD_drop]
        rw [h0] at h6
        rw [← h6] at h5
        exact absurd h5 (by decide)
      have hwp := word_percent _ (fun y hy => hb y (List.mem_of_mem_drop (List.mem_of_mem_take hy))) hws
      rw [htk]
      intro hw
      have := rf_one_word A n c i (i + runN smallB (xs.drop i)) xs w h hb hn hi h4 h3 r1 (by omega) (fun k h5 h6 => by rw [small_lower]; exact r3 k h5 h6) (fun hlt => by rw [small_lower]; exact r4 (by omega))
        (by rw [show i + runN smallB (xs.drop i) - (i + 1) = runN smallB (xs.drop i) - 1 by omega, ← hwp]; omega)
      rw [show i + runN smallB (xs.drop i) - (i + 1) = runN smallB (xs.drop i) - 1 by omega, ← hwp] at this
      exact this
    · rw [if_neg h4]
      have ht : (xs.drop i).take 1 = [xs.getD i 0] := by rw [hdg]; rfl
      have hx256 : xs.getD i 0 < 256 := lt256 hb i
      have hm := word_mark (xs.getD i 0) hx256 h4
      rw [ht]
      intro hw
      have := rf_one_mark A n c i xs w h hb hn hi h1' h2 h3 h4 (by rw [← hm]; omega)
      rw [← hm] at this
      exact this
end Go.Proofs.Ytdeiipbnaknedaa
/- the reference's tokens: Tokens, at any text that the program reads. -/
namespace Go.Proofs.Ytdeiipbnaknedaa
open Go.RowKit
set_option linter.unusedVariables false
set_option linter.unusedSimpArgs false

theorem below_appendY {w wr w' : World} {base e size : Nat} {A : Option Addr} {n c : Nat} {xs : List Value} (hb : Below base w wr) (hg : wr.grownBy w' (Value.slice A n c).ownBlock)
    (hown : wr.ownsRow base e size (.slice A n c) n xs) (hbase : base ≤ wr.heap.size) : Below base w w' :=
  hb.grown hg hbase fun k hk => (hown.lt k hk).1
theorem take_step (xs : List Nat) (i s : Nat) : xs.take i ++ (xs.drop i).take s = xs.take (i + s) := (List.take_add ..).symm
/-- one step of a lexer that comes to its end -/
theorem lexGo_ways {f : Nat} {xs : List Nat} {i mk : Nat} {done : List Tok} {r : List Tok × List Nat × Nat} (h : lexGo f (xs.drop i) (xs.take i) mk done = r) (h0 : r.2.2 = 0) (hf : xs.length - i + 1 ≤ f) (hi : i ≤ xs.length) :
    ((i = xs.length ∨ mk = 2) ∧ done = r.1) ∨ (i < xs.length ∧ mk ≠ 2 ∧
      (((skipN (xs.drop i)).2 = true ∧ (skipN (xs.drop i)).1 ≠ 0 ∧ i + (skipN (xs.drop i)).1 ≤ xs.length ∧ ∃ f', xs.length - (i + (skipN (xs.drop i)).1) + 1 ≤ f' ∧ lexGo f' (xs.drop (i + (skipN (xs.drop i)).1)) (xs.take (i + (skipN (xs.drop i)).1)) mk done = r) ∨
       ((skipN (xs.drop i)).2 = false ∧ (tokN (xs.drop i)).2.2.2 = 0 ∧ 1 ≤ (tokN (xs.drop i)).2.2.1 ∧ i + (tokN (xs.drop i)).2.2.1 ≤ xs.length ∧ ∃ f', xs.length - (i + (tokN (xs.drop i)).2.2.1) + 1 ≤ f' ∧
         lexGo f' (xs.drop (i + (tokN (xs.drop i)).2.2.1)) (xs.take (i + (tokN (xs.drop i)).2.2.1)) (if (tokN (xs.drop i)).1 = 9 then mk + 1 else mk) (done ++ [((tokN (xs.drop i)).1, (tokN (xs.drop i)).2.1, xs.take i)]) = r))) := by
  have hl : (xs.drop i).length = xs.length - i := List.length_drop ..
  cases f with
  | zero => omega
  | succ f =>
    unfold lexGo at h
    by_cases h1 : (xs.drop i).length = 0 ∨ mk = 2
    · rw [if_pos h1] at h
      exact .inl ⟨by omega, by rw [← h]⟩
    rw [if_neg h1] at h
    refine .inr ⟨by omega, by omega, ?_⟩
    by_cases h2 : (skipN (xs.drop i)).2 = true
    · rw [if_pos h2] at h
      by_cases h3 : (skipN (xs.drop i)).1 = 0
      · rw [if_pos h3] at h
        rw [← h] at h0
        cases h0
      · rw [if_neg h3, List.drop_drop, take_step] at h
        have hle := skipN_le (xs.drop i) (by omega)
        exact .inl ⟨h2, h3, by omega, f, by omega, h⟩
    · rw [if_neg h2] at h
      by_cases h3 : (tokN (xs.drop i)).2.2.2 = 0
      · rw [if_pos h3, List.drop_drop, take_step] at h
        have hle := tokN_le (xs.drop i) (by omega) h3
        exact .inr ⟨by simpa using h2, h3, by omega, by omega, f, by omega, h⟩
      · rw [if_neg h3] at h
        rw [← h] at h0
        exact absurd h0 h3

set_option maxRecDepth 100000 in
set_option maxHeartbeats 1000000 in
theorem rf_TokensN (A : Option Addr) (n c : Nat) (xs : List Nat) (w : World) (h : Nums .u8 w A n c xs) (hb : ∀ x ∈ xs, x < 256) (hn : n ≤ 4000) (h0 : (lexN xs).2.2 = 0) :
    Calls Try.prog 6 #[.slice A n c] w fun e w' => ∃ A' c', e = .returned (.tuple #[.slice A' (lexN xs).1.length c', PA xs, .int .i64 0]) ∧
      w'.ownsRow w.heap.size 38 3 (.slice A' (lexN xs).1.length c') (lexN xs).1.length (toksCells (lexN xs).1) ∧ Below w.heap.size w w' := by
  obtain rfl := h.len
  have hcap := h.cap
  have H := Lib.hid h
  have Hb := Lib.hid hb
  obtain ⟨r, hr⟩ : ∃ r, lexN xs = r := ⟨_, rfl⟩
  have Hr : Hid (lexGo (xs.length + 1) (xs.drop 0) (xs.take 0) 0 [] = r) := Lib.hid (by rw [← hr]; rfl)
  rw [hr] at h0 ⊢
  have H0 := Lib.hid h0
  obtain ⟨ca0, cb0, hat0⟩ := PA_form xs
  have Hat0 := Lib.hid hat0
  rw [hat0]
  have hi32 : (Try.prog.info? 38).map (fun i => (i.zero, i.size, i.bytes)) = some (some (.agg #[.int .i64 0, .string ⟨#[]⟩, .complex .f64 0 0]), 3, 40) := by kernel_rfl
  have Hi32 := Lib.hid hi32
  have ksc : ∀ (w : World) (a : Addr) (k : FloatKind) (x y : Nat) (m : Mode), (store a (.complex k x y) m).run Try.prog w = stored Try.prog w a (.complex k x y) m := fun w a k x y m => run_store Try.prog w a _ m rfl
  clear h hb hi32 hr h0 hat0
  go_enter Try.func6, Try.ntmps6
  go_wp2_with fail
  go_loopw [5, 6, 7] (fun o a m wr => ∃ (i mk d c' f : Nat) (A' : Option Addr) (done : List Tok), o = .slice A' d c' ∧ a = .int .i64 (i : Int) ∧ m = .int .i64 (mk : Int) ∧ i ≤ xs.length ∧ d ≤ i ∧ mk ≤ 2 ∧
      Hid (d = done.length) ∧ Hid (xs.length - i + 1 ≤ f) ∧ Hid (lexGo f (xs.drop i) (xs.take i) mk done = r) ∧ Hid (wr.ownsRow w.heap.size 38 3 (.slice A' d c') d (toksCells done)) ∧ Below w.heap.size w wr) (fun _ a _ _ => xs.length - (intOf a).toNat)
  case atStart => exact ⟨0, 0, 0, 0, xs.length + 1, none, [], rfl, rfl, rfl, by omega, by omega, by omega, Lib.hid rfl, Lib.hid (by omega), Hr, Lib.hid (World.ownsRow_nil _ _ _ _), Below.refl _ _⟩
  case round =>
    obtain ⟨i, mk, d, c', f, A', done, rfl, rfl, rfl, hi, hd, hmk, Hd, Hf, Hk, Ho, hB⟩ := hrel
    rcases lexGo_ways Hk.out H0.out Hf.out hi with ⟨hend, hdone⟩ | ⟨hlt, hmk2, hways⟩
    · have CT := Lib.hid (ref_at A xs.length c xs (xs.length : Int) wr (H.out.below hB) (by omega))
      have hdl : d = r.1.length := by rw [← hdone]; exact Hd.out
      have Hend := Lib.hid hdone
      rw [atP_PA xs xs.length (Nat.le_refl _), List.take_length] at CT
      rw [Hat0.out] at CT
      clear hdone
      by_cases hil : i < xs.length
      · have hm2 : mk = 2 := by omega
        subst hm2
        go_wp2_with (go_at_call 13; (with_reducible refine CT.out.mono ?_); rintro e w2 ⟨rfl, rfl⟩)
        refine bodyPost_ret (results_tmp3 rfl _ _ _) rfl ?_
        refine ⟨A', c', by rw [← hdl]; rfl, ?_, hB⟩
        rw [← hdl, ← Hend.out]
        exact Ho.out
      · obtain rfl : i = xs.length := by omega
        go_wp2_with (go_at_call 13; (with_reducible refine CT.out.mono ?_); rintro e w2 ⟨rfl, rfl⟩)
        refine bodyPost_ret (results_tmp3 rfl _ _ _) rfl ?_
        refine ⟨A', c', by rw [← hdl]; rfl, ?_, hB⟩
        rw [← hdl, ← Hend.out]
        exact Ho.out
    · have hmk3 : mk < 2 := by omega
      have CS := Lib.hid (rf_skip A xs.length c i xs wr (H.out.below hB) Hb.out (by omega) hlt)
      unfold skipI at CS
      rcases hways with ⟨hs1, hs2, hs3, f', hf', hk'⟩ | ⟨hs1, ht1, ht2, ht3, f', hf', hk'⟩
      · rw [hs1, if_pos rfl, if_neg hs2] at CS
        have Hf2 := Lib.hid hf'
        have Hk2 := Lib.hid hk'
        generalize (skipN (xs.drop i)).1 = s at *
        clear hs1 hf' hk' Hk
        go_wp2_with (go_at_call 12; (with_reducible refine CS.out.mono ?_); rintro e w2 ⟨rfl, rfl⟩)
        go_roundw
        case rel => exact ⟨i + s, mk, d, c', f', A', done, rfl, rfl, rfl, hs3, by omega, by omega, Hd, Hf2, Hk2, Ho, hB⟩
        case measure => simp [intOf]; omega
      · rw [hs1, if_neg Bool.false_ne_true] at CS
        have CO := Lib.hid (rf_oneN A xs.length c i xs wr (H.out.below hB) Hb.out (by omega) hlt ht1)
        have Hf2 := Lib.hid hf'
        have Hk2 := Lib.hid hk'
        obtain ⟨ca, cb, hat⟩ := PA_form (xs.take i)
        have Hnew : Hid (toksCells done ++ [.int .i64 ((tokN (xs.drop i)).1 : Int), .string (str (tokN (xs.drop i)).2.1), .complex .f64 ca cb] = toksCells (done ++ [((tokN (xs.drop i)).1, (tokN (xs.drop i)).2.1, xs.take i)])) := Lib.hid (by rw [toksCells_snoc, ← hat]; rfl)
        rw [hat] at CO
        unfold TokV at CO
        generalize hkd : (tokN (xs.drop i)).1 = kd at *
        generalize (tokN (xs.drop i)).2.2.1 = m at *
        generalize (tokN (xs.drop i)).2.1 = txt at *
        generalize xs.take i = pre at *
        have Hnew2 := Hnew
        clear hs1 ht1 hf' hk' Hk hat hkd
        generalize htk : ((kd, txt, pre) : Tok) = tk at *
        generalize str txt = tx at *
        have h9 : (((kd : Int) == 9) = true ∧ Hid ((if kd = 9 then mk + 1 else mk) = mk + 1)) ∨ (((kd : Int) == 9) = false ∧ Hid ((if kd = 9 then mk + 1 else mk) = mk)) := by
          by_cases h9 : kd = 9
          · exact .inl ⟨by rw [beq_iff_eq]; omega, Lib.hid (by rw [if_pos h9])⟩
          · exact .inr ⟨by rw [beq_eq_false_iff_ne]; omega, Lib.hid (by rw [if_neg h9])⟩
        have Hd2 : Hid (d + 1 = (done ++ [tk]).length) := Lib.hid (by rw [List.length_append, ← Hd.out]; rfl)
        clear htk
        rcases h9 with ⟨e9, H9⟩ | ⟨e9, H9⟩
        all_goals
          rw [H9.out] at Hk2
          go_wp2_with (first
            | (go_at_call 12; (with_reducible refine CS.out.mono ?_); rintro e w2 ⟨rfl, rfl⟩)
            | (go_at_call 14; (with_reducible refine CO.out.mono ?_); rintro e w2 ⟨rfl, hB2⟩
               have hB3 := below_tail hB hB2
               have hB4 := below_alloc hB3 (.cells #[.int .i64 (kd : Int), .string tx, .complex .f64 ca cb] 38)
               have hbs : w.heap.size ≤ w2.heap.size := hB3.size
               have p5 := alloc_size w2 (.cells #[.int .i64 (kd : Int), .string tx, .complex .f64 ca cb] 38)
               have Ho2 := Lib.hid ((own_belowS Ho.out hB2).alloc (.cells #[.int .i64 (kd : Int), .string tx, .complex .f64 ca cb] 38)))
            | (at_builtin; refine wpl_appendT (w := w2.alloc (.cells #[.int .i64 (kd : Int), .string tx, .complex .f64 ca cb] 38)) rfl _ _ 32 rfl w.heap.size 38 _ 3 40 Try.underlying32 Hi32.out (by decide) (by decide) A' d c' (toksCells done) rfl Ho2.out [.int .i64 (kd : Int), .string tx, .complex .f64 ca cb] rfl (by rw [p5]; rfl) (by simp [Value.oneCell']) (by omega) (by omega) (by omega) ?_; intro A4 c4 w4 ho hgr ha))
          have HBn := Lib.hid (below_appendY hB4 hgr Ho2.out (by omega))
          rw [Hnew.out] at ho
          go_roundw
          case rel =>
            first
              | exact ⟨i + m, mk + 1, d + 1, c4, f', A4, done ++ [tk], rfl, rfl, by go_num, ht3, by omega, by omega, Hd2, Hf2, Hk2, Lib.hid ho, HBn.out⟩
              | exact ⟨i + m, mk, d + 1, c4, f', A4, done ++ [tk], rfl, rfl, rfl, ht3, by omega, by omega, Hd2, Hf2, Hk2, Lib.hid ho, HBn.out⟩
          case measure => simp [intOf]; omega
end Go.Proofs.Ytdeiipbnaknedaa
/- What a law's walk is told of a slice of integers that came in. -/
namespace Go.Proofs.Ytdeiipbnaknedaa
open Go.ChangeShapes Go.WideShapes Go.ChangeAt Go.RowKit
set_option linter.unusedVariables false
set_option linter.unusedSimpArgs false

/-- A slice of integers that came in: it is nil, or it leads to a row of 'cap' cells, the numbers 'zs' (the first 'len' are its elements), each fitting its kind. -/
def IsRow (k : IntKind) (w : World) (a : Option Addr) (len cap : Nat) (zs : List Int) : Prop :=
  (a = none ∧ len = 0 ∧ cap = 0 ∧ zs = []) ∨
  ∃ x, a = some x ∧ len ≤ cap ∧ cap ≤ maxLen ∧ zs.length = cap ∧ (∀ i, i < zs.length → w.cell? (x.add i) = some (.int k (zs.getD i 0))) ∧ ∀ n ∈ zs, (Lit.int k n).wf = true

theorem cell_lt {w : World} {b off : Nat} {v : Value} (h : w.cell? ⟨b, off, none⟩ = some v) : b < w.heap.size := by
  rcases Nat.lt_or_ge b w.heap.size with h' | h'
  · exact h'
  · simp [World.cell?, Array.getElem?_eq_none h'] at h

/-- the integers of such a row -/
theorem IsRow.ints {k : IntKind} {w : World} {a : Option Addr} {len cap : Nat} {zs : List Int} (h : IsRow k w a len cap zs) :
    ∃ xs : List Int, Ints k w a len cap xs ∧ ∀ x ∈ xs, (Lit.int k x).wf = true := by
  rcases h with ⟨rfl, rfl, rfl, rfl⟩ | ⟨x, rfl, hl, hm, hz, hc, hw⟩
  · exact ⟨[], Ints.nil _ _ _ _ (by simp), fun x hx => by cases hx⟩
  · have hlen : (zs.take len).length = len := by rw [List.length_take]; omega
    have hget : ∀ j, j < len → (zs.take len)[j]? = some (zs.getD j 0) := fun j hj => by
      rw [List.getElem?_take, if_pos hj, List.getD_eq_getElem?_getD, List.getElem?_eq_getElem (by omega)]
      rfl
    refine ⟨zs.take len, ⟨?_, hl, by simpa [maxLen] using hm, fun hn => ?_⟩, fun z hz' => hw z (List.mem_of_mem_take hz')⟩
    · rw [ints_length, hlen]
    · rw [ints_length, hlen] at hn
      obtain ⟨b, off, spot⟩ := x
      have h0 := hc 0 (by omega)
      have hspot : spot = none := by simpa [Addr.add] using World.cell?_spot h0
      subst hspot
      have h0' : w.cell? ⟨b, off, none⟩ = some (.int k (zs.getD 0 0)) := by simpa [Addr.add] using h0
      refine ⟨b, off, rfl, cell_lt h0', fun j hj => ?_⟩
      rw [ints_length, hlen] at hj
      have hj' := hc j (by omega)
      have e : (⟨b, off, none⟩ : Addr).add j = ⟨b, off + j, none⟩ := by
        unfold Addr.add
        split
        · rename_i h0; subst h0; rfl
        · rfl
      rw [e] at hj'
      rw [hj']
      simp only [Go.Proofs.Ytdeiipbnaknedaa.ints, List.getElem?_map, hget j hj, Option.map_some]

theorem u32_nat {a : Int} (h : (Lit.int .u32 a).wf = true) : ∃ n : Nat, a = (n : Int) ∧ n < 4294967296 := by
  obtain ⟨h0, h1⟩ := bounds_u32 h
  exact ⟨a.toNat, by omega, by omega⟩
end Go.Proofs.Ytdeiipbnaknedaa
/- What a law's walk is told of bytes that came in. -/
namespace Go.Proofs.Ytdeiipbnaknedaa
open Go.ChangeShapes Go.WideShapes Go.ChangeAt Go.RowKit
theorem row_bytes {w : World} {a : Option Addr} {len cap : Nat} {zs : List Int} (h : IsRow .u8 w a len cap zs) :
    ∃ bs : List Nat, Nums .u8 w a len cap bs ∧ (∀ x ∈ bs, x < 256) ∧ (a = none → cap = 0) := by
  obtain ⟨xs, hx, hw⟩ := h.ints
  have e : nums .u8 (xs.map Int.toNat) = ints .u8 xs := by
    unfold nums ints
    rw [List.map_map]
    refine List.map_congr_left fun x hx => ?_
    have := (Go.bounds_u8 (hw x hx)).1
    show Value.int .u8 ((x.toNat : Nat) : Int) = _
    rw [Int.toNat_of_nonneg this]
  refine ⟨xs.map Int.toNat, ?_, fun y hy => ?_, fun ha => ?_⟩
  · unfold Nums; rw [e]; exact hx
  · simp only [List.mem_map] at hy
    obtain ⟨x, hx, rfl⟩ := hy
    have := Go.bounds_u8 (hw x hx)
    omega
  · rcases h with ⟨_, _, h, _⟩ | ⟨x, h, _⟩
    · exact h
    · rw [ha] at h; cases h
end Go.Proofs.Ytdeiipbnaknedaa
