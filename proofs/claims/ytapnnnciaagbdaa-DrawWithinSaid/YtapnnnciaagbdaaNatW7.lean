/- Walks: slices.Reverse of bytes, nat's Text. -/
import Derived.Test.YtapnnnciaagbdaaNatW6
import Derived.Test.YtapnnnciaagbdaaNatPlain3
import Derived.RegionTactic
import Derived.ChangeAlike
import Derived.Laws.BytesArg
namespace Go.Proofs.Ytapnnnciaagbdaa
open Go.RowKit
set_option linter.unusedVariables false
set_option linter.unusedSimpArgs false

theorem Try.info5 : (Try.prog.info? 5).map (fun i => (i.zero, i.size, i.bytes)) = some (some (.int .u8 0), 1, 1) := by kernel_rfl

/-- the loop of 'Reverse' -/
def RevRel (w : World) (base : Nat) (A : Option Addr) (n c : Nat) (zs : List Nat) (i j : Value) (wr : World) : Prop :=
  ∃ k : Nat, 2 * k ≤ n ∧ i = .int .i64 (k : Int) ∧ j = .int .i64 ((n : Int) - 1 - (k : Int)) ∧
    wr.ownsRow base 5 1 (.slice A n c) n (nums .u8 (revP zs k)) ∧ Below base w wr

set_option maxHeartbeats 2000000 in
theorem reverse_bytes (base : Nat) (A : Option Addr) (c : Nat) (zs : List Nat) (w : World) (hown : w.ownsRow base 5 1 (.slice A zs.length c) zs.length (nums .u8 zs)) (hlen : zs.length ≤ 1000000) :
    Calls Try.prog 62 #[.slice A zs.length c] w fun e w' => e = .returned (.tuple #[]) ∧ w'.ownsRow base 5 1 (.slice A zs.length c) zs.length (nums .u8 zs.reverse) ∧ Below base w w' := by
  go_enter Try.func62, Try.ntmps62
  go_wp2
  go_loopw [2, 3] (RevRel w base A zs.length c zs) (fun _ j _ => (intOf j + 1).toNat)
  case atStart => exact ⟨0, by omega, rfl, by go_num, hown, Below.refl _ _⟩
  case round =>
    clear hown
    obtain ⟨k, hk, rfl, rfl, hown, hbel⟩ := hrel
    have Hrl := Lib.hid (revP_len zs k)
    by_cases hlt : 2 * k + 1 < zs.length
    · have hj : (zs.length : Int) - 1 - (k : Int) = ((zs.length - 1 - k : Nat) : Int) := by omega
      rw [hj]
      obtain ⟨g, u, rfl, hg, hgl, Hu, hc1, hf1⟩ := own_at hown (j := k) (by omega)
      obtain ⟨g', u', hgg, hg', hgl', Hu', hc2, hf2⟩ := own_at hown (j := zs.length - 1 - k) (by omega)
      obtain rfl : g = g' := by injection hgg with hgg; injection hgg
      clear hgg hg' hgl'
      obtain ⟨x, Hx⟩ : ∃ x, Hid (zs.getD k 0 = x) := ⟨_, Lib.hid rfl⟩
      obtain ⟨y, Hy⟩ : ∃ y, Hid (zs.getD (zs.length - 1 - k) 0 = y) := ⟨_, Lib.hid rfl⟩
      have hu : u = .int .u8 (x : Int) := by
        obtain ⟨x', hx', rfl⟩ := nums_get _ _ _ _ Hu.out
        rw [revP_get zs k hk k (by omega), if_neg (by omega), Hx.out] at hx'
        injection hx' with hx'
        rw [hx']
      have hu' : u' = .int .u8 (y : Int) := by
        obtain ⟨x', hx', rfl⟩ := nums_get _ _ _ _ Hu'.out
        rw [revP_get zs k hk _ (by omega), if_neg (by omega), Hy.out] at hx'
        injection hx' with hx'
        rw [hx']
      subst hu; subst hu'
      generalize hm : zs.length - 1 - k = m at *
      have hkm : k < m := by omega
      have hmn : m < zs.length := by omega
      have Hm := Lib.hid hm
      clear hm hj
      have b1 : (0 : Int) ≤ (k : Int) := by omega
      have b2 : (k : Int) < (zs.length : Int) := by omega
      have b3 : (0 : Int) ≤ (m : Int) := by omega
      have b4 : (m : Int) < (zs.length : Int) := by omega
      obtain ⟨v1, hv1⟩ := cell?_setCell_some (w := wr) (p := ⟨g, k, none⟩) (x := .int .u8 (y : Int)) (q := ⟨g, m, none⟩) (v := .int .u8 (y : Int)) hc2
      go_wp2
      go_region
      go_wp2
      go_roundw
      case rel =>
        have hm := Hm.out
        have h1 := own_set hown k (.int .u8 (y : Int))
        have h2 := own_set h1 m (.int .u8 (x : Int))
        refine ⟨k + 1, by omega, by go_num, by go_num, ?_, ((hbel.setCell hg _).setCell hg _).drew⟩
        rw [← nums_set, ← nums_set] at h2
        simp only [revP, hm, Hx.out, Hy.out]
        exact h2
      case measure => simp [intOf] <;> omega
    · have hdone := revP_done zs k hk (by omega)
      rw [hdone] at hown
      clear hdone
      go_wp2
      go_end0
      exact ⟨rfl, hown, hbel⟩

/-- bytes as a string -/
def str (l : List Nat) : ByteArray := ⟨(l.map UInt8.ofNat).toArray⟩

theorem run_bytes_str {P : Program} (w : World) (src e dst : TypeId) (hs : P.underlying src = some (.slice e)) (he : P.underlying e = some (.int .u8)) (hd : P.underlying dst = some .string)
    (A : Option Addr) (c : Nat) (zs : List Nat) (h : Nums .u8 w A zs.length c zs) : (convert src dst (.slice A zs.length c)).run P w = .ok (.string (str zs)) w := by
  have e1 : strOfNums (zs.map fun (x : Nat) => (x : Int)) = str zs := by simp [strOfNums, str, Function.comp_def]
  rcases A with _ | ad
  · have h0 : zs.length = 0 := by
      rcases Nat.eq_zero_or_pos zs.length with h0 | h0
      · exact h0
      · obtain ⟨b, off, he, _⟩ := h.at_ h0
        cases he
    obtain rfl := List.eq_nil_of_length_eq_zero h0
    exact run_convert_bytes_nil w src e hs he _ _ dst hd
  · by_cases h0 : 0 < zs.length
    · obtain ⟨b, off, he', _, hc⟩ := h.at_ h0
      injection he' with he'
      subst he'
      rw [run_convert_bytes_arg w src e hs he b off zs.length c (zs.map fun (x : Nat) => (x : Int)) (by simp) (fun i hi => by
        rw [hc i hi]
        simp [List.getElem?_eq_getElem hi]) dst hd, e1]
    · obtain rfl := List.eq_nil_of_length_eq_zero (show zs.length = 0 by omega)
      obtain ⟨b, off, spot⟩ := ad
      simp only [List.length_nil]
      rw [run_convert_bytes_string w src dst e _ _ _ hs he hd, run_bytesToString w ⟨b, off, spot⟩ 0 c [] (by simp [loadCells, loadCellsFrom])]
      rfl

theorem nat_div10 (A1 : Option Addr) (c1 v : Nat) (w : World) (h1 : Nums .u32 w A1 (limbs v).length c1 (limbs v)) (hv : v < big) :
    Calls Try.prog 36 #[.slice A1 (limbs v).length c1, .int .u32 10] w (RetDiv w (limbs (v / 10), v % 10, 0)) := by
  have h := nat_div A1 _ c1 _ 10 w h1 (limbs_lim v) (by omega)
  rw [divN_limbs v 10 hv (by omega)] at h
  exact h

/-- the loop of 'Text' -/
def TextRel (w : World) (v0 : Nat) (a d : Value) (wr : World) : Prop :=
  ∃ (v : Nat) (ds : List Nat) (A1 : Option Addr) (c1 : Nat) (A2 : Option Addr) (c2 : Nat), v < big ∧ a = .slice A1 (limbs v).length c1 ∧ Nums .u32 wr A1 (limbs v).length c1 (limbs v) ∧
    d = .slice A2 ds.length c2 ∧ wr.ownsRow w.heap.size 5 1 (.slice A2 ds.length c2) ds.length (nums .u8 ds) ∧ ds ++ digR v = digR v0 ∧ Below w.heap.size w wr

set_option maxHeartbeats 2000000 in
theorem nat_text_ok (A1 : Option Addr) (c1 v0 : Nat) (w : World) (h1 : Nums .u32 w A1 (limbs v0).length c1 (limbs v0)) (hvb : v0 < big) :
    Calls Try.prog 41 #[.slice A1 (limbs v0).length c1] w fun e w' => e = .returned (.string (str (digR v0).reverse)) ∧ Below w.heap.size w w' := by
  have hdl := digR_len_big v0 hvb
  have r1 := right_of_limbs v0 hvb
  go_enter Try.func41, Try.ntmps41
  go_wp2_with (go_at_call 30; (with_reducible refine (nat_right _ _ _ _ _ h1).mono ?_); rintro e w' ⟨rfl, rfl⟩)
  go_loopw [0, 3] (TextRel w v0) (fun _ d _ => 2000 - lenOf d)
  case atStart => exact ⟨v0, [], A1, c1, none, 0, hvb, rfl, h1, rfl, World.ownsRow_nil _ _ _ _, rfl, Below.refl _ _⟩
  case round =>
    clear h1 r1
    obtain ⟨v, ds, A1, c1, A2, c2, hv, rfl, h1, rfl, hown, hds, hbel⟩ := hrel
    have r1 := right_of_limbs v hv
    have Hstep := Lib.hid (digR_step v)
    have Hds := Lib.hid hds
    have hlen : ds.length ≤ 1024 := by
      have : (ds ++ digR v).length = (digR v0).length := by rw [hds]
      rw [List.length_append] at this
      omega
    clear hds
    have hbs := hbel.size
    have hdm : v % 10 < 10 := Nat.mod_lt _ (by omega)
    have hcv : ∀ (w : World) (A : Option Addr) (n c : Nat) (zs : List Nat), zs.length = n → Nums .u8 w A n c zs → (convert 65 9 (.slice A n c)).run Try.prog w = .ok (.string (str zs)) w :=
      fun w A n c zs hn h => by subst hn; exact run_bytes_str w _ _ _ Try.underlying65 Try.underlying5 Try.underlying9 A c zs h
    have Hcv := Lib.hid hcv
    clear hcv
    by_cases hq : v / 10 = 0
    · have hl0 : (limbs (v / 10)).length = 0 := by rw [hq, limbs_zero]; rfl
      have hfin : digR v0 = ds ++ [48 + v % 10] := by rw [← Hds.out, Hstep.out, if_pos hq]
      have Hfin := Lib.hid hfin
      have Hl0 := Lib.hid hl0
      clear hfin hdl hq hl0
      go_wp2_with (first
        | (go_at_call 36; (with_reducible refine (nat_div10 A1 c1 v wr h1 hv).mono ?_); rintro e w1 ⟨A3, c3, rfl, hN, hB, hfr⟩; simp only [Hl0.out])
        | (at_builtin; refine wpl_append1 (w := w1) rfl _ _ 65 rfl w.heap.size 5 (.int .u8 0) 1 Try.underlying65 Try.info5 rfl _ ds.length _ _ rfl (own_below hown hB) (.int .u8 (48 + (v : Int) % 10)) rfl rfl (by omega) (by omega) (by have := hB.size; omega) ?_; intro A4 c4 w2 ho hg)
        | fail)
      have ho' : w2.ownsRow w.heap.size 5 1 (.slice A4 (ds ++ [48 + v % 10]).length c4) (ds ++ [48 + v % 10]).length (nums .u8 (ds ++ [48 + v % 10])) := by
        rw [nums_snoc, List.length_append, List.length_singleton]
        exact ho
      have hb2 : Below w.heap.size w w2 := below_append (hbel.trans (hB.mono hbs)) hg (own_below hown hB) (by have := hB.size; omega)
      have hcall := reverse_bytes w.heap.size A4 c4 (ds ++ [48 + v % 10]) w2 ho' (by simp; omega)
      rw [List.length_append, List.length_singleton] at hcall
      refine hcall.mono ?_
      rintro e w3 ⟨rfl, ho3, hb3⟩
      have hc3 := Hcv.out w3 A4 (ds.length + 1) c4 _ (by simp) (own_sl ho3)
      rw [← Hfin.out] at hc3
      clear ho ho' hcall hown
      go_wp2
      go_ret
      exact ⟨rfl, hb2.trans hb3⟩
    · have hl0 : (((limbs (v / 10)).length : Int) == 0) = false := by
        simp
        exact limbs_ne_nil _ hq
      have hfin : (ds ++ [48 + v % 10]) ++ digR (v / 10) = digR v0 := by rw [← Hds.out, Hstep.out, if_neg hq, List.append_assoc]; rfl
      have Hfin := Lib.hid hfin
      have hvq : v / 10 < big := by omega
      clear hfin hq
      go_wp2_with (first
        | (go_at_call 36; (with_reducible refine (nat_div10 A1 c1 v wr h1 hv).mono ?_); rintro e w1 ⟨A3, c3, rfl, hN, hB, hfr⟩)
        | (at_builtin; refine wpl_append1 (w := w1) rfl _ _ 65 rfl w.heap.size 5 (.int .u8 0) 1 Try.underlying65 Try.info5 rfl _ ds.length _ _ rfl (own_below hown hB) (.int .u8 (48 + (v : Int) % 10)) rfl rfl (by omega) (by omega) (by have := hB.size; omega) ?_; intro A4 c4 w2 ho hg)
        | fail)
      go_roundw
      case rel =>
        have hb2 : Below w.heap.size w w2 := below_append (hbel.trans (hB.mono hbs)) hg (own_below hown hB) (by have := hB.size; omega)
        refine ⟨v / 10, ds ++ [48 + v % 10], A3, c3, A4, c4, hvq, rfl, ?_, by simp, ?_, Hfin.out, hb2⟩
        · refine hN.grown hg fun b off he hrow => ?_
          have h1 := hfr b off he
          have h2 := hown.lt b hrow.symm
          omega
        · rw [nums_snoc, List.length_append, List.length_singleton]
          exact ho
      case measure => simp [lenOf]; omega

theorem nat_text (A1 : Option Addr) (n c1 : Nat) (xs : List Nat) (w : World) (h1 : Nums .u32 w A1 n c1 xs) (lx : Lim xs) :
    Calls Try.prog 41 #[.slice A1 n c1] w fun e w' => e = .returned (.string (str (textN xs))) ∧ Below w.heap.size w w' := by
  obtain rfl := h1.len
  by_cases r1 : rightB xs = true
  case neg =>
    have r1' : rightB xs = false := by simpa using r1
    have hfin : textN xs = [] := by simp [textN, r1']
    rw [hfin]
    clear hfin r1
    go_enter Try.func41, Try.ntmps41
    go_wp2_with (go_at_call 30; (with_reducible refine (nat_right _ _ _ _ _ h1).mono ?_); rintro e w' ⟨rfl, rfl⟩)
    go_ret
    exact ⟨rfl, Below.refl _ _⟩
  have hfin : textN xs = (digR (val xs)).reverse := by simp [textN, r1]
  obtain ⟨hxs, hvb⟩ := limbs_of_right xs lx r1
  rw [hfin]
  rw [hxs] at h1 ⊢
  rw [val_limbs]
  exact nat_text_ok A1 c1 (val xs) w h1 hvb
end Go.Proofs.Ytapnnnciaagbdaa
