/- Walks: nat's twice, take and Quo. -/
import Derived.Test.YtapnnnciaagbdaaNatW9
import Derived.Test.YtapnnnciaagbdaaNatPlain5
import Derived.Test.YtapnnnciaagbdaaKit3
namespace Go.Proofs.Ytapnnnciaagbdaa
open Go.RowKit
set_option linter.unusedVariables false
set_option linter.unusedSimpArgs false

theorem own_fresh {w : World} {base e : Nat} {A : Option Addr} {n c : Nat} {xs : List Value} (h : w.ownsRow base e 1 (.slice A n c) n xs) (b off : Nat) (hA : A = some ⟨b, off, none⟩) : base ≤ b := by
  rcases h.2 with ⟨hv, rfl⟩ | ⟨g, cap, cur, hv, hb, hg, hnc, hcm, hcs, htake⟩
  · simp at hv
    rw [hv.1] at hA; cases hA
  · injection hv with h1 h2 h3
    rw [h1] at hA
    injection hA with hA
    injection hA with hA
    omega

theorem nums_far {k : IntKind} {w : World} {A : Option Addr} {n c : Nat} {xs : List Nat} (h : Nums k w A n c xs) {B : Nat} (hf : ∀ b off, A = some ⟨b, off, none⟩ → B < b) (i : Nat) (u : Value) :
    Nums k (w.setCell ⟨B, i, none⟩ u) A n c xs := by
  refine ⟨h.1, h.2.1, h.2.2.1, fun hn => ?_⟩
  obtain ⟨b, off, e, hb, hc⟩ := h.2.2.2 hn
  have := hf b off e
  refine ⟨b, off, e, by simpa using hb, fun j hj => ?_⟩
  rw [World.cell?_setCell_other _ _ _ _ (by intro h; simp only [Addr.mk.injEq] at h; omega)]
  exact hc j hj

/-- the loop of 'twice' -/
def TwRel (w : World) (xs : List Nat) (bit : Nat) (b o i : Value) (wr : World) : Prop :=
  ∃ (k : Nat) (A : Option Addr) (cp : Nat), k ≤ xs.length ∧ i = .int .i64 (k : Int) ∧ b = .int .u32 ((twP xs bit k).2 : Int) ∧ o = .slice A k cp ∧
    wr.ownsRow w.heap.size 34 1 (.slice A k cp) k (nums .u32 (twP xs bit k).1) ∧ Below w.heap.size w wr

theorem shl_or (x c : Nat) (hx : x < 4294967296) (hc : c ≤ 1) : bits .or .u32 ((x : Int) * 2 % 4294967296) (c : Int) = (((2 * x + c) % 4294967296 : Nat) : Int) := by
  have e : (x : Int) * 2 % 4294967296 = ((2 * x % 4294967296 : Nat) : Int) := by omega
  rw [e, u32_or_nat _ _ (by omega) (by omega), nat_join 1 _ _ (by omega) (by omega)]
  congr 1
  omega

/-- a number of limbs, made by the call, comes back -/
@[irreducible] def RetNew (w : World) (zs : List Nat) (e : Ending) (w' : World) : Prop :=
  ∃ A c, e = .returned (.slice A zs.length c) ∧ Nums .u32 w' A zs.length c zs ∧ Below w.heap.size w w' ∧ (∀ b off, A = some ⟨b, off, none⟩ → w.heap.size ≤ b)

set_option maxHeartbeats 1000000 in
theorem nat_twice (A1 : Option Addr) (n c1 : Nat) (xs : List Nat) (bit : Nat) (w : World) (h1 : Nums .u32 w A1 n c1 xs) (lx : Lim xs) (hb : bit ≤ 1) (hn : n ≤ 1000) :
    Calls Try.prog 63 #[.slice A1 n c1, .int .u32 (bit : Int)] w (RetNew w (limbs (2 * val xs + bit))) := by
  obtain rfl := h1.len
  have hmk := run_make_cap (P := Try.prog) 23 34 .u32 4 Try.underlying23 Try.info34 (xs.length + 1) (by omega) (by omega)
  have hmk' : ∀ w : World, (Instr.makeSlice 23 (.int .i64 0) (.int .i64 ((xs.length : Int) + 1))).run Try.prog w = .ok (.slice (some ⟨w.heap.size, 0, none⟩) 0 (xs.length + 1)) (w.alloc (.cells (nums .u32 (List.replicate (xs.length + 1) 0)).toArray 34)) := hmk
  clear hmk
  go_enter Try.func63, Try.ntmps63
  go_wp2
  go_loopw [1, 5, 14] (TwRel w xs bit) (fun _ _ i _ => xs.length - (intOf i).toNat)
  case atStart => exact ⟨0, _, _, Nat.zero_le _, rfl, rfl, rfl, own_cap w _ .u32 (xs.length + 1) _ (by simp) (by omega), (Below.refl _ _).alloc (Nat.le_refl _) _⟩
  case round =>
    clear hmk'
    obtain ⟨k, A, cp, hk, rfl, rfl, rfl, hown, hbel⟩ := hrel
    have hcar := twP_carry xs bit hb lx k
    have hbs := hbel.size
    by_cases hlt : k < xs.length
    · obtain ⟨b1, o1, x, rfl, hb1, Hx, hc1⟩ := (h1.below hbel).get (j := k) hlt
      have hxl := lx.of_get Hx.out
      have hso := shl_or x (twP xs bit k).2 hxl hcar
      go_wp2_with (at_builtin; refine wpl_append1 (w := wr) rfl _ _ 23 rfl w.heap.size 34 (.int .u32 0) 4 Try.underlying23 Try.info34 rfl _ k _ _ rfl hown _ rfl rfl (by omega) (by omega) (by omega) ?_; intro A4 c4 w2 ho hg)
      go_roundw
      case rel =>
        refine ⟨k + 1, A4, c4, by omega, by go_num, ?_, rfl, ?_, below_append hbel hg hown hbs⟩
        · have e : x / 2147483648 = (2 * x + (twP xs bit k).2) / 4294967296 := by omega
          simp only [twP, getD_of_get Hx.out]
          rw [← e]
          go_num
        · have e := nums_snoc .u32 (twP xs bit k).1 ((2 * x + (twP xs bit k).2) % 4294967296)
          simp only [twP, getD_of_get Hx.out]
          rw [e]
          simpa using ho
      case measure => simp [intOf]; omega
    · obtain rfl : k = xs.length := by omega
      have hlim : Lim ((twP xs bit xs.length).1 ++ [(twP xs bit xs.length).2]) := (twP_lim xs bit xs.length).append (Lim.mk (by omega) Lim.nil)
      have Hfin := Lib.hid (neatL_limbs _ hlim)
      rw [twP_all] at Hfin
      have Hlen := Lib.hid (twP_len xs bit xs.length)
      have He := Lib.hid (nums_snoc .u32 (twP xs bit xs.length).1 (twP xs bit xs.length).2)
      go_wp2_with (first
        | (at_builtin; refine wpl_append1 (w := wr) rfl _ _ 23 rfl w.heap.size 34 (.int .u32 0) 4 Try.underlying23 Try.info34 rfl _ xs.length _ _ rfl hown _ rfl rfl (by omega) (by omega) (by omega) ?_; intro A4 c4 w2 ho hg; rw [← He.out] at ho)
        | (go_at_call 57; have hnn : Nums .u32 w2 A4 (xs.length + 1) c4 ((twP xs bit xs.length).1 ++ [(twP xs bit xs.length).2]) := own_sl ho; (with_reducible refine (nat_neat _ _ _ _ _ hnn).mono ?_); rintro e w' ⟨rfl, hN, rfl⟩))
      have hfr := own_fresh ho
      go_ret
      rw [Hfin.out] at hN ⊢
      unfold RetNew
      exact ⟨_, _, rfl, hN, below_append hbel hg hown hbs, hfr⟩

/-- what 'take' gives -/
@[irreducible] def RetTake (w : World) (xs ys : List Nat) (e : Ending) (w' : World) : Prop :=
  ∃ (A : Option Addr) (c : Nat), e = .returned (.tuple #[.slice A (neatL (subP xs ys xs.length).1).length c, .bool (decide ((subP xs ys xs.length).2 = 0 ∧ ys.length ≤ xs.length))]) ∧
    Nums .u32 w' A (neatL (subP xs ys xs.length).1).length c (neatL (subP xs ys xs.length).1) ∧ Below w.heap.size w w' ∧ (∀ b off, A = some ⟨b, off, none⟩ → w.heap.size ≤ b)

set_option maxHeartbeats 1000000 in
theorem nat_take (A1 : Option Addr) (n c1 : Nat) (xs : List Nat) (A2 : Option Addr) (m c2 : Nat) (ys : List Nat) (w : World)
    (h1 : Nums .u32 w A1 n c1 xs) (h2 : Nums .u32 w A2 m c2 ys) (lx : Lim xs) (ly : Lim ys) (hn : n ≤ 1000) :
    Calls Try.prog 64 #[.slice A1 n c1, .slice A2 m c2] w (RetTake w xs ys) := by
  obtain rfl := h1.len
  obtain rfl := h2.len
  go_enter Try.func64, Try.ntmps64
  go_wp2_with (go_at_call 55; (with_reducible refine (clone_nat _ _ _ _ _ h1 (by omega)).mono ?_); rintro e w2 ⟨A, c, rfl, hown', hb2'⟩)
  go_loopw [7, 14] (SubRel w A xs.length c xs ys) (fun _ i _ => xs.length - (intOf i).toNat)
  case atStart => exact ⟨0, Nat.zero_le _, rfl, rfl, hown', hb2'⟩
  case round =>
    clear hown' hb2'
    obtain ⟨k, hk, rfl, rfl, hown, hbel⟩ := hrel
    have hbor := subP_borrow xs ys k
    have Hpl := Lib.hid (subP_len xs ys k)
    by_cases hlt : k < xs.length
    · obtain ⟨g, u, rfl, hg, hgl, Hu, hc1, hfro⟩ := own_at hown hlt
      obtain ⟨x, Hx⟩ : ∃ x, Hid (xs[k]? = some x) := ⟨_, Lib.hid (List.getElem?_eq_getElem hlt)⟩
      have hu : u = .int .u32 (x : Int) := by
        obtain ⟨x', hx', rfl⟩ := nums_get _ _ _ _ Hu.out
        rw [buf_get2 _ _ _ _ Hpl.out Hx.out] at hx'
        injection hx' with hx'
        rw [hx']
      subst hu
      have hxl := lx.of_get Hx.out
      by_cases hkm : k < ys.length
      · obtain ⟨b2, o2, y, rfl, hb2, Hy, hc2⟩ := (h2.below hbel).get (j := k) hkm
        have hyl := ly.of_get Hy.out
        go_wp2_with (go_at_call 56; (with_reducible refine (bits_sub32 x y _ _ hxl hyl hbor).mono ?_); rintro e w' ⟨rfl, rfl⟩)
        go_roundw
        case rel =>
          refine ⟨k + 1, by omega, by go_num, ?_, ?_, hbel.setCell hg _⟩
          · simp only [subP, getD_of_get Hx.out, getD_of_get Hy.out]
          · have := own_set hown k (.int .u32 (((4294967296 + x - y - (subP xs ys k).2) % 4294967296 : Nat) : Int))
            rw [← nums_set, buf_step2 _ xs k _ Hpl.out hlt] at this
            simpa [subP, Hx.out, Hy.out] using this
        case measure => simp [intOf]; omega
      · have Hy0 := Lib.hid (getD_of_ge (xs := ys) (j := k) (by omega))
        go_wp2_with (go_at_call 56; (with_reducible refine (bits_sub32_zero x _ _ hxl hbor).mono ?_); rintro e w' ⟨rfl, rfl⟩)
        go_roundw
        case rel =>
          refine ⟨k + 1, by omega, by go_num, ?_, ?_, hbel.setCell hg _⟩
          · simp only [subP, getD_of_get Hx.out, Hy0.out, Nat.sub_zero]
          · have := own_set hown k (.int .u32 (((4294967296 + x - 0 - (subP xs ys k).2) % 4294967296 : Nat) : Int))
            rw [← nums_set, buf_step2 _ xs k _ Hpl.out hlt] at this
            have hy := Hy0.out
            rw [List.getD_eq_getElem?_getD] at hy
            simpa [subP, Hx.out, hy] using this
        case measure => simp [intOf]; omega
    · obtain rfl : k = xs.length := by omega
      rw [List.drop_length, List.append_nil] at hown
      have hnums : Nums .u32 wr A xs.length c (subP xs ys xs.length).1 := own_sl hown
      have hfr := own_fresh hown
      have H : ∀ v : Bool, v = decide ((subP xs ys xs.length).2 = 0 ∧ ys.length ≤ xs.length) →
          ∀ w', Nums .u32 w' A (neatL (subP xs ys xs.length).1).length (neatL (subP xs ys xs.length).1).length (neatL (subP xs ys xs.length).1) → Below w.heap.size w w' →
          RetTake w xs ys (.returned (.tuple #[.slice A (neatL (subP xs ys xs.length).1).length (neatL (subP xs ys xs.length).1).length, .bool v])) w' := by
        intro v hv w' hN hb
        subst hv
        unfold RetTake
        exact ⟨_, _, rfl, hN, hb, hfr⟩
      have Hlen := Lib.hid (subP_len xs ys xs.length)
      generalize hbv : (subP xs ys xs.length).2 = bv at *
      clear hbv
      by_cases h0 : bv = 0
      · subst h0
        by_cases hle : ys.length ≤ xs.length
        · have hd : decide ((xs.length : Int) ≥ (ys.length : Int)) = true := by simp; omega
          go_wp2_with (go_at_call 57; (with_reducible refine (nat_neat _ _ _ _ _ hnums).mono ?_); rintro e w' ⟨rfl, hN, rfl⟩)
          go_ret2
          exact H _ (by simp [hle]) _ hN hbel
        · have hd : decide ((xs.length : Int) ≥ (ys.length : Int)) = false := by simp; omega
          go_wp2_with (go_at_call 57; (with_reducible refine (nat_neat _ _ _ _ _ hnums).mono ?_); rintro e w' ⟨rfl, hN, rfl⟩)
          go_ret2
          exact H _ (by simp [hle]) _ hN hbel
      · have hb0 : ((bv : Int) == 0) = false := by simp [h0]
        go_wp2_with (go_at_call 57; (with_reducible refine (nat_neat _ _ _ _ _ hnums).mono ?_); rintro e w' ⟨rfl, hN, rfl⟩)
        go_ret2
        exact H _ (by simp [h0]) _ hN hbel
end Go.Proofs.Ytapnnnciaagbdaa
