/- Walks: the reference's Same; the fixed fact of layer 1. -/
import Derived.Test.YtapnnnciaagbdaaNatW8
namespace Go.Proofs.Ytapnnnciaagbdaa
open Go.RowKit
set_option linter.unusedVariables false
set_option linter.unusedSimpArgs false

theorem same_step {xs ys : List Nat} (h : xs.length = ys.length) (hd : ∀ j, j < xs.length → xs.getD j 0 = ys.getD j 0) : xs = ys := by
  apply List.ext_getElem h
  intro j h1 h2
  have := hd j h1
  simpa [List.getElem?_eq_getElem h1, List.getElem?_eq_getElem h2] using this

set_option maxHeartbeats 1000000 in
theorem ref_same (A1 : Option Addr) (n c1 : Nat) (xs : List Nat) (A2 : Option Addr) (m c2 : Nat) (ys : List Nat) (w : World)
    (h1 : Nums .u32 w A1 n c1 xs) (h2 : Nums .u32 w A2 m c2 ys) :
    Calls Try.prog 18 #[.slice A1 n c1, .slice A2 m c2] w (Quiet w (.bool (xs == ys))) := by
  obtain rfl := h1.len
  obtain rfl := h2.len
  have hcap := h1.cap
  by_cases hne : xs.length = ys.length
  case neg =>
    have hfin : (xs == ys) = false := by
      rw [beq_eq_false_iff_ne]; intro h; exact hne (by rw [h])
    rw [hfin]
    have ht : ((xs.length : Int) != (ys.length : Int)) = true := by rw [bne_iff_ne]; omega
    clear hfin hne
    go_enter Try.func18, Try.ntmps18
    go_wp2
    go_ret
    exact ⟨rfl, Same.refl _⟩
  have ht : ((xs.length : Int) != (ys.length : Int)) = false := by rw [bne_eq_false_iff_eq]; omega
  have Hne := Lib.hid hne
  clear hne
  go_enter Try.func18, Try.ntmps18
  go_wp2
  go_loopw [5] (fun i wr => ∃ k : Nat, k ≤ xs.length ∧ i = .int .i64 (k : Int) ∧ (∀ j, j < k → xs.getD j 0 = ys.getD j 0) ∧ Same w wr) (fun i _ => xs.length - (intOf i).toNat)
  case atStart => exact ⟨0, Nat.zero_le _, rfl, fun j hj => by omega, Same.refl _⟩
  case round =>
    obtain ⟨k, hk, rfl, hrel, hsame⟩ := hrel
    have Hrel := Lib.hid hrel
    clear hrel
    by_cases hlt : k < xs.length
    · obtain ⟨b1, o1, x, rfl, hb1, Hx, hc1⟩ := (h1.same hsame).get (j := k) hlt
      obtain ⟨b2, o2, y, rfl, hb2, Hy, hc2⟩ := (h2.same hsame).get (j := k) (by have := Hne.out; omega)
      have i0 : (0 : Int) ≤ (k : Int) := by omega
      have i1 : (k : Int) < (xs.length : Int) := by omega
      have i2 : (k : Int) < (ys.length : Int) := by have := Hne.out; omega
      by_cases hxy : x = y
      · have he : ((x : Int) != (y : Int)) = false := by rw [bne_eq_false_iff_eq]; omega
        have Hxy := Lib.hid hxy
        clear hxy
        go_wp2
        go_quiet (fail)
        go_wp2
        go_roundw
        case rel =>
          refine ⟨k + 1, by omega, by go_num, fun j hj => ?_, hsame.drewN _⟩
          rcases Nat.lt_or_ge j k with h | h
          · exact Hrel.out j h
          · obtain rfl : j = k := by omega
            rw [getD_of_get Hx.out, getD_of_get Hy.out, Hxy.out]
        case measure => simp [intOf]; omega
      · have he : ((x : Int) != (y : Int)) = true := by rw [bne_iff_ne]; omega
        have hfin : (xs == ys) = false := by
          rw [beq_eq_false_iff_ne]
          intro h
          have h1 := Hx.out
          rw [h, Hy.out] at h1
          injection h1 with h1
          exact hxy h1.symm
        have Hfin := Lib.hid hfin
        clear hfin hxy
        go_wp2
        go_quiet (fail)
        go_wp2
        go_ret
        rw [Hfin.out]
        exact ⟨rfl, hsame.drewN _⟩
    · have hfin : (xs == ys) = true := by
        rw [beq_iff_eq]
        exact same_step Hne.out fun j hj => Hrel.out j (by omega)
      have Hfin := Lib.hid hfin
      clear hfin
      go_wp2
      go_ret
      rw [Hfin.out]
      exact ⟨rfl, hsame⟩

theorem toList_str (l : List Nat) : (str l).toList = l.map UInt8.ofNat := by simp [str]

theorem lim_of (xs : List Nat) (h : xs.all (· < 4294967296) = true) : Lim xs := fun x hx => by
  have := List.all_eq_true.1 h x hx
  simpa using this

set_option maxHeartbeats 4000000 in
theorem alive01 (w : World) : Calls Try.prog 23 #[] w fun e w' => e = .returned (.bool true) ∧ Below w.heap.size w w' := by
  have hstr := toList_str
  have hown : ∀ w : World, Nums .u32 (w.alloc (.cells #[.int .u32 0] 34)) (some ⟨w.heap.size, 0, none⟩) 1 1 [0] := fun w => (Own.new w 34 .u32 [0]).nums rfl (Nat.le_refl _) (by omega)
  have Hown := Lib.hid hown
  clear hown
  go_enter Try.func23, Try.ntmps23
  go_wp2_with fail
  have h := nat_of_i 4294967296 w (by decide) (by decide)
  rw [show limbs (Int.toNat 4294967296) = [0, 1] from by decide +kernel] at h
  refine h.mono ?_
  rintro e w1 ⟨Ax, cx, rfl, hx, hb1⟩
  clear h
  have hB := hb1
  obtain ⟨bx, ox, u, rfl, hbx, Hu, hcx⟩ := hx.get (j := 1) (by decide)
  obtain rfl : u = 1 := by have := Hu.out; simp at this; omega
  clear hcx hbx Hu
  go_wp2_with fail
  have h := nat_of_i 3 w1 (by decide) (by decide)
  rw [show limbs (Int.toNat 3) = [3] from by decide +kernel] at h
  refine h.mono ?_
  rintro e w2 ⟨A3, c3, rfl, h3, hb2⟩
  clear h
  replace hx := hx.below hb2
  replace hB := below_tail hB hb2
  clear hb2
  go_wp2_with fail
  have h := nat_mul _ 2 cx [0, 1] A3 1 c3 [3] w2 hx h3 (lim_of _ rfl) (lim_of _ rfl)
  rw [show mulN [0, 1] [3] = ([0, 3], 0) from by decide +kernel] at h
  refine h.mono ?_
  rintro e w3 ⟨Ay, cy, rfl, hy, hb3⟩
  clear h
  replace hx := hx.below hb3
  replace hB := below_tail hB hb3
  clear hb3
  go_wp2_with fail
  have h := nat_of_i 1 w3 (by decide) (by decide)
  rw [show limbs (Int.toNat 1) = [1] from by decide +kernel] at h
  refine h.mono ?_
  rintro e w4 ⟨A1, c1, rfl, h1, hb4⟩
  clear h
  replace hx := hx.below hb4
  replace hy := hy.below hb4
  replace hB := below_tail hB hb4
  clear hb4
  go_wp2_with fail
  have h := nat_sub Ay 2 cy [0, 3] A1 1 c1 [1] w4 hy h1 (lim_of _ rfl) (lim_of _ rfl)
  rw [show subN [0, 3] [1] = ([4294967295, 2], 0) from by decide +kernel] at h
  refine h.mono ?_
  rintro e w5 ⟨Az, cz, rfl, hz, hb5⟩
  clear h
  replace hx := hx.below hb5
  replace hy := hy.below hb5
  replace hB := below_tail hB hb5
  clear hb5
  go_wp2_with fail
  have h := nat_div Az 2 cz [4294967295, 2] 10 w5 hz (lim_of _ rfl) (by decide)
  rw [show divN [4294967295, 2] 10 = ([1288490188], 7, 0) from by decide +kernel] at h
  refine h.mono ?_
  rintro e w6 ⟨Aq, cq, rfl, hq, hb6, _⟩
  clear h
  replace hx := hx.below hb6
  replace hy := hy.below hb6
  replace hz := hz.below hb6
  replace hB := below_tail hB hb6
  clear hb6
  go_wp2_with fail
  have h := nat_parse ⟨#[49, 50, 56, 56, 52, 57, 48, 49, 56, 56, 55]⟩ w6 (by decide)
  rw [show parseN (bytesOf ⟨#[49, 50, 56, 56, 52, 57, 48, 49, 56, 56, 55]⟩) = ([4294967295, 2], 0) from by decide +kernel] at h
  refine h.mono ?_
  rintro e w7 ⟨Ap, cp, rfl, hp, hb7⟩
  clear h
  replace hx := hx.below hb7
  replace hy := hy.below hb7
  replace hz := hz.below hb7
  replace hq := hq.below hb7
  replace hB := below_tail hB hb7
  clear hb7
  go_wp2_with fail
  have h := nat_of_i 1 w7 (by decide) (by decide)
  rw [show limbs (Int.toNat 1) = [1] from by decide +kernel] at h
  refine h.mono ?_
  rintro e w8 ⟨A8, c8, rfl, h8, hb8⟩
  clear h
  replace hx := hx.below hb8
  replace hy := hy.below hb8
  replace hz := hz.below hb8
  replace hq := hq.below hb8
  replace hp := hp.below hb8
  replace hB := below_tail hB hb8
  clear hb8
  go_wp2_with fail
  have h := nat_sub A8 1 c8 [1] _ 2 cx [0, 1] w8 h8 hx (lim_of _ rfl) (lim_of _ rfl)
  rw [show subN [1] [0, 1] = ([], 11) from by decide +kernel] at h
  refine h.mono ?_
  rintro e w9 ⟨A9, c9, rfl, h9, hb9⟩
  clear h
  replace hx := hx.below hb9
  replace hy := hy.below hb9
  replace hz := hz.below hb9
  replace hq := hq.below hb9
  replace hp := hp.below hb9
  replace hB := below_tail hB hb9
  clear hb9
  go_wp2_with fail
  have h := nat_parse ⟨#[48, 49]⟩ w9 (by decide)
  rw [show parseN (bytesOf ⟨#[48, 49]⟩) = ([], 3) from by decide +kernel] at h
  refine h.mono ?_
  rintro e w10 ⟨A10, c10, rfl, h10, hb10⟩
  clear h
  replace hx := hx.below hb10
  replace hy := hy.below hb10
  replace hz := hz.below hb10
  replace hq := hq.below hb10
  replace hp := hp.below hb10
  replace hB := below_tail hB hb10
  clear hb10
  obtain ⟨bx', ox', u', he', hbx', Hu', hcx'⟩ := hx.get (j := 1) (by decide)
  injection he' with he'
  injection he' with he1 he2
  subst he1; subst he2
  obtain rfl : u' = 1 := by have := Hu'.out; simp at this; omega
  go_wp2_with fail
  have h := nat_text Az 2 cz [4294967295, 2] w10 hz (lim_of _ rfl)
  rw [show textN [4294967295, 2] = [49, 50, 56, 56, 52, 57, 48, 49, 56, 56, 55] from by decide +kernel] at h
  refine h.mono ?_
  rintro e w11 ⟨rfl, hb11⟩
  clear h
  replace hx := hx.below hb11
  replace hy := hy.below hb11
  replace hz := hz.below hb11
  replace hp := hp.below hb11
  replace hq := hq.below hb11
  replace hB := below_tail hB hb11
  go_wp2_with fail
  have h := nat_cmp Ap 2 cp [4294967295, 2] Az 2 cz [4294967295, 2] w11 hp hz (lim_of _ rfl) (lim_of _ rfl)
  rw [show cmpN [4294967295, 2] [4294967295, 2] = 0 from by decide +kernel] at h
  refine h.mono ?_
  rintro e w12 ⟨rfl, hs12⟩
  clear h
  replace hx := hx.same hs12
  replace hy := hy.same hs12
  replace hz := hz.same hs12
  replace hq := hq.same hs12
  replace hB := hB.trans (hs12.below _)
  go_wp2_with fail
  have h := nat_cmp _ 2 cx [0, 1] Ay 2 cy [0, 3] w12 hx hy (lim_of _ rfl) (lim_of _ rfl)
  rw [show cmpN [0, 1] [0, 3] = -1 from by decide +kernel] at h
  refine h.mono ?_
  rintro e w13 ⟨rfl, hs13⟩
  clear h
  replace hx := hx.same hs13
  replace hz := hz.same hs13
  replace hq := hq.same hs13
  replace hB := hB.trans (hs13.below _)
  go_wp2_with fail
  have h := nat_text Aq 1 cq [1288490188] w13 hq (lim_of _ rfl)
  rw [show textN [1288490188] = [49, 50, 56, 56, 52, 57, 48, 49, 56, 56] from by decide +kernel] at h
  refine h.mono ?_
  rintro e w14 ⟨rfl, hb14⟩
  clear h
  replace hx := hx.below hb14
  replace hz := hz.below hb14
  replace hB := below_tail hB hb14
  go_wp2_with fail
  have h := nat_bits _ 2 cx [0, 1] w14 hx (lim_of _ rfl)
  rw [show bitsN [0, 1] = 33 from by decide +kernel] at h
  refine h.mono ?_
  rintro e w15 ⟨rfl, rfl⟩
  clear h
  go_wp2_with fail
  have h := nat_right Az 2 cz [4294967295, 2] w14 hz
  rw [show rightB [4294967295, 2] = true from by decide +kernel] at h
  refine h.mono ?_
  rintro e w16 ⟨rfl, rfl⟩
  clear h
  go_wp2_with fail
  have h := nat_right _ 1 1 [0] _ (Hown.out w14)
  rw [show rightB [0] = false from by decide +kernel] at h
  refine h.mono ?_
  rintro e w17 ⟨rfl, rfl⟩
  clear h
  go_wp2_with fail
  go_ret
  exact ⟨rfl, hB.alloc hB.size _⟩
end Go.Proofs.Ytapnnnciaagbdaa
