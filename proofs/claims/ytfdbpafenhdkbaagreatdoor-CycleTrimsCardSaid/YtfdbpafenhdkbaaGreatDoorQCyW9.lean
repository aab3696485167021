/- the program's one, those, reach: walked. -/
import Derived.Test.YtfdbpafenhdkbaaGreatDoorQCyW8
import Derived.Shelf.SlicesE.Compact
import Derived.Ground.SlgfProg
import Derived.Shelf.SlicesE.IndexFunc
import Derived.Shelf.SlicesE.DeleteFunc
import Derived.Test.YtfdbpafenhdkbaaGreatDoorQGrShelf
namespace Go.Proofs.YtfdbpafenhdkbaaGreatDoor
open Go.RowKit
set_option linter.unusedVariables false
set_option linter.unusedSimpArgs false

theorem ofN_one (n : Int) : ofN [n] = bitN n := by simp [ofN]
set_option maxHeartbeats 1000000 in
theorem tr_one (n : Int) (w : World) : Calls Tryz.prog 29 #[.int .i64 n] w fun e w' => e = .returned (.int .u32 ((bitN n : Nat) : Int)) ∧ Below w.heap.size w w' := by
  have hb := alloc_below w (.cells #[.int .i64 n] 3)
  have cO := set_of (some ⟨w.heap.size, 0, none⟩) 1 1 [n] (w.alloc (.cells #[.int .i64 n] 3)) (one_int w 3 n)
  rw [ofN_one] at cO
  have CO := Lib.hid cO
  have Hb := Lib.hid hb
  clear cO hb
  go_enter Tryz.func29, Tryz.ntmps29
  go_wp2_with (go_at_call 58; (with_reducible refine CO.out.mono ?_); rintro e w' ⟨rfl, rfl⟩)
  go_ret
  exact ⟨rfl, Hb.out⟩

set_option maxHeartbeats 1000000 in
theorem tr_those (g n : Nat) (N : List Bool) (w : World) (hN : BoolT w g N) (hn : N.length = n) (hn2 : n ≤ 1000) :
    Calls Tryz.prog 55 #[.slice (some ⟨g, 0, none⟩) n n] w fun e w' => e = .returned (.int .u32 ((setB (fun i => N.getD i false) n : Nat) : Int)) ∧ Below w.heap.size w w' := by
  have HN := Lib.hid hN
  have Hn := Lib.hid hn
  clear hN hn
  go_enter Tryz.func55, Tryz.ntmps55
  go_wp2_with fail
  go_loopw [2, 7] (fun s i wr => ∃ j : Nat, j ≤ n ∧ i = .int .i64 (j : Int) ∧ s = .int .u32 ((setB (fun i => N.getD i false) j : Nat) : Int) ∧ Hid (Below w.heap.size w wr)) (fun s i _ => n - (intOf i).toNat)
  case atStart => exact ⟨0, Nat.zero_le _, rfl, rfl, Lib.hid (Below.refl _ _)⟩
  case round =>
    obtain ⟨j, hj, rfl, rfl, HB⟩ := hrel
    by_cases hjj : j < n
    case neg =>
      obtain rfl : j = n := by omega
      go_wp2_with fail
      go_ret
      exact ⟨rfl, HB.out⟩
    case pos =>
      have HNw : Hid (BoolT wr g N) := Lib.hid (Blk.ext HN.out HB.out)
      have hat := HNw.out.at (i := j) (by rw [Hn.out]; exact hjj)
      have hsc := setB_succ (fun i => N.getD i false) j
      have hor := or32 (setB (fun i => N.getD i false) j) (bitN (j : Int)) (setB_lt _ _) (bitN_lt _)
      have cB := tr_one (j : Int) wr
      generalize setB (fun i => N.getD i false) j = s0 at *
      generalize N.getD j false = p at *
      generalize bitN (j : Int) = bj at *
      have Hsc := Lib.hid hsc
      have CB := Lib.hid cB
      clear hsc cB
      cases p
      · go_wp2_with fail
        go_roundw
        case rel => exact ⟨j + 1, by omega, by go_num, by rw [Hsc.out]; rfl, HB⟩
        case measure => simp [intOf]; omega
      · go_wp2_with (go_at_call 29; (with_reducible refine CB.out.mono ?_); rintro e w' ⟨rfl, hbw⟩)
        go_roundw
        case rel => exact ⟨j + 1, by omega, by go_num, by rw [Hsc.out]; rfl, Lib.hid (below_tail HB.out hbw)⟩
        case measure => simp [intOf]; omega
set_option maxHeartbeats 1000000 in
theorem tr_those_nil (w : World) :
    Calls Tryz.prog 55 #[.slice none 0 0] w fun e w' => e = .returned (.int .u32 0) ∧ w = w' := by
  go_enter Tryz.func55, Tryz.ntmps55
  go_wp2_with fail
  go_loop [2, 7] (fun s i => s = .int .u32 0 ∧ i = .int .i64 0) (fun s i => 0)
  case atStart => exact ⟨rfl, rfl⟩
  case round =>
    obtain ⟨rfl, rfl⟩ := hrel
    go_wp2_with fail
    go_ret
    exact ⟨rfl, rfl⟩

theorem mems_get {R p : Nat} {s : Int} (h : (intsOf (memsN R))[p]? = some s) : ∃ k : Nat, s = (k : Int) ∧ (memsN R)[p]? = some k := by
  unfold intsOf at h
  rw [List.getElem?_map] at h
  cases hk : (memsN R)[p]? with
  | none => rw [hk] at h; cases h
  | some k => rw [hk] at h; exact ⟨k, by injection h with h; exact h.symm, rfl⟩

set_option maxRecDepth 20000 in
set_option maxHeartbeats 2000000 in
theorem tr_reach (g n i : Nat) (S : List Nat) (w : World) (hT : SetT w g S) (hn : S.length = n) (hn2 : n ≤ 1000) (hi : i < n) (hs : Small S) (hI : InS S) (hTab : TabAt w) :
    Calls Tryz.prog 39 #[.slice (some ⟨g, 0, none⟩) n n, .int .i64 (i : Int)] w fun e w' => e = .returned (.int .u32 (((closeS S).getD i 0 : Nat) : Int)) ∧ Below w.heap.size w w' := by
  subst hn
  have hat := hT.at hi
  have HT := Lib.hid hT
  have Hs := Lib.hid hs
  have HI := Lib.hid hI
  have HTab := Lib.hid hTab
  have H0 := Lib.hid (ReachI.start hs hI hi)
  have hd := HI.out
  have Hdone := Lib.hid fun R (h : ReachI S i R) (he : moreN S R (memsN R) = R) => ReachI.done HI.out hi h he
  generalize S.getD i 0 = v0 at hat H0
  generalize (closeS S).getD i 0 = cl at *
  clear hT hs hI hTab hd
  go_enter Tryz.func39, Tryz.ntmps39
  go_wp2_with fail
  go_loopw [5] (fun a wr => ∃ R : Nat, a = .int .u32 (R : Int) ∧ Hid (ReachI S i R) ∧ Hid (Below w.heap.size w wr)) (fun a _ => 4294967296 - (intOf a).toNat)
  case atStart => exact ⟨v0, rfl, H0, Lib.hid (Below.refl _ _)⟩
  case round =>
    obtain ⟨R, rfl, HR, HB⟩ := hrel
    have hlt := HR.out.1
    have cM := set_members R wr hlt (HTab.out.below HB.out)
    have CM := Lib.hid cM
    have Hlen := Lib.hid (mems_len R)
    clear cM
    go_wp2_with (go_at_call 28; (with_reducible refine CM.out.mono ?_); rintro e w2 ⟨A, c, rfl, hr, hb2⟩)
    have HB2 := Lib.hid (below_tail HB.out hb2)
    have Hr := Lib.hid hr
    have HT2 : Hid (SetT w2 g S) := Lib.hid (Blk.ext HT.out HB2.out)
    have Hnx := Lib.hid (ReachI.next Hs.out HI.out hi HR.out)
    have Hle := Lib.hid (moreN_le S (memsN R) R)
    clear hb2 hr hlt
    have hll : (intsOf (memsN R)).length = (memsN R).length := intsOf_length _
    have Hll := Lib.hid hll
    have hl32 : (intsOf (memsN R)).length ≤ 32 := by rw [hll]; exact Hlen.out
    generalize hL : (intsOf (memsN R)).length = L at *
    have HL := Lib.hid hL
    clear hL hll
    go_wp2_with fail
    go_loop [6, 17] (fun m k => ∃ p : Nat, p ≤ L ∧ k = .int .i64 (p : Int) ∧ m = .int .u32 ((moreN S R ((memsN R).take p) : Nat) : Int)) (fun m k => L - (intOf k).toNat)
    case atStart => exact ⟨0, Nat.zero_le _, rfl, by simp [moreN]⟩
    case round =>
      obtain ⟨p, hp, rfl, rfl⟩ := hrel
      by_cases hpp : p < L
      case neg =>
        obtain rfl : p = L := by omega
        have hall : moreN S R ((memsN R).take p) = moreN S R (memsN R) := by rw [List.take_of_length_le (by rw [← Hll.out]; exact Nat.le_refl _)]
        rw [hall]
        have Hst := Hdone.out R HR.out
        have hlt2 := Hnx.out.1
        clear hall
        generalize moreN S R (memsN R) = M at *
        by_cases heq : M = R
        · subst heq
          have hcl := Hst (by trivial)
          clear Hst
          go_wp2_with fail
          go_ret
          exact ⟨by rw [← hcl]; rfl, HB2.out⟩
        · have hne : ((M : Int) == (R : Int)) = false := by rw [beq_eq_false_iff_ne]; omega
          have hle := Hle.out
          clear Hst
          go_wp2_with fail
          go_roundw
          case rel => exact ⟨M, rfl, Hnx, HB2⟩
          case measure => simp [intOf]; omega
      case pos =>
        obtain ⟨bb, off, s, rfl, hb, Hsv, q0⟩ := Hr.out.get hpp
        obtain ⟨k, rfl, hk⟩ := mems_get Hsv.out
        have hkS : k < S.length := ((HR.out.2.2 k ((mems_mem R k).1 (List.mem_of_getElem? hk)).2)).1
        have hatk := HT2.out.at hkS
        have hsn : moreN S R ((memsN R).take (p + 1)) = moreN S R ((memsN R).take p) ||| S.getD k 0 := by rw [take_snoc' hk, moreN_snoc]
        have hor := or32 (moreN S R ((memsN R).take p)) (S.getD k 0) (moreN_lt Hs.out _ HR.out.1) (Hs.out.get k)
        generalize moreN S R ((memsN R).take p) = m0 at *
        generalize S.getD k 0 = vk at *
        have Hsn := Lib.hid hsn
        have Hk := Lib.hid hk
        clear hsn hk
        go_wp2_with fail
        go_round
        case rel => exact ⟨p + 1, by omega, by go_num, by rw [Hsn.out]⟩
        case measure => simp [intOf]; omega
end Go.Proofs.YtfdbpafenhdkbaaGreatDoor

namespace Go.Proofs
open Go.Shelf
def Tryz.laysSlE43_f81_ren : Go.Shelf.Ren := ⟨fun | 43 => 81 | n => n, fun | 22 => 23 | 23 => 9 | 3 => 3 | 4 => 4 | 0 => 0 | n => n, fun | n => n⟩
theorem Tryz.laysSlE43_f81 : Go.Proofs.SlLaysE.n43 Tryz.prog Tryz.laysSlE43_f81_ren := {
  mixed := by kernel_rfl
  f43 := ⟨Tryz.f81.name, by decide, Tryz.func81.trans (congrArg some (by kernel_rfl))⟩
  t0 := Tryz.underlying0
  a0 := Tryz.isAgg0
  z0 := Tryz.sizeOf0
  v0 := Tryz.zeroValue0
  t3 := Tryz.underlying3
  a3 := Tryz.isAgg3
  z3 := Tryz.sizeOf3
  v3 := Tryz.zeroValue3
  t4 := Tryz.underlying4
  a4 := Tryz.isAgg4
  z4 := Tryz.sizeOf4
  v4 := Tryz.zeroValue4
  t22 := Tryz.underlying23
  a22 := Tryz.isAgg23
  z22 := Tryz.sizeOf23
  v22 := Tryz.zeroValue23
  a23 := Tryz.isAgg9
  z23 := Tryz.sizeOf9 }
open Go.RowKit Go.Lib Go.Sort in
/-- slices.Compact: "Compact replaces consecutive runs of equal elements with a single copy. .. Compact zeroes the elements between the new length and the original length.": IT RETURNS THE SLICE CUT TO 'compactUpTo d d.size'; ITS CELLS HOLD THAT, THEN ZERO VALUES up to the old length; the library's two loops are walked. (LAID AT THE INSTANCE 'slices.Compact[[]string,string]': no walk: one application.) -/
theorem Tryz.slices_Compact {α : Type} [Inhabited α] [DecidableEq α] (enc : α → Value) (hO : OneCell enc) (heq : EqlAt Tryz.prog 9 enc (fun x y => decide (x = y))) (hne : NeqAt Tryz.prog 9 enc (fun x y => decide (x = y))) (zr : α) (v23 : ∀ w, (zeroValue 9).run Tryz.prog w = .ok (enc zr) w) (blk off cap : Nat) (d : Array α) (w : World) (hH : Holds enc w blk off d) (hsz : d.size ≤ 9223372036854775807) (hcap : d.size ≤ cap) :
    Calls Tryz.prog 81 #[.slice (some ⟨blk, off, none⟩) d.size cap] w fun e w' => e = .returned (.slice (some ⟨blk, off, none⟩) (compactUpTo d d.size).length cap) ∧ ∃ q, w' = putRow enc (Sort.ahead w q) blk off (compactUpTo d d.size ++ List.replicate (d.size - (compactUpTo d d.size).length) zr).toArray := AnyE.slices_Compact Tryz.laysSlE43_f81 enc hO heq hne zr v23 blk off cap d w hH hsz hcap
def Tryz.laysSlH6_f64_ren : Go.Shelf.Ren := ⟨fun | 6 => 64 | n => n, fun | 22 => 29 | 23 => 3 | 25 => 55 | 3 => 3 | 0 => 0 | 4 => 4 | n => n, fun | n => n⟩
theorem Tryz.laysSlH6_f64 : Go.Proofs.SlLaysH.n6 Tryz.prog Tryz.laysSlH6_f64_ren := {
  mixed := by kernel_rfl
  f6 := ⟨Tryz.f64.name, by decide, Tryz.func64.trans (congrArg some (by kernel_rfl))⟩
  t0 := Tryz.underlying0
  a0 := Tryz.isAgg0
  z0 := Tryz.sizeOf0
  v0 := Tryz.zeroValue0
  t3 := Tryz.underlying3
  a3 := Tryz.isAgg3
  z3 := Tryz.sizeOf3
  v3 := Tryz.zeroValue3
  t4 := Tryz.underlying4
  a4 := Tryz.isAgg4
  z4 := Tryz.sizeOf4
  v4 := Tryz.zeroValue4
  t22 := Tryz.underlying29
  a22 := Tryz.isAgg29
  z22 := Tryz.sizeOf29
  v22 := Tryz.zeroValue29
  a23 := Tryz.isAgg3
  z23 := Tryz.sizeOf3
  t25 := Tryz.underlying55
  a25 := Tryz.isAgg55
  z25 := Tryz.sizeOf55
  v25 := Tryz.zeroValue55 }
open Go.RowKit Go.Lib in
/-- slices.IndexFunc: "IndexFunc returns the first index i satisfying f(s[i]), or -1 if none do." (LAID AT THE INSTANCE 'slices.IndexFunc[[]int,int]': no walk: one application.) -/
theorem Tryz.slices_IndexFunc_f64 {α : Type} [Inhabited α] (enc : α → Value) (p : α → Bool) (g : Nat) (lb : Array Value) (eg : ∀ args w, (callFunc g args).run Tryz.prog w = .ok (.enter g args) w) (b off n c : Nat) (zs : List α) (w : World) (hp : PredAt Tryz.prog g lb enc p w) (hz : n ≤ zs.length) (hbig : n ≤ 9223372036854775807) (hc : ∀ j, j < zs.length → w.cell? ⟨b, off + j, none⟩ = some (enc zs[j]!)) :
    Calls Tryz.prog 64 #[.slice (some ⟨b, off, none⟩) n c, .func (.func g) #[] lb] w fun e w' => e = .returned (.int .i64 (Lib.idxBy (fun _ y => p y) (zs.take n) default)) ∧ ∃ q, w' = w.drewN q := AnyE.slices_IndexFunc Tryz.laysSlH6_f64 enc p g lb eg b off n c zs w hp hz hbig hc
def Tryz.laysSlH6_f82_ren : Go.Shelf.Ren := ⟨fun | 6 => 82 | n => n, fun | 22 => 23 | 23 => 9 | 25 => 76 | 3 => 3 | 0 => 0 | 4 => 4 | n => n, fun | n => n⟩
theorem Tryz.laysSlH6_f82 : Go.Proofs.SlLaysH.n6 Tryz.prog Tryz.laysSlH6_f82_ren := {
  mixed := by kernel_rfl
  f6 := ⟨Tryz.f82.name, by decide, Tryz.func82.trans (congrArg some (by kernel_rfl))⟩
  t0 := Tryz.underlying0
  a0 := Tryz.isAgg0
  z0 := Tryz.sizeOf0
  v0 := Tryz.zeroValue0
  t3 := Tryz.underlying3
  a3 := Tryz.isAgg3
  z3 := Tryz.sizeOf3
  v3 := Tryz.zeroValue3
  t4 := Tryz.underlying4
  a4 := Tryz.isAgg4
  z4 := Tryz.sizeOf4
  v4 := Tryz.zeroValue4
  t22 := Tryz.underlying23
  a22 := Tryz.isAgg23
  z22 := Tryz.sizeOf23
  v22 := Tryz.zeroValue23
  a23 := Tryz.isAgg9
  z23 := Tryz.sizeOf9
  t25 := Tryz.underlying76
  a25 := Tryz.isAgg76
  z25 := Tryz.sizeOf76
  v25 := Tryz.zeroValue76 }
open Go.RowKit Go.Lib in
/-- slices.IndexFunc: "IndexFunc returns the first index i satisfying f(s[i]), or -1 if none do." (LAID AT THE INSTANCE 'slices.IndexFunc[[]string,string]': no walk: one application.) -/
theorem Tryz.slices_IndexFunc_f82 {α : Type} [Inhabited α] (enc : α → Value) (p : α → Bool) (g : Nat) (lb : Array Value) (eg : ∀ args w, (callFunc g args).run Tryz.prog w = .ok (.enter g args) w) (b off n c : Nat) (zs : List α) (w : World) (hp : PredAt Tryz.prog g lb enc p w) (hz : n ≤ zs.length) (hbig : n ≤ 9223372036854775807) (hc : ∀ j, j < zs.length → w.cell? ⟨b, off + j, none⟩ = some (enc zs[j]!)) :
    Calls Tryz.prog 82 #[.slice (some ⟨b, off, none⟩) n c, .func (.func g) #[] lb] w fun e w' => e = .returned (.int .i64 (Lib.idxBy (fun _ y => p y) (zs.take n) default)) ∧ ∃ q, w' = w.drewN q := AnyE.slices_IndexFunc Tryz.laysSlH6_f82 enc p g lb eg b off n c zs w hp hz hbig hc
open Go.RowKit Go.Lib in
/-- The same at a slice of length 0, a nil one too: the predicate is not called: nothing is asked of it. (LAID AT THE INSTANCE 'slices.IndexFunc[[]int,int]': no walk: one application.) -/
theorem Tryz.slices_IndexFunc_empty_f64 {α : Type} [Inhabited α] (a : Option Addr) (c : Nat) (fv : Value) (w : World) :
    Calls Tryz.prog 64 #[.slice a 0 c, fv] w fun e w' => e = .returned (.int .i64 (-1)) ∧ w' = w := AnyE.slices_IndexFunc_empty Tryz.laysSlH6_f64 a c fv w
open Go.RowKit Go.Lib in
/-- The same at a slice of length 0, a nil one too: the predicate is not called: nothing is asked of it. (LAID AT THE INSTANCE 'slices.IndexFunc[[]string,string]': no walk: one application.) -/
theorem Tryz.slices_IndexFunc_empty_f82 {α : Type} [Inhabited α] (a : Option Addr) (c : Nat) (fv : Value) (w : World) :
    Calls Tryz.prog 82 #[.slice a 0 c, fv] w fun e w' => e = .returned (.int .i64 (-1)) ∧ w' = w := AnyE.slices_IndexFunc_empty Tryz.laysSlH6_f82 a c fv w
def Tryz.laysSlH8_f51_ren : Go.Shelf.Ren := ⟨fun | 8 => 51 | 6 => 82 | n => n, fun | 22 => 23 | 23 => 9 | 25 => 76 | 4 => 4 | 3 => 3 | 0 => 0 | n => n, fun | n => n⟩
theorem Tryz.laysSlH8_f51 : Go.Proofs.SlLaysH.n8 Tryz.prog Tryz.laysSlH8_f51_ren := {
  mixed := by kernel_rfl
  f6 := ⟨Tryz.f82.name, by decide, Tryz.func82.trans (congrArg some (by kernel_rfl))⟩
  f8 := ⟨Tryz.f51.name, by decide, Tryz.func51.trans (congrArg some (by kernel_rfl))⟩
  t0 := Tryz.underlying0
  a0 := Tryz.isAgg0
  z0 := Tryz.sizeOf0
  v0 := Tryz.zeroValue0
  t3 := Tryz.underlying3
  a3 := Tryz.isAgg3
  z3 := Tryz.sizeOf3
  v3 := Tryz.zeroValue3
  t4 := Tryz.underlying4
  a4 := Tryz.isAgg4
  z4 := Tryz.sizeOf4
  v4 := Tryz.zeroValue4
  t22 := Tryz.underlying23
  a22 := Tryz.isAgg23
  z22 := Tryz.sizeOf23
  v22 := Tryz.zeroValue23
  a23 := Tryz.isAgg9
  z23 := Tryz.sizeOf9
  t25 := Tryz.underlying76
  a25 := Tryz.isAgg76
  z25 := Tryz.sizeOf76
  v25 := Tryz.zeroValue76 }
open Go.RowKit Go.Lib in
/-- slices.ContainsFunc: "ContainsFunc reports whether at least one element e of s satisfies f(e).": ITS CALLEE slices.IndexFunc IS MET BY ITS OWN CONTRACT. (LAID AT THE INSTANCE 'slices.ContainsFunc[[]string,string]': no walk: one application.) -/
theorem Tryz.slices_ContainsFunc_f51 {α : Type} [Inhabited α] (enc : α → Value) (p : α → Bool) (g : Nat) (lb : Array Value) (eg : ∀ args w, (callFunc g args).run Tryz.prog w = .ok (.enter g args) w) (b off n c : Nat) (zs : List α) (w : World) (hp : PredAt Tryz.prog g lb enc p w) (hz : n ≤ zs.length) (hbig : n ≤ 9223372036854775807) (hc : ∀ j, j < zs.length → w.cell? ⟨b, off + j, none⟩ = some (enc zs[j]!)) :
    Calls Tryz.prog 51 #[.slice (some ⟨b, off, none⟩) n c, .func (.func g) #[] lb] w fun e w' => e = .returned (.bool ((zs.take n).any p)) ∧ ∃ q, w' = w.drewN q := AnyE.slices_ContainsFunc Tryz.laysSlH8_f51 enc p g lb eg b off n c zs w hp hz hbig hc
def Tryz.laysSlH8_f85_ren : Go.Shelf.Ren := ⟨fun | 8 => 85 | 6 => 64 | n => n, fun | 22 => 29 | 23 => 3 | 25 => 55 | 4 => 4 | 3 => 3 | 0 => 0 | n => n, fun | n => n⟩
theorem Tryz.laysSlH8_f85 : Go.Proofs.SlLaysH.n8 Tryz.prog Tryz.laysSlH8_f85_ren := {
  mixed := by kernel_rfl
  f6 := ⟨Tryz.f64.name, by decide, Tryz.func64.trans (congrArg some (by kernel_rfl))⟩
  f8 := ⟨Tryz.f85.name, by decide, Tryz.func85.trans (congrArg some (by kernel_rfl))⟩
  t0 := Tryz.underlying0
  a0 := Tryz.isAgg0
  z0 := Tryz.sizeOf0
  v0 := Tryz.zeroValue0
  t3 := Tryz.underlying3
  a3 := Tryz.isAgg3
  z3 := Tryz.sizeOf3
  v3 := Tryz.zeroValue3
  t4 := Tryz.underlying4
  a4 := Tryz.isAgg4
  z4 := Tryz.sizeOf4
  v4 := Tryz.zeroValue4
  t22 := Tryz.underlying29
  a22 := Tryz.isAgg29
  z22 := Tryz.sizeOf29
  v22 := Tryz.zeroValue29
  a23 := Tryz.isAgg3
  z23 := Tryz.sizeOf3
  t25 := Tryz.underlying55
  a25 := Tryz.isAgg55
  z25 := Tryz.sizeOf55
  v25 := Tryz.zeroValue55 }
open Go.RowKit Go.Lib in
/-- slices.ContainsFunc: "ContainsFunc reports whether at least one element e of s satisfies f(e).": ITS CALLEE slices.IndexFunc IS MET BY ITS OWN CONTRACT. (LAID AT THE INSTANCE 'slices.ContainsFunc[[]int,int]': no walk: one application.) -/
theorem Tryz.slices_ContainsFunc_f85 {α : Type} [Inhabited α] (enc : α → Value) (p : α → Bool) (g : Nat) (lb : Array Value) (eg : ∀ args w, (callFunc g args).run Tryz.prog w = .ok (.enter g args) w) (b off n c : Nat) (zs : List α) (w : World) (hp : PredAt Tryz.prog g lb enc p w) (hz : n ≤ zs.length) (hbig : n ≤ 9223372036854775807) (hc : ∀ j, j < zs.length → w.cell? ⟨b, off + j, none⟩ = some (enc zs[j]!)) :
    Calls Tryz.prog 85 #[.slice (some ⟨b, off, none⟩) n c, .func (.func g) #[] lb] w fun e w' => e = .returned (.bool ((zs.take n).any p)) ∧ ∃ q, w' = w.drewN q := AnyE.slices_ContainsFunc Tryz.laysSlH8_f85 enc p g lb eg b off n c zs w hp hz hbig hc
open Go.RowKit Go.Lib in
/-- The same at a slice of length 0, a nil one too. (LAID AT THE INSTANCE 'slices.ContainsFunc[[]string,string]': no walk: one application.) -/
theorem Tryz.slices_ContainsFunc_empty_f51 {α : Type} [Inhabited α] (a : Option Addr) (c : Nat) (fv : Value) (w : World) :
    Calls Tryz.prog 51 #[.slice a 0 c, fv] w fun e w' => e = .returned (.bool false) ∧ w' = w := AnyE.slices_ContainsFunc_empty Tryz.laysSlH8_f51 a c fv w
open Go.RowKit Go.Lib in
/-- The same at a slice of length 0, a nil one too. (LAID AT THE INSTANCE 'slices.ContainsFunc[[]int,int]': no walk: one application.) -/
theorem Tryz.slices_ContainsFunc_empty_f85 {α : Type} [Inhabited α] (a : Option Addr) (c : Nat) (fv : Value) (w : World) :
    Calls Tryz.prog 85 #[.slice a 0 c, fv] w fun e w' => e = .returned (.bool false) ∧ w' = w := AnyE.slices_ContainsFunc_empty Tryz.laysSlH8_f85 a c fv w
def Tryz.laysSlH10_f33_ren : Go.Shelf.Ren := ⟨fun | 10 => 33 | 6 => 64 | n => n, fun | 22 => 29 | 23 => 3 | 25 => 55 | 3 => 3 | 4 => 4 | 0 => 0 | n => n, fun | n => n⟩
theorem Tryz.laysSlH10_f33 : Go.Proofs.SlLaysH.n10 Tryz.prog Tryz.laysSlH10_f33_ren := {
  mixed := by kernel_rfl
  f6 := ⟨Tryz.f64.name, by decide, Tryz.func64.trans (congrArg some (by kernel_rfl))⟩
  f10 := ⟨Tryz.f33.name, by decide, Tryz.func33.trans (congrArg some (by kernel_rfl))⟩
  t0 := Tryz.underlying0
  a0 := Tryz.isAgg0
  z0 := Tryz.sizeOf0
  v0 := Tryz.zeroValue0
  t3 := Tryz.underlying3
  a3 := Tryz.isAgg3
  z3 := Tryz.sizeOf3
  v3 := Tryz.zeroValue3
  t4 := Tryz.underlying4
  a4 := Tryz.isAgg4
  z4 := Tryz.sizeOf4
  v4 := Tryz.zeroValue4
  t22 := Tryz.underlying29
  a22 := Tryz.isAgg29
  z22 := Tryz.sizeOf29
  v22 := Tryz.zeroValue29
  a23 := Tryz.isAgg3
  z23 := Tryz.sizeOf3
  t25 := Tryz.underlying55
  a25 := Tryz.isAgg55
  z25 := Tryz.sizeOf55
  v25 := Tryz.zeroValue55 }
open Go.RowKit Go.Lib Go.Sort in
theorem Tryz.slices_DeleteFunc {α : Type} [Inhabited α] (enc : α → Value) (hO : OneCell enc) (p : α → Bool) (g : Nat) (lb : Array Value) (eg : ∀ args w, (callFunc g args).run Tryz.prog w = .ok (.enter g args) w) (zr : α) (v23 : ∀ w, (zeroValue 3).run Tryz.prog w = .ok (enc zr) w) (blk off cap : Nat) (d : Array α) (w : World) (hp : PredAt Tryz.prog g lb enc p w) (hpo : PredOver Tryz.prog g lb enc p blk off d.size w) (hH : Holds enc w blk off d) (hsz : d.size ≤ 9223372036854775807) (hcap : d.size ≤ cap) :
    Calls Tryz.prog 33 #[.slice (some ⟨blk, off, none⟩) d.size cap, .func (.func g) #[] lb] w fun e w' => e = .returned (.slice (some ⟨blk, off, none⟩) (d.toList.filter fun x => !p x).length cap) ∧ ∃ q, w' = putRow enc (Sort.ahead w q) blk off ((d.toList.filter fun x => !p x) ++ List.replicate (d.size - (d.toList.filter fun x => !p x).length) zr).toArray := AnyE.slices_DeleteFunc Tryz.laysSlH10_f33 enc hO p g lb eg zr v23 blk off cap d w hp hpo hH hsz hcap
end Go.Proofs
