/- the program's grow, of any closure that names places. -/
import Derived.Test.YtfdbpafenhdkbaaGreatDoorQGrT
import Derived.Deep.LoopGhost
import Derived.Deep.RegionWith
namespace Go.Proofs.YtfdbpafenhdkbaaGreatDoor
open Go.RowKit
set_option linter.unusedVariables false
set_option linter.unusedSimpArgs false

def setI (N : List Bool) (ids : List Int) : List Bool := ids.foldl (fun N s => N.set s.toNat true) N
def growI (ids : Rul → List Bool → List Int) (r : Rul) (N : List Bool) : List Bool := setI N (ids r N)
def passI (ids : Rul → List Bool → List Int) (rs : List Rul) (N : List Bool) : List Bool := rs.foldl (fun N r => growI ids r N) N
theorem setI_snoc (N : List Bool) (l : List Int) (s : Int) : setI N (l ++ [s]) = (setI N l).set s.toNat true := by simp [setI]
theorem passI_snoc (ids : Rul → List Bool → List Int) (rs : List Rul) (r : Rul) (N : List Bool) : passI ids (rs ++ [r]) N = growI ids r (passI ids rs N) := by simp [passI]
def LeB (a b : List Bool) : Prop := a.length = b.length ∧ ∀ i : Nat, a[i]? = some true → b[i]? = some true
theorem LeB.refl (a : List Bool) : LeB a a := ⟨rfl, fun _ h => h⟩
theorem LeB.trans {a b c : List Bool} (h : LeB a b) (k : LeB b c) : LeB a c := ⟨h.1.trans k.1, fun i hi => k.2 i (h.2 i hi)⟩
theorem LeB.anti {a b : List Bool} (h : LeB a b) (k : LeB b a) : a = b := bools_ext h.1 h.2 k.2
theorem LeB.set (a : List Bool) (i : Nat) : LeB a (a.set i true) := ⟨by simp, fun j hj => by
  rw [List.getElem?_set]
  split
  · rename_i he; subst he; simp [(List.getElem?_eq_some_iff.1 hj).1]
  · exact hj⟩
theorem setI_le (N : List Bool) : ∀ (l : List Int), LeB N (setI N l) := fun l => by
  induction l generalizing N with
  | nil => exact LeB.refl N
  | cons s l ih => exact (LeB.set N s.toNat).trans (ih _)
theorem passI_grows (ids : Rul → List Bool → List Int) : ∀ rs, Grows (passI ids rs)
  | [] => Grows.id
  | r :: rs => Grows.comp (f := growI ids r) ⟨fun N => ((setI_le N (ids r N)).1).symm, fun N i h => (setI_le N (ids r N)).2 i h⟩ (passI_grows ids rs)
theorem passI_len (ids : Rul → List Bool → List Int) (rs : List Rul) (N : List Bool) : (passI ids rs N).length = N.length := (passI_grows ids rs).len N
theorem passI_le (ids : Rul → List Bool → List Int) (rs : List Rul) (N : List Bool) : LeB N (passI ids rs N) := ⟨(passI_len ids rs N).symm, fun i h => (passI_grows ids rs).up N i h⟩
theorem setI_len (N : List Bool) (l : List Int) : (setI N l).length = N.length := (setI_le N l).1.symm
/-- a slice lies apart from a block -/
def Apart (A : Option Addr) (g : Nat) : Prop := ∀ b off, A = some ⟨b, off, none⟩ → b ≠ g
/-- has anything come since N? -/
def grewB (N cur : List Bool) : Bool := !decide (cur = N)
theorem grew_start (N : List Bool) : grewB N N = false := by simp [grewB]
theorem grew_set {N cur : List Bool} (h : LeB N cur) {i : Nat} (hi : i < cur.length) : grewB N (cur.set i true) = (grewB N cur || !cur.getD i false) := by
  unfold grewB
  by_cases he : cur = N
  · subst he
    cases hx : cur.getD i false
    · have : cur.set i true ≠ cur := fun hc => by
        have := congrArg (fun l : List Bool => l.getD i false) hc
        simp [List.getD_eq_getElem?_getD, hi] at this hx
        rw [this] at hx
        cases hx
      simp [this]
    · have : cur.set i true = cur := by
        rw [List.getD_eq_getElem?_getD, List.getElem?_eq_getElem hi] at hx
        have hx : cur[i] = true := hx
        rw [← hx, List.set_getElem_self]
      simp [this]
  · have : cur.set i true ≠ N := fun hc => he ((LeB.anti h (by rw [← hc]; exact LeB.set cur i)).symm)
    simp [he, this]

theorem iterI_len (ids : Rul → List Bool → List Int) (rs : List Rul) (N : List Bool) : ∀ k, (iter (passI ids rs) k N).length = N.length
  | 0 => rfl
  | k + 1 => by rw [iter, passI_len, iterI_len ids rs N k]

set_option maxHeartbeats 4000000 in
theorem tr_grow (h : GH) (G : Gr) (gf : FuncId) (caps : Array Value) (eg : ∀ args w, (callFunc gf args).run Tryz.prog w = .ok (.enter gf args) w) (ids : Rul → List Bool → List Int) (g n : Nat) (N0 : List Bool) (WB w : World)
    (hg : GrAt WB h G) (hWB : Below WB.heap.size WB w) (hgB : WB.heap.size ≤ g) (hn : n ≤ 1000) (hN0 : BoolT w g N0) (hl0 : N0.length = n) (h3 : h.n3 ≤ 1000)
    (hids : ∀ r ∈ G.rules, ∀ N, N.length = n → ∀ s ∈ ids r N, 0 ≤ s ∧ s < (n : Int))
    (hnext : ∀ r ∈ G.rules, ∀ Ar cr N w', w.grownBy w' (some g) → Ints .i64 w' Ar r.right.length cr r.right → BoolT w' g N → N.length = n →
      Calls Tryz.prog gf (#[.agg #[.int .i64 r.left, .slice Ar r.right.length cr, .int .i64 r.prec], .slice (some ⟨g, 0, none⟩) n n] ++ caps) w' fun e w'' => Below w'.heap.size w' w'' ∧ ∃ A m c, e = .returned (.slice A m c) ∧ Ints .i64 w'' A m c (ids r N) ∧ Apart A g) :
    Calls Tryz.prog 59 #[GV h G.start, .slice (some ⟨g, 0, none⟩) n n, .func (.func gf) #[] caps] w fun e w' =>
      e = .returned (.slice (some ⟨g, 0, none⟩) n n) ∧ w.grownBy w' (some g) ∧ BoolT w' g (iter (passI ids G.rules) n N0) := by
  obtain ⟨a1, n1, c1, a2, n2, c2, a3, n3, c3⟩ := h
  have e3 : G.rules.length = n3 := hg.rules.len
  have k3 := hg.rules.cap
  simp only [] at h3 k3
  have Hg := Lib.hid hg
  have Hids := Lib.hid hids
  have Hnext := Lib.hid hnext
  have HWB := Lib.hid hWB
  clear hids hnext hg hWB
  have hgr0 := grown_below (some g) (alloc_below w (.cells #[.slice a1 n1 c1, .slice a2 n2 c2, .slice a3 n3 c3, .int .i64 G.start] 26))
  have hbox := GBox.new w 26 ⟨a1, n1, c1, a2, n2, c2, a3, n3, c3⟩ G.start
  have hX0 := Blk.new w 26 #[.slice a1 n1 c1, .slice a2 n2 c2, .slice a3 n3 c3, .int .i64 G.start]
  have hT0 : BoolT (w.alloc (.cells #[.slice a1 n1 c1, .slice a2 n2 c2, .slice a3 n3 c3, .int .i64 G.start] 26)) g N0 := Blk.ext hN0 (alloc_below _ _)
  have hgw : g < w.heap.size := hN0.lt
  clear hN0
  go_enter Tryz.func59, Tryz.ntmps59
  have ⟨z5, z0, z1, z2, z3⟩ := hbox
  simp only [] at z0 z1 z2 z3
  go_wp2_with fail
  generalize w.alloc (.cells #[.slice a1 n1 c1, .slice a2 n2 c2, .slice a3 n3 c3, .int .i64 G.start] 26) = W0 at *
  clear z0 z1 z2 z3 hbox
  go_loopg [7] (n + 2) (fun q v wr => ∃ (m : Nat) (b : Bool), v = .bool b ∧ q + m = n + 2 ∧ Hid (b = true → m ≤ n) ∧ w.grownBy wr (some g) ∧ Blk wr w.heap.size 26 #[.slice a1 n1 c1, .slice a2 n2 c2, .slice a3 n3 c3, .int .i64 G.start] ∧ BoolT wr g (iter (passI ids G.rules) m N0) ∧
    Hid (b = false → passI ids G.rules (iter (passI ids G.rules) m N0) = iter (passI ids G.rules) m N0))
  case atStart => exact ⟨0, true, rfl, by omega, Lib.hid fun _ => by omega, hgr0, hX0, hT0, Lib.hid fun h => by cases h⟩
  case round =>
    clear hgr0 hX0 hT0
    obtain ⟨m, b, rfl, hq, Hm, hgr, hX, hT, Hfx⟩ := hrel
    have x2 := Blk.cell hX 2
    simp only [List.getElem?_toArray, List.getElem?_cons_zero, List.getElem?_cons_succ] at x2
    rcases (by cases b <;> simp : b = false ∨ b = true) with rfl | rfl
    · have hfx := Hfx.out rfl
      have hall := (passI_grows ids G.rules).fix N0
      rw [hl0] at hall
      rw [iter_done hall hfx] at hT
      have HT := Lib.hid hT
      clear hT Hm Hfx hfx hall
      go_wp2_with fail
      go_ret
      exact ⟨rfl, hgr, HT.out⟩
    · have hmn := Hm.out rfl
      go_wp2_with fail
      have hNl : (iter (passI ids G.rules) m N0).length = n := by rw [iterI_len]; exact hl0
      have Hit : Hid (passI ids G.rules (iter (passI ids G.rules) m N0) = iter (passI ids G.rules) (m + 1) N0) := Lib.hid rfl
      have Hmore : Hid (passI ids G.rules (iter (passI ids G.rules) m N0) ≠ iter (passI ids G.rules) m N0 → m < n) := Lib.hid fun hne => by
        have hall := (passI_grows ids G.rules).fix N0
        rw [hl0] at hall
        exact iter_more hall hne
      generalize iter (passI ids G.rules) m N0 = N at *
      go_loopw [7, 9, 16] (fun v _ i wz => ∃ (j : Nat), j ≤ n3 ∧ i = .int .i64 (j : Int) ∧ v = .bool (grewB N (passI ids (G.rules.take j) N)) ∧ w.grownBy wz (some g) ∧ Blk wz w.heap.size 26 #[.slice a1 n1 c1, .slice a2 n2 c2, .slice a3 n3 c3, .int .i64 G.start] ∧ BoolT wz g (passI ids (G.rules.take j) N)) (fun _ _ i _ => n3 - (intOf i).toNat)
      case atStart => exact ⟨0, Nat.zero_le _, rfl, by rw [show passI ids (G.rules.take 0) N = N from rfl, grew_start], hgr, hX, hT⟩
      case round =>
        clear hgr hX hT x2
        obtain ⟨j, hj, rfl, rfl, hgr, hX, hT⟩ := hrel
        by_cases hjj : j < n3
        · obtain ⟨bb, off, r, Ar, cr, rfl, hb, Hr, q0, q1, q2, hrr⟩ := Hg.out.rules.get hjj
          have hBw : Below WB.heap.size WB wr := HWB.out.trans (grown_is_below hgr HWB.out.size hgB)
          rw [← hBw.cell (by exact hb)] at q0 q1 q2
          have hmem := List.mem_of_getElem? Hr.out
          have hcl : (passI ids (G.rules.take j) N).length = n := by rw [passI_len]; exact hNl
          have hnx : passI ids (G.rules.take (j + 1)) N = setI (passI ids (G.rules.take j) N) (ids r (passI ids (G.rules.take j) N)) := by rw [take_snoc' Hr.out, passI_snoc]; rfl
          have hle : LeB N (passI ids (G.rules.take j) N) := passI_le ids _ N
          have Hnx := Lib.hid hnx
          have Hle := Lib.hid hle
          clear hnx hle
          generalize passI ids (G.rules.take j) N = cur at *
          have hB1 := alloc_below wr (.cells #[.int .i64 r.left, .slice Ar r.right.length cr, .int .i64 r.prec] 51)
          have hgr1 := grown_trans hgr (grown_below (some g) hB1)
          have hX1 := Blk.ext hX hB1
          have hT1 : BoolT (wr.alloc (.cells #[.int .i64 r.left, .slice Ar r.right.length cr, .int .i64 r.prec] 51)) g cur := Blk.ext hT hB1
          have hrr1 := (hrr.below hBw).below hB1
          have hy1 := RBox.new wr 51 r.left Ar r.right.length cr r.prec
          clear hgr hX hT
          have ⟨u5, u0, u1, u2⟩ := hy1
          have hC := Hnext.out r hmem Ar cr cur _ hgr1 hrr1 hT1 hcl
          have hL := Hids.out r hmem cur hcl
          generalize ids r cur = L at *
          have HC := Lib.hid hC
          have HL := Lib.hid hL
          clear hC hL hrr1 hy1
          go_wp2_with (go_at_fn gf; refine HC.out.mono ?_; rintro e w2 ⟨hb2, Ai, mi, ci, rfl, hI, hap⟩)
          generalize wr.alloc (.cells #[.int .i64 r.left, .slice Ar r.right.length cr, .int .i64 r.prec] 51) = W1 at *
          have hgr2 := grown_trans hgr1 (grown_below (some g) hb2)
          have hX2 := Blk.ext hX1 hb2
          have hT2 : BoolT w2 g cur := Blk.ext hT1 hb2
          have hLl : L.length = mi := hI.len
          have hIc := hI.cap
          have HI := Lib.hid hI
          have Hap := Lib.hid hap
          have Hgr2 := Lib.hid hgr2
          have hgw2 : g < w2.heap.size := hT2.lt
          clear q0 q1 q2 hrr HC hgr1 hX1 hT1 hI hap
          go_loopw [7, 11, 25] (fun v _ i wz => ∃ (p : Nat), p ≤ mi ∧ i = .int .i64 (p : Int) ∧ v = .bool (grewB N (setI cur (L.take p))) ∧ w2.grownBy wz (some g) ∧ Blk wz w.heap.size 26 #[.slice a1 n1 c1, .slice a2 n2 c2, .slice (some ⟨bb, off, none⟩) n3 c3, .int .i64 G.start] ∧ BoolT wz g (setI cur (L.take p))) (fun _ _ i _ => mi - (intOf i).toNat)
          case atStart => exact ⟨0, Nat.zero_le _, rfl, rfl, grown_refl _ _, hX2, hT2⟩
          case round =>
            clear hX2 hT2
            obtain ⟨p, hp, rfl, rfl, hgr, hX, hT⟩ := hrel
            by_cases hpp : p < mi
            · obtain ⟨ib, io, s, rfl, hib, Hs, hsc⟩ := HI.out.get hpp
              have hne := Hap.out ib io rfl
              have q3 := (grown_frozen hgr (b := ib) (o := io + p) hib hne).trans hsc
              obtain ⟨s1, s2⟩ := HL.out s (List.mem_of_getElem? Hs.out)
              obtain ⟨sj, rfl⟩ : ∃ sj : Nat, s = (sj : Int) := ⟨s.toNat, by omega⟩
              have hnx : setI cur (L.take (p + 1)) = (setI cur (L.take p)).set sj true := by rw [take_snoc' Hs.out, setI_snoc]; simp
              have hcl2 : (setI cur (L.take p)).length = n := by rw [setI_len]; exact hcl
              have hle2 : LeB N (setI cur (L.take p)) := Hle.out.trans (setI_le cur _)
              have hgs := grew_set hle2 (i := sj) (by omega)
              have hat := hT.at (i := sj) (by omega)
              have hput := hT.put sj true
              have hfz := Blk.frozen hT sj
              have hX3 := hX.other g sj (.bool true) (by omega)
              have Hnx := Lib.hid hnx
              have Hgs := Lib.hid hgs
              have Hput := Lib.hid hput
              have HX3 := Lib.hid hX3
              have Hgr := Lib.hid hgr
              have hsj : sj < n := by omega
              clear hnx hle2 hgs hput hX3 hgr hX hT hcl2
              generalize (setI cur (L.take p)).getD sj false = x at *
              generalize grewB N (setI cur (L.take p)) = y at *
              rcases (by cases y <;> simp : y = false ∨ y = true) with rfl | rfl
              all_goals
                go_wp2_with fail
                go_roundw
                case rel => exact ⟨p + 1, by omega, by go_num, by rw [Hnx.out, Hgs.out]; simp, grown_trans Hgr.out (grown_set _ _ _ _), HX3.out, by rw [Hnx.out]; exact Hput.out⟩
                case measure => simp [intOf]; omega
            · obtain rfl : p = mi := by omega
              rw [List.take_of_length_le (by omega)] at hT ⊢
              rw [← Hnx.out] at hT ⊢
              go_wp2_with fail
              go_roundw
              case rel => exact ⟨j + 1, by omega, by go_num, rfl, grown_trans Hgr2.out hgr, hX, hT⟩
              case measure => simp [intOf]; omega
        · obtain rfl : j = n3 := by omega
          rw [List.take_of_length_le (by omega)] at hT ⊢
          have Hgf : Hid (grewB N (passI ids G.rules N) = true → m + 1 ≤ n) := Lib.hid fun hgt => by
            have : m < n := Hmore.out (by intro he; rw [he, grew_start] at hgt; cases hgt)
            omega
          have Hgf2 : Hid (grewB N (passI ids G.rules N) = false → passI ids G.rules (iter (passI ids G.rules) (m + 1) N0) = iter (passI ids G.rules) (m + 1) N0) := Lib.hid fun hgt => by
            have he : passI ids G.rules N = N := by simpa [grewB] using hgt
            rw [← Hit.out, he, he]
          generalize grewB N (passI ids G.rules N) = y at *
          rw [Hit.out] at hT
          go_wp2_with fail
          go_roundg (n + 1 - m)
          case rel => exact ⟨m + 1, y, rfl, by omega, Hgf, hgr, hX, hT, Hgf2⟩
          case measure => omega
end Go.Proofs.YtfdbpafenhdkbaaGreatDoor

namespace Go.Proofs.YtfdbpafenhdkbaaGreatDoor
open Go.RowKit
set_option linter.unusedVariables false
set_option linter.unusedSimpArgs false

/-- which places a rule adds to what is nullable -/
def nullI (r : Rul) (N : List Bool) : List Int := if allP false N r.right then [r.left] else []
theorem passI_null (rs : List Rul) (N : List Bool) : passI nullI rs N = passN (bareP false) rs N := by
  unfold passI passN
  congr 1
  funext N r
  unfold growI nullI growN bareP setI
  split <;> simp
theorem iterI_null (rs : List Rul) (N : List Bool) : ∀ k, iter (passI nullI rs) k N = iter (passN (bareP false) rs) k N
  | 0 => rfl
  | k + 1 => by rw [iter, iter, iterI_null rs N k, passI_null]
theorem all_split (N : List Bool) (ss : List Int) : ((!ss.any fun s => decide (0 ≤ s)) && !ss.any (offN N)) = allP false N ss := by
  unfold allP
  induction ss with
  | nil => rfl
  | cons s ss ih =>
    rw [List.all_cons, ← ih, List.any_cons, List.any_cons]
    unfold offN
    by_cases h : 0 ≤ s
    · simp [h]
    · have h2 : s < 0 := by omega
      cases N.getD (nonI s) false <;> simp [h, h2]
theorem enters_null1 : ∀ args w, (callFunc 60 args).run Tryz.prog w = .ok (.enter 60 args) w := fun args w => by kernel_rfl

theorem one_int (w : World) (t : TypeId) (x : Int) : Ints .i64 (w.alloc (.cells #[.int .i64 x] t)) (some ⟨w.heap.size, 0, none⟩) 1 1 [x] := by
  have := own_sl (own_made w t 1 [.int .i64 x] rfl (by omega))
  exact this

set_option maxHeartbeats 1000000 in
theorem tr_null1 (r : Rul) (Ar : Option Addr) (cr g n : Nat) (N : List Bool) (w : World) (hr : Ints .i64 w Ar r.right.length cr r.right) (hN : BoolT w g N) (hn : N.length = n) (hn2 : n ≤ 1000) (hs : ∀ s ∈ r.right, -(n : Int) ≤ s ∧ s ≤ 1000) :
    Calls Tryz.prog 60 #[.agg #[.int .i64 r.left, .slice Ar r.right.length cr, .int .i64 r.prec], .slice (some ⟨g, 0, none⟩) n n] w fun e w' => Below w.heap.size w w' ∧ ∃ A m c, e = .returned (.slice A m c) ∧ Ints .i64 w' A m c (nullI r N) ∧ Apart A g := by
  have hgl : g < w.heap.size := hN.lt
  have hB0 := alloc_below w (.cells #[.int .i64 r.left, .slice Ar r.right.length cr, .int .i64 r.prec] 51)
  have hbox := RBox.new w 51 r.left Ar r.right.length cr r.prec
  have hsp := all_split N r.right
  go_enter Tryz.func60, Tryz.ntmps60
  have ⟨z5, z0, z1, z2⟩ := hbox
  have cB := fun w' (hb : Below w.heap.size w w') => tr_bare r.left Ar cr r.right r.prec w' (hr.below hb)
  have cW := fun w' (hb : Below w.heap.size w w') => tr_within r.left Ar cr g n r.right r.prec N w' (hr.below hb) (Blk.ext hN hb) hn hn2 hs
  generalize (!r.right.any fun s => decide (0 ≤ s)) = b1 at *
  generalize (!r.right.any (offN N)) = b2 at *
  have Hnl : Hid (nullI r N = if (b1 && b2) then [r.left] else []) := Lib.hid (by unfold nullI; rw [hsp])
  have CB := Lib.hid cB
  have CW := Lib.hid cW
  clear cB cW hsp
  go_wp2_with fail
  generalize w.alloc (.cells #[.int .i64 r.left, .slice Ar r.right.length cr, .int .i64 r.prec] 51) = W0 at *
  have cB := (CB.out W0 hB0).mono fun e w' hh => And.intro hh.1 (And.intro (bcell hh.2).1 (Lib.hid (below_tail hB0 hh.2)))
  have CB0 := Lib.hid cB
  clear cB
  (with_reducible refine CB0.out.mono ?_)
  rintro e w1 ⟨rfl, hc1, Hb1⟩
  have y0 := (hc1 _ 0 z5).trans z0
  have y1 := (hc1 _ 1 z5).trans z1
  have y2 := (hc1 _ 2 z5).trans z2
  have hlt1 : w.heap.size < w1.heap.size := by
    rcases Nat.lt_or_ge w.heap.size w1.heap.size with h | h
    · exact h
    · simp [World.cell?, Array.getElem?_eq_none h] at y0
  rcases (by cases b1 <;> cases b2 <;> simp : b1 = false ∨ (b1 = true ∧ b2 = false) ∨ (b1 = true ∧ b2 = true)) with rfl | ⟨rfl, rfl⟩ | ⟨rfl, rfl⟩
  · go_wp2_with fail
    go_ret
    exact ⟨Hb1.out, none, 0, 0, rfl, by rw [Hnl.out]; exact Ints.nil _ _ _ _ (by omega), fun b o h => by cases h⟩
  · have cW := (CW.out w1 Hb1.out).mono fun e w' hh => And.intro hh.1 (And.intro (bcell hh.2).1 (Lib.hid (below_tail Hb1.out hh.2)))
    have CW0 := Lib.hid cW
    clear cW
    go_wp2_with (go_at_call 62; (with_reducible refine CW0.out.mono ?_); rintro e w2 ⟨rfl, hc2, Hb2⟩)
    go_ret
    exact ⟨Hb2.out, none, 0, 0, rfl, by rw [Hnl.out]; exact Ints.nil _ _ _ _ (by omega), fun b o h => by cases h⟩
  · have cW := (CW.out w1 Hb1.out).mono fun e w' hh => And.intro hh.1 (And.intro (bcell hh.2).1 (Lib.hid (below_tail Hb1.out hh.2)))
    have CW0 := Lib.hid cW
    clear cW
    go_wp2_with (go_at_call 62; (with_reducible refine CW0.out.mono ?_); rintro e w2 ⟨rfl, hc2, Hb2⟩; have x0 := (hc2 _ 0 hlt1).trans y0)
    go_ret
    refine ⟨Hb2.out.alloc Hb2.out.size _, _, 1, 1, rfl, by rw [Hnl.out]; exact one_int _ _ _, fun b o h => ?_⟩
    injection h with h
    injection h with h _
    have := Hb2.out.size
    omega

set_option maxHeartbeats 1000000 in
theorem tr_Nullable (h : GH) (G : Gr) (w : World) (hg : GrAt w h G) (hs : ∀ t ∈ G.terms, t.name.size ≤ maxLen) (h1 : h.n1 ≤ 100) (h2 : h.n2 ≤ 100) (h3 : h.n3 ≤ 100) :
    Calls Tryz.prog 31 #[GV h G.start] w fun e w' => Below w.heap.size w w' ∧
      ((G.right = false ∧ e = .returned (.slice none 0 0)) ∨ (G.right = true ∧ ∃ g, w.heap.size ≤ g ∧ e = .returned (.slice (some ⟨g, 0, none⟩) h.n2 h.n2) ∧ BoolT w' g (nullN G))) := by
  obtain ⟨a1, n1, c1, a2, n2, c2, a3, n3, c3⟩ := h
  have e2 : G.nons.length = n2 := hg.nons.len
  have k2 := hg.nons.cap
  simp only [] at h1 h2 h3 k2
  have hB0 := alloc_below w (.cells #[.slice a1 n1 c1, .slice a2 n2 c2, .slice a3 n3 c3, .int .i64 G.start] 26)
  have hbox := GBox.new w 26 ⟨a1, n1, c1, a2, n2, c2, a3, n3, c3⟩ G.start
  have hmk := make_bools n2 (by omega)
  go_enter Tryz.func31, Tryz.ntmps31
  have ⟨z5, z0, z1, z2, z3⟩ := hbox
  simp only [] at z0 z1 z2 z3
  go_wp2_with fail
  generalize w.alloc (.cells #[.slice a1 n1 c1, .slice a2 n2 c2, .slice a3 n3 c3, .int .i64 G.start] 26) = W0 at *
  (with_reducible refine (cf_Right ⟨a1, n1, c1, a2, n2, c2, a3, n3, c3⟩ G W0 (hg.below hB0) hs (by simp only []; omega) (by simp only []; omega)).mono ?_)
  rintro e W1 ⟨rfl, hb1⟩
  have hB1 := below_tail hB0 hb1
  have hbx1 := hbox.below hb1
  have ⟨y5, y0, y1, y2, y3⟩ := hbx1
  simp only [] at y0 y1 y2 y3
  rcases hrt : G.right with _ | _
  · go_wp2_with fail
    go_ret
    exact ⟨hB1, .inl ⟨hrt, rfl⟩⟩
  · have hfit := Gr.fits hrt
    have Hrt := Lib.hid hrt
    have Hfit := Lib.hid hfit
    have hT0 := BoolT.new W1 (List.replicate n2 false)
    have hB10 := alloc_below W1 (.cells (bools (List.replicate n2 false)).toArray 4)
    have hg1 := hg.below hB1
    have hq := fun W hT hB => tr_grow ⟨a1, n1, c1, a2, n2, c2, a3, n3, c3⟩ G 60 #[] enters_null1 nullI W1.heap.size n2 (List.replicate n2 false) W1 W hg1 hB (Nat.le_refl _) (by omega) hT (by simp) (by simp only []; omega)
      (fun r hr N hN s hsm => by
        unfold nullI at hsm
        split at hsm
        · rw [List.mem_singleton] at hsm
          subst hsm
          have := hfit.left r hr
          rw [e2] at this
          exact this
        · cases hsm)
      (fun r hr Ar cr N w' _ hrr hN hl => tr_null1 r Ar cr W1.heap.size n2 N w' hrr hN hl (by omega) (by have := hfit.symB hr; rwa [e2] at this))
    have HQ := Lib.hid hq
    clear hrt hfit hq hg hg1
    go_wp2_with fail
    go_region_with (go_at_call 59; (with_reducible refine (HQ.out _ ?_ ?_).mono ?_); exact hT0; exact ⟨hB10.os, hB10.tape, hB10.output, hB10.size, hB10.block⟩; rintro e w2 ⟨rfl, hgr, hT⟩)
    all_goals
      have hbf : Below W1.heap.size W1 w2 := by
        refine Below.trans ?_ (grown_is_below hgr hB10.size (Nat.le_refl _))
        exact ⟨hB10.os, hB10.tape, hB10.output, hB10.size, hB10.block⟩
      have hfin : nullN G = iter (passI nullI G.rules) n2 (List.replicate n2 false) := by rw [iterI_null]; unfold nullN; rw [e2]; rfl
      rw [← hfin] at hT
      have HT := Lib.hid hT
      clear hT hfin hgr HQ hT0 hB10 hmk y0 y1 y2 y3 z0 z1 z2 z3
      go_wp2_with fail
      go_ret
      exact ⟨below_tail hB1 hbf, .inr ⟨Hrt.out, W1.heap.size, hB1.size, rfl, HT.out⟩⟩
end Go.Proofs.YtfdbpafenhdkbaaGreatDoor
