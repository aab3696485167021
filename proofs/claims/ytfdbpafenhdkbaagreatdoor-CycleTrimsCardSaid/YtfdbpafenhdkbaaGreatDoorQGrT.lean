/- tables: rows that the call has made, whole. -/
import Derived.Test.YtfdbpafenhdkbaaGreatDoorQGrC5
import Derived.Test.YtfdbpafenhdkbaaGreatDoorQSetPlain
namespace Go.Proofs.YtfdbpafenhdkbaaGreatDoor
open Go.RowKit
set_option linter.unusedVariables false
set_option linter.unusedSimpArgs false

def bools (N : List Bool) : List Value := N.map Value.bool
def BoolT (w : World) (g : Nat) (N : List Bool) : Prop := Blk w g 4 (bools N).toArray
def SetT (w : World) (g : Nat) (F : List Nat) : Prop := Blk w g 36 (nums .u32 F).toArray
theorem BoolT.at {w : World} {g : Nat} {N : List Bool} (h : BoolT w g N) {i : Nat} (hi : i < N.length) : w.cell? ⟨g, i, none⟩ = some (.bool (N.getD i false)) := by
  rw [Blk.cell h]; simp [bools, hi]
theorem SetT.at {w : World} {g : Nat} {F : List Nat} (h : SetT w g F) {i : Nat} (hi : i < F.length) : w.cell? ⟨g, i, none⟩ = some (.int .u32 ((F.getD i 0 : Nat) : Int)) := by
  rw [Blk.cell h]; simp [nums, hi]
theorem BoolT.put {w : World} {g : Nat} {N : List Bool} (h : BoolT w g N) (i : Nat) (b : Bool) : BoolT (w.setCell ⟨g, i, none⟩ (.bool b)) g (N.set i b) := by
  have := Blk.set h i (.bool b)
  unfold BoolT
  rwa [show (bools (N.set i b)).toArray = (bools N).toArray.setIfInBounds i (.bool b) by simp [bools, List.map_set]]
theorem SetT.put {w : World} {g : Nat} {F : List Nat} (h : SetT w g F) (i v : Nat) : SetT (w.setCell ⟨g, i, none⟩ (.int .u32 (v : Int))) g (F.set i v) := by
  have := Blk.set h i (.int .u32 (v : Int))
  unfold SetT
  rwa [show (nums .u32 (F.set i v)).toArray = (nums .u32 F).toArray.setIfInBounds i (.int .u32 (v : Int)) by simp [nums, List.map_set]]
theorem BoolT.new (w : World) (N : List Bool) : BoolT (w.alloc (.cells (bools N).toArray 4)) w.heap.size N := Blk.new w _ _
theorem SetT.new (w : World) (F : List Nat) : SetT (w.alloc (.cells (nums .u32 F).toArray 36)) w.heap.size F := Blk.new w _ _

theorem Tryz.infoBool : (Tryz.prog.info? 4).map (fun i => (i.zero, i.size, i.bytes)) = some (some (.bool false), 1, 1) := by kernel_rfl
theorem made_bools (n : Nat) : madeCells #[Value.bool false] n = (bools (List.replicate n false)).toArray := by
  apply Array.ext
  · simp [madeCells, bools]
  · intro j h1 h2
    simp [madeCells, bools, Nat.mod_one]
theorem make_bools (n : Nat) (hn : n ≤ 1000) (w : World) :
    (Instr.makeSlice 39 (.int .i64 (n : Int)) (.int .i64 (n : Int))).run Tryz.prog w = .ok (.slice (some ⟨w.heap.size, 0, none⟩) n n) (w.alloc (.cells (bools (List.replicate n false)).toArray 4)) := by
  obtain ⟨i, hi', hz, hs, hby⟩ := info_parts Tryz.infoBool
  have hb' : (i.bytes : Int) * (n : Int) ≤ 281474976710656 := by rw [hby]; omega
  have hr := run_make (P := Tryz.prog) w 39 4 i (.bool false) Tryz.underlying39 hi' hz .i64 .i64 n n (by omega) (by omega) hb' (by omega)
  simp only [Int.toNat_natCast] at hr
  rw [hr, hs, Nat.mul_one]
  simp only [Value.cells, made_bools]
theorem make_sets (n : Nat) (hn : n ≤ 1000) (w : World) :
    (Instr.makeSlice 34 (.int .i64 (n : Int)) (.int .i64 (n : Int))).run Tryz.prog w = .ok (.slice (some ⟨w.heap.size, 0, none⟩) n n) (w.alloc (.cells (nums .u32 (List.replicate n 0)).toArray 36)) :=
  run_make_nums (P := Tryz.prog) 34 36 .u32 4 Tryz.underlying34 Tryz.infoU32 n (by omega) (by omega) w

/-- where a nonterminal's cell lies -/
theorem non_place {s : Int} {n : Nat} (h0 : s < 0) (h1 : -(n : Int) ≤ s) (hn : n ≤ 1000) : ∃ j : Nat, j < n ∧ nonI s = j ∧ IntKind.i64.wrap (-1 - s) = (j : Int) :=
  ⟨nonI s, by unfold nonI; omega, rfl, by rw [IntWalk.i64_in _ (by omega)]; unfold nonI; omega⟩

set_option maxHeartbeats 1000000 in
theorem rf_all (Ar : Option Addr) (nr cr g n : Nat) (ss : List Int) (N : List Bool) (b : Bool) (w : World) (hr : Ints .i64 w Ar nr cr ss) (hN : BoolT w g N) (hn : N.length = n) (hn2 : n ≤ 1000) (hs : ∀ s ∈ ss, -(n : Int) ≤ s ∧ s ≤ 1000) :
    Calls Tryz.prog 44 #[.slice Ar nr cr, .slice (some ⟨g, 0, none⟩) n n, .bool b] w fun e w' => e = .returned (.bool (allP b N ss)) ∧ w = w' := by
  obtain rfl := hr.len
  have hcap := hr.cap
  have Hs := Lib.hid hs
  have HN := Lib.hid hN
  have Hf : Hid (allP b N ss = ss.all fun s => if 0 ≤ s then b else N.getD (nonI s) false) := Lib.hid rfl
  clear hs hN
  go_enter Tryz.func44, Tryz.ntmps44
  go_wp2_with fail
  go_loop [7] (fun i => ∃ (k : Nat), k ≤ ss.length ∧ i = .int .i64 (k : Int) ∧ Hid (∀ j, j < k → ∀ y, ss[j]? = some y → (!(if 0 ≤ y then b else N.getD (nonI y) false)) = false)) (fun i => ss.length - (intOf i).toNat)
  case atStart => exact ⟨0, Nat.zero_le _, rfl, Lib.hid fun j hj => by omega⟩
  case round =>
    obtain ⟨k, hk, rfl, Hk⟩ := hrel
    by_cases hkk : k < ss.length
    · obtain ⟨bb, off, s, rfl, hb, Hsv, q0⟩ := hr.get hkk
      obtain ⟨s1, s2⟩ := Hs.out s (List.mem_of_getElem? Hsv.out)
      by_cases h0 : 0 ≤ s
      · have hbad : b = false → allP b N ss = false := fun hb => by rw [Hf.out]; exact all_false Hsv.out (by rw [if_pos h0]; exact hb)
        have hgood : b = true → (!(if 0 ≤ s then b else N.getD (nonI s) false)) = false := fun hb => by rw [if_pos h0, hb]; rfl
        have Hbad := Lib.hid hbad
        have Hgood := Lib.hid hgood
        clear hbad hgood
        rcases (by cases b <;> simp : b = false ∨ b = true) with rfl | rfl
        · go_wp2_with fail
          go_ret
          exact ⟨by rw [Hbad.out (by trivial)]; rfl, rfl⟩
        · go_wp2_with fail
          go_roundw
          case rel => exact ⟨k + 1, by omega, by go_num, Lib.hid (next_none Hk.out Hsv.out (Hgood.out (by trivial)))⟩
          case measure => simp [intOf]; omega
      · obtain ⟨j, hj, hnj, hw⟩ := non_place (s := s) (n := n) (by omega) s1 hn2
        have c0 := HN.out.at (i := j) (by omega)
        have hbad : N.getD j false = false → allP b N ss = false := fun hb => by rw [Hf.out]; exact all_false Hsv.out (by rw [if_neg h0, hnj]; exact hb)
        have hgood : N.getD j false = true → (!(if 0 ≤ s then b else N.getD (nonI s) false)) = false := fun hb => by rw [if_neg h0, hnj, hb]; rfl
        generalize N.getD j false = x at *
        have Hbad := Lib.hid hbad
        have Hgood := Lib.hid hgood
        clear hbad hgood
        rcases (by cases x <;> simp : x = false ∨ x = true) with rfl | rfl
        · go_wp2_with fail
          go_ret
          exact ⟨by rw [Hbad.out (by trivial)]; rfl, rfl⟩
        · go_wp2_with fail
          go_roundw
          case rel => exact ⟨k + 1, by omega, by go_num, Lib.hid (next_none Hk.out Hsv.out (Hgood.out (by trivial)))⟩
          case measure => simp [intOf]; omega
    · obtain rfl : k = ss.length := by omega
      have hall : allP b N ss = true := by
        rw [Hf.out]
        exact all_true fun j y hy => by
          have := Hk.out j (List.getElem?_eq_some_iff.1 hy).1 y hy
          simpa using this
      have Hall := Lib.hid hall
      clear hall
      go_wp2_with fail
      go_ret
      exact ⟨by rw [Hall.out]; rfl, rfl⟩
end Go.Proofs.YtfdbpafenhdkbaaGreatDoor

namespace Go.Proofs.YtfdbpafenhdkbaaGreatDoor
open Go.RowKit
set_option linter.unusedVariables false
set_option linter.unusedSimpArgs false

/-- what nullN asks of a rule -/
def bareP (b : Bool) (r : Rul) (N : List Bool) : Bool := allP b N r.right
/-- grown, plainly -/
def grownN (b : Bool) (G : Gr) : List Bool := iter (passN (bareP b) G.rules) G.nons.length (List.replicate G.nons.length false)
theorem nullN_grown (G : Gr) : nullN G = grownN false G := rfl
theorem passN_len (p : Rul → List Bool → Bool) (rs : List Rul) (N : List Bool) : (passN p rs N).length = N.length := (passN_grows p rs).len N
theorem iterN_len (p : Rul → List Bool → Bool) (rs : List Rul) (N : List Bool) : ∀ k, (iter (passN p rs) k N).length = N.length
  | 0 => rfl
  | k + 1 => by rw [iter, passN_len, iterN_len p rs N k]
theorem take_snoc' {α : Type} {l : List α} {k : Nat} {x : α} (h : l[k]? = some x) : l.take (k + 1) = l.take k ++ [x] := by rw [List.take_add_one, h]; rfl
theorem Gr.Fits.symB {G : Gr} (F : G.Fits) {r : Rul} (hr : r ∈ G.rules) : ∀ s ∈ r.right, -(G.nons.length : Int) ≤ s ∧ s ≤ 1000 := fun s hs => by
  have := F.sym r hr s hs
  have := F.n1
  omega

set_option maxHeartbeats 4000000 in
theorem rf_grown (h : GH) (G : Gr) (b : Bool) (w : World) (hg : GrAt w h G) (h1 : h.n1 ≤ 100) (h2 : h.n2 ≤ 100) (h3 : h.n3 ≤ 100) :
    Calls Tryz.prog 43 #[GV h G.start, .bool b] w fun e w' => Below w.heap.size w w' ∧
      ((G.right = false ∧ e = .returned (.slice none 0 0)) ∨ (G.right = true ∧ ∃ g, w.heap.size ≤ g ∧ e = .returned (.slice (some ⟨g, 0, none⟩) h.n2 h.n2) ∧ BoolT w' g (grownN b G))) := by
  obtain ⟨a1, n1, c1, a2, n2, c2, a3, n3, c3⟩ := h
  have e1 : G.terms.length = n1 := hg.terms.len
  have e2 : G.nons.length = n2 := hg.nons.len
  have e3 : G.rules.length = n3 := hg.rules.len
  have k3 := hg.rules.cap
  have k2 := hg.nons.cap
  simp only [] at h1 h2 h3 k3 k2
  have Hg := Lib.hid hg
  have hB0 := alloc_below w (.cells #[.slice a1 n1 c1, .slice a2 n2 c2, .slice a3 n3 c3, .int .i64 G.start] 26)
  have hbox := GBox.new w 26 ⟨a1, n1, c1, a2, n2, c2, a3, n3, c3⟩ G.start
  have hmk := make_bools n2 (by omega)
  have hX0 := Blk.new w 26 #[.slice a1 n1 c1, .slice a2 n2 c2, .slice a3 n3 c3, .int .i64 G.start]
  go_enter Tryz.func43, Tryz.ntmps43
  have ⟨z5, z0, z1, z2, z3⟩ := hbox
  simp only [] at z0 z1 z2 z3
  go_wp2_with fail
  generalize w.alloc (.cells #[.slice a1 n1 c1, .slice a2 n2 c2, .slice a3 n3 c3, .int .i64 G.start] 26) = W0 at *
  have cR := rf_right9 ⟨a1, n1, c1, a2, n2, c2, a3, n3, c3⟩ G W0 (hg.below hB0) (by simp only []; omega) (by simp only []; omega) (by simp only []; omega)
  (with_reducible refine cR.mono ?_)
  rintro e W1 ⟨rfl, hb1⟩
  have hB1 := below_tail hB0 hb1
  have hbx1 := hbox.below hb1
  have ⟨y5, y0, y1, y2, y3⟩ := hbx1
  simp only [] at y0 y1 y2 y3
  rcases hrt : G.right with _ | _
  · go_wp2_with fail
    go_ret
    exact ⟨hB1, .inl ⟨hrt, rfl⟩⟩
  · have hfit := Gr.fits hrt
    have Hrt := Lib.hid hrt
    have Hfit := Lib.hid hfit
    have cA := fun Ar cr (r : Rul) (N : List Bool) w' (hr : r ∈ G.rules) (hrr : Ints .i64 w' Ar r.right.length cr r.right) (hN : BoolT w' W1.heap.size N) (hl : N.length = n2) => rf_all Ar r.right.length cr W1.heap.size n2 r.right N b w' hrr hN hl (by omega) (by have := hfit.symB hr; rwa [e2] at this)
    have CA := Lib.hid cA
    clear hrt hfit cA
    go_wp2_with fail
    have hT0 := BoolT.new W1 (List.replicate n2 false)
    have hB10 := alloc_below W1 (.cells (bools (List.replicate n2 false)).toArray 4)
    generalize W1.alloc (.cells (bools (List.replicate n2 false)).toArray 4) = W2 at *
    have hsz := hT0.lt
    clear y0 y1 y2 y3 z0 z1 z2 z3
    go_loopw [6, 7] (fun i _ wr => ∃ (k : Nat), k ≤ n2 ∧ i = .int .i64 (k : Int) ∧ Below W1.heap.size W1 wr ∧ BoolT wr W1.heap.size (iter (passN (bareP b) G.rules) k (List.replicate n2 false))) (fun i _ _ => n2 - (intOf i).toNat)
    case atStart => exact ⟨0, Nat.zero_le _, rfl, hB10, hT0⟩
    case round =>
      clear hT0 hB10 hsz
      obtain ⟨k, hk, rfl, hB, hT⟩ := hrel
      have ⟨y5, y0, y1, y2, y3⟩ := hbx1.below hB
      simp only [] at y0 y1 y2 y3
      by_cases hkk : k < n2
      · go_wp2_with fail
        clear y0 y1 y2 y3
        have hNl : (iter (passN (bareP b) G.rules) k (List.replicate n2 false)).length = n2 := by rw [iterN_len]; simp
        have Hit : Hid (passN (bareP b) G.rules (iter (passN (bareP b) G.rules) k (List.replicate n2 false)) = iter (passN (bareP b) G.rules) (k + 1) (List.replicate n2 false)) := Lib.hid rfl
        generalize iter (passN (bareP b) G.rules) k (List.replicate n2 false) = N at *
        go_loopw [7] (fun i wz => ∃ (j : Nat), j ≤ n3 ∧ i = .int .i64 (j : Int) ∧ Below W1.heap.size W1 wz ∧ BoolT wz W1.heap.size (passN (bareP b) (G.rules.take j) N)) (fun i _ => n3 - (intOf i).toNat)
        case atStart => exact ⟨0, Nat.zero_le _, rfl, hB, by simpa [passN] using hT⟩
        case round =>
          clear hB hT
          obtain ⟨j, hj, rfl, hB, hT⟩ := hrel
          have ⟨y5, y0, y1, y2, y3⟩ := hbx1.below hB
          simp only [] at y0 y1 y2 y3
          by_cases hjj : j < n3
          · obtain ⟨bb, off, r, Ar, cr, rfl, hb, Hr, q0, q1, q2, hrr⟩ := Hg.out.rules.get hjj
            have hBw := below_tail hB1 hB
            rw [← hBw.cell (by exact hb)] at q0 q1 q2
            have hmem := List.mem_of_getElem? Hr.out
            have hNj : (passN (bareP b) (G.rules.take j) N).length = n2 := by rw [passN_len]; exact hNl
            have hnx : passN (bareP b) (G.rules.take (j + 1)) N = growN (bareP b) r (passN (bareP b) (G.rules.take j) N) := by rw [take_snoc' Hr.out, passN_snoc]
            have hlt : W1.heap.size < wr.heap.size := hT.lt
            have hfz : ∀ i, wr.frozen? ⟨W1.heap.size, i, none⟩ = false := fun i => Blk.frozen hT i
            have cA := CA.out Ar cr r _ wr hmem (hrr.below hBw) hT hNj
            obtain ⟨l1, l2⟩ := Hfit.out.left r hmem
            obtain ⟨jl, hjl⟩ : ∃ jl : Nat, r.left = (jl : Int) := ⟨r.left.toNat, by omega⟩
            have hnx2 : passN (bareP b) (G.rules.take (j + 1)) N = if allP b (passN (bareP b) (G.rules.take j) N) r.right then (passN (bareP b) (G.rules.take j) N).set jl true else passN (bareP b) (G.rules.take j) N := by
              rw [hnx]; unfold growN bareP; rw [show r.left.toNat = jl by omega]
            rw [hjl] at q0
            have hjl2 : jl < n2 := by omega
            have Hput := Lib.hid (hT.put jl true)
            have Hnx := Lib.hid hnx2
            have HT := Lib.hid hT
            have HB := Lib.hid hB
            have hcell := hT.at (i := jl) (by omega)
            generalize (passN (bareP b) (G.rules.take j) N).getD jl false = old at *
            generalize allP b (passN (bareP b) (G.rules.take j) N) r.right = tst at *
            have CB := Lib.hid cA
            clear cA hnx hnx2 hT hrr hB hjl l1 l2
            rcases (by cases tst <;> simp : tst = false ∨ tst = true) with rfl | rfl
            · go_wp2_with (go_at_call 44; (with_reducible refine CB.out.mono ?_); rintro e w3 ⟨rfl, rfl⟩)
              go_roundw
              case rel => exact ⟨j + 1, by omega, by go_num, HB.out, by rw [Hnx.out]; exact HT.out⟩
              case measure => simp [intOf]; omega
            · go_wp2_with (go_at_call 44; (with_reducible refine CB.out.mono ?_); rintro e w3 ⟨rfl, rfl⟩)
              go_roundw
              case rel => exact ⟨j + 1, by omega, by go_num, HB.out.trans (grown_is_below (grown_set _ _ _ _) (Nat.le_of_lt hlt) (Nat.le_refl _)), by rw [Hnx.out]; exact Hput.out⟩
              case measure => simp [intOf]; omega
          · obtain rfl : j = n3 := by omega
            rw [List.take_of_length_le (by omega), Hit.out] at hT
            go_wp2_with fail
            go_roundw
            case rel => exact ⟨k + 1, by omega, by go_num, hB, hT⟩
            case measure => simp [intOf]; omega
      · obtain rfl : k = n2 := by omega
        have hfin : grownN b G = iter (passN (bareP b) G.rules) k (List.replicate k false) := by unfold grownN; rw [e2]
        rw [← hfin] at hT
        go_wp2_with fail
        go_ret
        exact ⟨below_tail hB1 hB, .inr ⟨Hrt.out, W1.heap.size, hB1.size, rfl, hT⟩⟩
end Go.Proofs.YtfdbpafenhdkbaaGreatDoor

namespace Go.Proofs.YtfdbpafenhdkbaaGreatDoor
open Go.RowKit
set_option linter.unusedVariables false
set_option linter.unusedSimpArgs false

theorem rf_Nullable (h : GH) (G : Gr) (w : World) (hg : GrAt w h G) (h1 : h.n1 ≤ 100) (h2 : h.n2 ≤ 100) (h3 : h.n3 ≤ 100) :
    Calls Tryz.prog 36 #[GV h G.start] w fun e w' => Below w.heap.size w w' ∧
      ((G.right = false ∧ e = .returned (.slice none 0 0)) ∨ (G.right = true ∧ ∃ g, w.heap.size ≤ g ∧ e = .returned (.slice (some ⟨g, 0, none⟩) h.n2 h.n2) ∧ BoolT w' g (nullN G))) := by
  obtain ⟨a1, n1, c1, a2, n2, c2, a3, n3, c3⟩ := h
  simp only [] at h1 h2 h3
  have hB0 := alloc_below w (.cells #[.slice a1 n1 c1, .slice a2 n2 c2, .slice a3 n3 c3, .int .i64 G.start] 26)
  have hbox := GBox.new w 26 ⟨a1, n1, c1, a2, n2, c2, a3, n3, c3⟩ G.start
  go_enter Tryz.func36, Tryz.ntmps36
  have ⟨z5, z0, z1, z2, z3⟩ := hbox
  simp only [] at z0 z1 z2 z3
  go_wp2_with fail
  generalize w.alloc (.cells #[.slice a1 n1 c1, .slice a2 n2 c2, .slice a3 n3 c3, .int .i64 G.start] 26) = W0 at *
  (with_reducible refine (rf_grown ⟨a1, n1, c1, a2, n2, c2, a3, n3, c3⟩ G false W0 (hg.below hB0) (by simp only []; omega) (by simp only []; omega) (by simp only []; omega)).mono ?_)
  rintro e W1 ⟨hb, ⟨hr, rfl⟩ | ⟨hr, g, hgs, rfl, hT⟩⟩
  · go_wp2_with fail
    go_ret
    exact ⟨below_tail hB0 hb, .inl ⟨hr, rfl⟩⟩
  · go_wp2_with fail
    go_ret
    exact ⟨below_tail hB0 hb, .inr ⟨hr, g, Nat.le_trans hB0.size hgs, rfl, hT⟩⟩

/-! ### the program's -/
theorem enters_bare1 : ∀ args w, (callFunc 90 args).run Tryz.prog w = .ok (.enter 90 args) w := fun args w => by kernel_rfl
theorem enters_within1 : ∀ args w, (callFunc 91 args).run Tryz.prog w = .ok (.enter 91 args) w := fun args w => by kernel_rfl

theorem tr_bare1 (s : Int) (w : World) : Calls Tryz.prog 90 #[.int .i64 s] w fun e w' => e = .returned (.bool (decide (0 ≤ s))) ∧ w = w' := by
  go_enter Tryz.func90, Tryz.ntmps90
  go_wp2_with fail
  go_ret
  exact ⟨rfl, rfl⟩

/-- is a symbol no terminal, and one that the table does not have? -/
def offN (N : List Bool) (s : Int) : Bool := decide (s < 0) && !N.getD (nonI s) false
theorem tr_within1 (s : Int) (b g n : Nat) (N : List Bool) (w : World) (hb : w.cell? ⟨b, 0, none⟩ = some (.slice (some ⟨g, 0, none⟩) n n)) (hN : BoolT w g N) (hn : N.length = n) (hn2 : n ≤ 1000) (hs : -(n : Int) ≤ s ∧ s ≤ 1000) :
    Calls Tryz.prog 91 #[.int .i64 s, .pointer (some ⟨b, 0, none⟩)] w fun e w' => e = .returned (.bool (offN N s)) ∧ w = w' := by
  by_cases h0 : s < 0
  · obtain ⟨j, hj, hnj, hw⟩ := non_place h0 hs.1 hn2
    have c0 := hN.at (i := j) (by omega)
    have Hf : Hid (offN N s = !N.getD j false) := Lib.hid (by unfold offN; rw [decide_eq_true h0, hnj]; rfl)
    generalize N.getD j false = x at *
    clear hN
    go_enter Tryz.func91, Tryz.ntmps91
    go_wp2_with fail
    go_ret
    exact ⟨by rw [Hf.out]; rfl, rfl⟩
  · have Hf : Hid (offN N s = false) := Lib.hid (by unfold offN; rw [decide_eq_false h0]; rfl)
    clear hN
    go_enter Tryz.func91, Tryz.ntmps91
    go_wp2_with fail
    go_ret
    exact ⟨by rw [Hf.out]; rfl, rfl⟩

theorem tr_bare (left : Int) (Ar : Option Addr) (cr : Nat) (ss : List Int) (prec : Int) (w : World) (hr : Ints .i64 w Ar ss.length cr ss) :
    Calls Tryz.prog 61 #[.agg #[.int .i64 left, .slice Ar ss.length cr, .int .i64 prec]] w fun e w' => e = .returned (.bool (!ss.any fun s => decide (0 ≤ s))) ∧ Below w.heap.size w w' := by
  have hB0 := alloc_below w (.cells #[.int .i64 left, .slice Ar ss.length cr, .int .i64 prec] 51)
  have hbox := RBox.new w 51 left Ar ss.length cr prec
  go_enter Tryz.func61, Tryz.ntmps61
  have ⟨z5, z0, z1, z2⟩ := hbox
  go_wp2_with fail
  generalize w.alloc (.cells #[.int .i64 left, .slice Ar ss.length cr, .int .i64 prec] 51) = W0 at *
  have hT : Tells 90 #[] (Value.int .i64) W0 ss (fun s => decide (0 ≤ s)) := fun s _ w' _ => by
    show Calls Tryz.prog 90 #[.int .i64 s] w' _
    exact (tr_bare1 s w').mono fun e w'' hh => ⟨hh.1, by rw [← hh.2]; exact Below.refl _ _⟩
  (with_reducible refine (sl_contains_ints Ar ss.length cr ss 90 #[] (fun s => decide (0 ≤ s)) W0 enters_bare1 (hr.below hB0) hT).mono ?_)
  rintro e W1 ⟨rfl, hb⟩
  go_wp2_with fail
  go_ret
  exact ⟨rfl, below_tail hB0 hb⟩

theorem tr_within (left : Int) (Ar : Option Addr) (cr g n : Nat) (ss : List Int) (prec : Int) (N : List Bool) (w : World) (hr : Ints .i64 w Ar ss.length cr ss) (hN : BoolT w g N) (hn : N.length = n) (hn2 : n ≤ 1000) (hs : ∀ s ∈ ss, -(n : Int) ≤ s ∧ s ≤ 1000) :
    Calls Tryz.prog 62 #[.agg #[.int .i64 left, .slice Ar ss.length cr, .int .i64 prec], .slice (some ⟨g, 0, none⟩) n n] w fun e w' => e = .returned (.bool (!ss.any (offN N))) ∧ Below w.heap.size w w' := by
  have hB0 := alloc_below w (.cells #[.int .i64 left, .slice Ar ss.length cr, .int .i64 prec] 51)
  have hbox := RBox.new w 51 left Ar ss.length cr prec
  go_enter Tryz.func62, Tryz.ntmps62
  have hB1 := hB0.alloc hB0.size (.cells #[.slice (some ⟨g, 0, none⟩) n n] 39)
  have hbx := hbox.below (alloc_below _ (.cells #[.slice (some ⟨g, 0, none⟩) n n] 39))
  have hpb := Blk.new (w.alloc (.cells #[.int .i64 left, .slice Ar ss.length cr, .int .i64 prec] 51)) 39 #[.slice (some ⟨g, 0, none⟩) n n]
  have hsz := alloc_size w (.cells #[.int .i64 left, .slice Ar ss.length cr, .int .i64 prec] 51)
  rw [hsz] at hpb
  have ⟨z5, z0, z1, z2⟩ := hbx
  clear hsz
  go_wp2_with fail
  generalize (w.alloc (.cells #[.int .i64 left, .slice Ar ss.length cr, .int .i64 prec] 51)).alloc (.cells #[.slice (some ⟨g, 0, none⟩) n n] 39) = W0 at *
  have hT : Tells 91 #[.pointer (some ⟨w.heap.size + 1, 0, none⟩)] (Value.int .i64) W0 ss (offN N) := fun s hs' w' hb' => by
    have hc : w'.cell? ⟨w.heap.size + 1, 0, none⟩ = some (.slice (some ⟨g, 0, none⟩) n n) := by
      have := Blk.cell (Blk.ext hpb hb') 0
      simpa using this
    exact (tr_within1 s (w.heap.size + 1) g n N w' hc (Blk.ext (Blk.ext hN hB1) hb') hn hn2 (hs s hs')).mono fun e w'' hh => ⟨hh.1, by rw [← hh.2]; exact Below.refl _ _⟩
  (with_reducible refine (sl_contains_ints Ar ss.length cr ss 91 _ (offN N) W0 enters_within1 (hr.below hB1) hT).mono ?_)
  rintro e W1 ⟨rfl, hb⟩
  go_wp2_with fail
  go_ret
  exact ⟨rfl, below_tail hB1 hb⟩
end Go.Proofs.YtfdbpafenhdkbaaGreatDoor
