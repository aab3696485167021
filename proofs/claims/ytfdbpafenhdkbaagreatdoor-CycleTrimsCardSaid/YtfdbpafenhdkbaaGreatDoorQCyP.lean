/- cycles, plainly: to which each comes at once; to which it comes, step by step (no program in sight). -/
import Derived.Test.YtfdbpafenhdkbaaGreatDoorQSetPlain
import Derived.Test.YtfdbpafenhdkbaaGreatDoorQGrN3
import Derived.Test.YtfdbpafenhdkbaaGreatDoorQGrE0
import Derived.Deep.RegionWith
namespace Go.Proofs.YtfdbpafenhdkbaaGreatDoor
set_option linter.unusedVariables false
set_option linter.unusedSimpArgs false

/-! ### a closure of sets -/
/-- what the sets of those in S hold, together -/
def joinS (S : Nat) (F : List Nat) : Nat := (List.range F.length).foldl (fun acc k => if S.testBit k then acc ||| F.getD k 0 else acc) 0
theorem foldJoin_bit (S : Nat) (F : List Nat) (t : Nat) : ∀ (l : List Nat) (acc : Nat), (l.foldl (fun acc k => if S.testBit k then acc ||| F.getD k 0 else acc) acc).testBit t = (acc.testBit t || l.any fun k => S.testBit k && (F.getD k 0).testBit t)
  | [], acc => by simp
  | k :: l, acc => by
    rw [List.foldl_cons, foldJoin_bit S F t l, List.any_cons]
    cases S.testBit k <;> simp [Bool.or_assoc]
theorem joinS_bit (S : Nat) (F : List Nat) (t : Nat) : (joinS S F).testBit t = (List.range F.length).any fun k => S.testBit k && (F.getD k 0).testBit t := by
  unfold joinS
  rw [foldJoin_bit]
  simp
theorem joinS_mem {S : Nat} {F : List Nat} {t : Nat} : (joinS S F).testBit t = true ↔ ∃ k, k < F.length ∧ S.testBit k = true ∧ (F.getD k 0).testBit t = true := by
  rw [joinS_bit, List.any_eq_true]
  constructor
  · rintro ⟨k, hk, h⟩
    rw [Bool.and_eq_true] at h
    exact ⟨k, List.mem_range.1 hk, h.1, h.2⟩
  · rintro ⟨k, hk, h1, h2⟩
    exact ⟨k, List.mem_range.2 hk, by rw [h1, h2]; rfl⟩
/-- one more step, for each -/
def stepD (S : List Nat) (F : List Nat) : List Nat := (List.range F.length).map fun i => F.getD i 0 ||| joinS (S.getD i 0) F
theorem stepD_len (S F : List Nat) : (stepD S F).length = F.length := by simp [stepD]
theorem stepD_get (S F : List Nat) {i : Nat} (hi : i < F.length) : (stepD S F).getD i 0 = F.getD i 0 ||| joinS (S.getD i 0) F := by
  rw [List.getD_eq_getElem?_getD]
  simp [stepD, hi]
theorem stepD_grows (S : List Nat) : GrowsS (stepD S) := by
  refine ⟨fun t b => (List.range b.length).map fun i => b.getD i false || (List.range b.length).any fun k => (S.getD i 0).testBit k && b.getD k false, fun t => ⟨fun b => by simp, fun b i h => ?_⟩, fun t F => ?_⟩
  · have hi := (List.getElem?_eq_some_iff.1 h).1
    have : b.getD i false = true := by rw [List.getD_eq_getElem?_getD, h]; rfl
    have hb : b[i] = true := (List.getElem?_eq_some_iff.1 h).2
    simp [hi, hb]
  · refine List.ext_getElem? fun i => ?_
    by_cases hi : i < F.length
    · simp only [viewB, stepD, List.getElem?_map, List.length_map, List.getElem?_range hi, Option.map_some, Option.some.injEq]
      rw [Nat.testBit_or, joinS_bit, view_getD]
      congr 1
      congr 1
      funext k
      rw [view_getD t F k]
      rfl
    · simp only [viewB, stepD, List.getElem?_map, List.length_map]
      rw [List.getElem?_eq_none (by simpa using hi)]
      rfl
/-- to which each comes, step by step -/
def closeS (S : List Nat) : List Nat := iter (stepD S) S.length S
def comesTo (S : List Nat) (i t : Nat) : Bool := ((closeS S).getD i 0).testBit t
theorem iterD_len (S : List Nat) : ∀ m, (iter (stepD S) m S).length = S.length
  | 0 => rfl
  | m + 1 => by rw [iter, stepD_len, iterD_len S m]
theorem closeS_len (S : List Nat) : (closeS S).length = S.length := iterD_len S _
theorem closeS_fix (S : List Nat) : stepD S (closeS S) = closeS S := (stepD_grows S).fix S
/-- by one step and then on -/
theorem comes_step {S : List Nat} {i k t : Nat} (hi : i < S.length) (hk : k < S.length) (h1 : (S.getD i 0).testBit k = true) (h2 : comesTo S k t = true) : comesTo S i t = true := by
  unfold comesTo at h2 ⊢
  rw [← closeS_fix, stepD_get _ _ (by rw [closeS_len]; exact hi), Nat.testBit_or]
  rw [joinS_mem.2 ⟨k, by rw [closeS_len]; exact hk, h1, h2⟩, Bool.or_true]
theorem iterD_up (S : List Nat) {i t : Nat} (hi : i < S.length) : ∀ m, ((iter (stepD S) m S).getD i 0).testBit t = true → ((iter (stepD S) (m + 1) S).getD i 0).testBit t = true := fun m h => by
  rw [iter, stepD_get _ _ (by rw [iterD_len]; exact hi), Nat.testBit_or, h, Bool.true_or]
theorem iterD_close (S : List Nat) {i t : Nat} (hi : i < S.length) (m : Nat) (h : ((iter (stepD S) m S).getD i 0).testBit t = true) : comesTo S i t = true := by
  rcases Nat.le_total m S.length with hm | hm
  · obtain ⟨d, hd⟩ := Nat.exists_eq_add_of_le hm
    unfold comesTo closeS
    rw [hd]
    clear hd hm
    induction d with
    | zero => exact h
    | succ d ih => exact iterD_up S hi _ ih
  · have hfix := iter_fix (f := stepD S) (x := S) (n := S.length) (closeS_fix S) m hm
    rw [hfix] at h
    exact h
/-- at once -/
theorem comes_once {S : List Nat} {i t : Nat} (hi : i < S.length) (h : (S.getD i 0).testBit t = true) : comesTo S i t = true := iterD_close S hi 0 h
theorem iterD_trans (S : List Nat) : ∀ (m : Nat) {i k t : Nat}, i < S.length → k < S.length → ((iter (stepD S) m S).getD i 0).testBit k = true → comesTo S k t = true → comesTo S i t = true
  | 0, i, k, t, hi, hk, h1, h2 => comes_step hi hk h1 h2
  | m + 1, i, k, t, hi, hk, h1, h2 => by
    rw [iter, stepD_get _ _ (by rw [iterD_len]; exact hi), Nat.testBit_or, Bool.or_eq_true] at h1
    rcases h1 with h1 | h1
    · exact iterD_trans S m hi hk h1 h2
    · obtain ⟨k', hk', h3, h4⟩ := joinS_mem.1 h1
      rw [iterD_len] at hk'
      exact comes_step hi hk' h3 (iterD_trans S m hk' hk h4 h2)
/-- on and on -/
theorem comes_trans {S : List Nat} {i k t : Nat} (hi : i < S.length) (hk : k < S.length) (h1 : comesTo S i k = true) (h2 : comesTo S k t = true) : comesTo S i t = true := iterD_trans S _ hi hk h1 h2
/-- what is closed under steps holds all to which one comes -/
theorem comes_least {S : List Nat} (X : Nat → Prop) (hX : ∀ k, k < S.length → X k → ∀ t, (S.getD k 0).testBit t = true → X t) (hS : ∀ i t, (S.getD i 0).testBit t = true → t < S.length) :
    ∀ (m : Nat) {i t : Nat}, i < S.length → (∀ t, (S.getD i 0).testBit t = true → X t) → ((iter (stepD S) m S).getD i 0).testBit t = true → X t
  | 0, i, t, hi, h0, h => h0 t h
  | m + 1, i, t, hi, h0, h => by
    rw [iter, stepD_get _ _ (by rw [iterD_len]; exact hi), Nat.testBit_or, Bool.or_eq_true] at h
    rcases h with h | h
    · exact comes_least X hX hS m hi h0 h
    · obtain ⟨k, hk, h3, h4⟩ := joinS_mem.1 h
      rw [iterD_len] at hk
      exact comes_least X hX hS m hk (hX k hk (h0 k h3)) h4
theorem comes_in {S : List Nat} (X : Nat → Prop) (hX : ∀ k, k < S.length → X k → ∀ t, (S.getD k 0).testBit t = true → X t) (hS : ∀ i t, (S.getD i 0).testBit t = true → t < S.length) {i t : Nat} (hi : i < S.length) (h0 : ∀ t, (S.getD i 0).testBit t = true → X t) (h : comesTo S i t = true) : X t :=
  comes_least X hX hS _ hi h0 h
end Go.Proofs.YtfdbpafenhdkbaaGreatDoor

namespace Go.Proofs.YtfdbpafenhdkbaaGreatDoor
open Go.RowKit
set_option linter.unusedVariables false
set_option linter.unusedSimpArgs false

/-- what is below C stays, whatever is laid or stored from C on -/
theorem bD_alloc {C : Nat} {w w' : World} (h : Below C w w') (hC : C ≤ w.heap.size) (o : Obj) : Below C w (w'.alloc o) := h.alloc (Nat.le_trans hC h.size) o
theorem bD_set {C : Nat} {w w' : World} (h : Below C w w') (hC : C ≤ w.heap.size) (g i : Nat) (v : Value) (hg : C ≤ g) : Below C w (w'.setCell ⟨g, i, none⟩ v) := h.trans (grown_is_below (grown_set _ _ _ _) (Nat.le_trans hC h.size) hg)
/-- which nonterminals are productive -/
def prodN (G : Gr) : List Bool := grownN true G
/-- which places a rule adds to what is productive -/
def prodI (r : Rul) (N : List Bool) : List Int := if allP true N r.right then [r.left] else []
theorem passI_prod (rs : List Rul) (N : List Bool) : passI prodI rs N = passN (bareP true) rs N := by
  unfold passI passN
  congr 1
  funext N r
  unfold growI prodI growN bareP setI
  split <;> simp
theorem iterI_prod (rs : List Rul) (N : List Bool) : ∀ k, iter (passI prodI rs) k N = iter (passN (bareP true) rs) k N
  | 0 => rfl
  | k + 1 => by rw [iter, iter, iterI_prod rs N k, passI_prod]
theorem all_off (N : List Bool) (ss : List Int) : (!ss.any (offN N)) = allP true N ss := by
  unfold allP
  induction ss with
  | nil => rfl
  | cons s ss ih =>
    rw [List.all_cons, ← ih, List.any_cons]
    unfold offN
    by_cases h : 0 ≤ s
    · simp [h]
    · have h2 : s < 0 := by omega
      cases N.getD (nonI s) false <;> simp [h, h2]
theorem rf_Productive (h : GH) (G : Gr) (w : World) (hg : GrAt w h G) (h1 : h.n1 ≤ 100) (h2 : h.n2 ≤ 100) (h3 : h.n3 ≤ 100) :
    Calls Tryz.prog 20 #[GV h G.start] w fun e w' => Below w.heap.size w w' ∧
      ((G.right = false ∧ e = .returned (.slice none 0 0)) ∨ (G.right = true ∧ ∃ g, w.heap.size ≤ g ∧ e = .returned (.slice (some ⟨g, 0, none⟩) h.n2 h.n2) ∧ BoolT w' g (prodN G))) := by
  obtain ⟨a1, n1, c1, a2, n2, c2, a3, n3, c3⟩ := h
  simp only [] at h1 h2 h3
  have hB0 := alloc_below w (.cells #[.slice a1 n1 c1, .slice a2 n2 c2, .slice a3 n3 c3, .int .i64 G.start] 26)
  have hbox := GBox.new w 26 ⟨a1, n1, c1, a2, n2, c2, a3, n3, c3⟩ G.start
  go_enter Tryz.func20, Tryz.ntmps20
  have ⟨z5, z0, z1, z2, z3⟩ := hbox
  simp only [] at z0 z1 z2 z3
  go_wp2_with fail
  generalize w.alloc (.cells #[.slice a1 n1 c1, .slice a2 n2 c2, .slice a3 n3 c3, .int .i64 G.start] 26) = W0 at *
  (with_reducible refine (rf_grown ⟨a1, n1, c1, a2, n2, c2, a3, n3, c3⟩ G true W0 (hg.below hB0) (by simp only []; omega) (by simp only []; omega) (by simp only []; omega)).mono ?_)
  rintro e W1 ⟨hb, ⟨hr, rfl⟩ | ⟨hr, g, hgs, rfl, hT⟩⟩
  · go_wp2_with fail
    go_ret
    exact ⟨below_tail hB0 hb, .inl ⟨hr, rfl⟩⟩
  · go_wp2_with fail
    go_ret
    exact ⟨below_tail hB0 hb, .inr ⟨hr, g, Nat.le_trans hB0.size hgs, rfl, hT⟩⟩

theorem enters_prod1 : ∀ args w, (callFunc 63 args).run Tryz.prog w = .ok (.enter 63 args) w := fun args w => by kernel_rfl


set_option maxHeartbeats 1000000 in
theorem tr_prod1 (r : Rul) (Ar : Option Addr) (cr g n : Nat) (N : List Bool) (w : World) (hr : Ints .i64 w Ar r.right.length cr r.right) (hN : BoolT w g N) (hn : N.length = n) (hn2 : n ≤ 1000) (hs : ∀ s ∈ r.right, -(n : Int) ≤ s ∧ s ≤ 1000) :
    Calls Tryz.prog 63 #[.agg #[.int .i64 r.left, .slice Ar r.right.length cr, .int .i64 r.prec], .slice (some ⟨g, 0, none⟩) n n] w fun e w' => Below w.heap.size w w' ∧ ∃ A m c, e = .returned (.slice A m c) ∧ Ints .i64 w' A m c (prodI r N) ∧ Apart A g := by
  have hgl : g < w.heap.size := hN.lt
  have hB0 := alloc_below w (.cells #[.int .i64 r.left, .slice Ar r.right.length cr, .int .i64 r.prec] 51)
  have hbox := RBox.new w 51 r.left Ar r.right.length cr r.prec
  have hsp := all_off N r.right
  go_enter Tryz.func63, Tryz.ntmps63
  have ⟨z5, z0, z1, z2⟩ := hbox
  have cW := fun w' (hb : Below w.heap.size w w') => tr_within r.left Ar cr g n r.right r.prec N w' (hr.below hb) (Blk.ext hN hb) hn hn2 hs
  generalize (!r.right.any (offN N)) = b2 at *
  have Hnl : Hid (prodI r N = if b2 then [r.left] else []) := Lib.hid (by unfold prodI; rw [hsp])
  have CW := Lib.hid cW
  clear cW hsp
  go_wp2_with fail
  generalize w.alloc (.cells #[.int .i64 r.left, .slice Ar r.right.length cr, .int .i64 r.prec] 51) = W0 at *
  have cW := (CW.out W0 hB0).mono fun e w' hh => And.intro hh.1 (And.intro (bcell hh.2).1 (Lib.hid (below_tail hB0 hh.2)))
  have CW0 := Lib.hid cW
  clear cW
  (with_reducible refine CW0.out.mono ?_)
  rintro e w2 ⟨rfl, hc2, Hb2⟩
  have x0 := (hc2 _ 0 z5).trans z0
  rcases (by cases b2 <;> simp : b2 = false ∨ b2 = true) with rfl | rfl
  · go_wp2_with fail
    go_ret
    exact ⟨Hb2.out, none, 0, 0, rfl, by rw [Hnl.out]; exact Ints.nil _ _ _ _ (by omega), fun b o h => by cases h⟩
  · go_wp2_with fail
    go_ret
    refine ⟨Hb2.out.alloc Hb2.out.size _, _, 1, 1, rfl, by rw [Hnl.out]; exact one_int _ _ _, fun b o h => ?_⟩
    injection h with h
    injection h with h _
    have := Hb2.out.size
    omega

set_option maxHeartbeats 1000000 in
theorem tr_Productive (h : GH) (G : Gr) (w : World) (hg : GrAt w h G) (hs : ∀ t ∈ G.terms, t.name.size ≤ maxLen) (h1 : h.n1 ≤ 100) (h2 : h.n2 ≤ 100) (h3 : h.n3 ≤ 100) :
    Calls Tryz.prog 32 #[GV h G.start] w fun e w' => Below w.heap.size w w' ∧
      ((G.right = false ∧ e = .returned (.slice none 0 0)) ∨ (G.right = true ∧ ∃ g, w.heap.size ≤ g ∧ e = .returned (.slice (some ⟨g, 0, none⟩) h.n2 h.n2) ∧ BoolT w' g (prodN G))) := by
  obtain ⟨a1, n1, c1, a2, n2, c2, a3, n3, c3⟩ := h
  have e2 : G.nons.length = n2 := hg.nons.len
  have k2 := hg.nons.cap
  simp only [] at h1 h2 h3 k2
  have hB0 := alloc_below w (.cells #[.slice a1 n1 c1, .slice a2 n2 c2, .slice a3 n3 c3, .int .i64 G.start] 26)
  have hbox := GBox.new w 26 ⟨a1, n1, c1, a2, n2, c2, a3, n3, c3⟩ G.start
  have hmk := make_bools n2 (by omega)
  go_enter Tryz.func32, Tryz.ntmps32
  have ⟨z5, z0, z1, z2, z3⟩ := hbox
  simp only [] at z0 z1 z2 z3
  go_wp2_with fail
  generalize w.alloc (.cells #[.slice a1 n1 c1, .slice a2 n2 c2, .slice a3 n3 c3, .int .i64 G.start] 26) = W0 at *
  (with_reducible refine (cf_Right ⟨a1, n1, c1, a2, n2, c2, a3, n3, c3⟩ G W0 (hg.below hB0) hs (by simp only []; omega) (by simp only []; omega)).mono ?_)
  rintro e W1 ⟨rfl, hb1⟩
  have hB1 := below_tail hB0 hb1
  have hbx1 := hbox.below hb1
  have ⟨y5, y0, y1, y2, y3⟩ := hbx1
  simp only [] at y0 y1 y2 y3
  rcases hrt : G.right with _ | _
  · go_wp2_with fail
    go_ret
    exact ⟨hB1, .inl ⟨hrt, rfl⟩⟩
  · have hfit := Gr.fits hrt
    have Hrt := Lib.hid hrt
    have Hfit := Lib.hid hfit
    have hT0 := BoolT.new W1 (List.replicate n2 false)
    have hB10 := alloc_below W1 (.cells (bools (List.replicate n2 false)).toArray 4)
    have hg1 := hg.below hB1
    have hq := fun W hT hB => tr_grow ⟨a1, n1, c1, a2, n2, c2, a3, n3, c3⟩ G 63 #[] enters_prod1 prodI W1.heap.size n2 (List.replicate n2 false) W1 W hg1 hB (Nat.le_refl _) (by omega) hT (by simp) (by simp only []; omega)
      (fun r hr N hN s hsm => by
        unfold prodI at hsm
        split at hsm
        · rw [List.mem_singleton] at hsm
          subst hsm
          have := hfit.left r hr
          rw [e2] at this
          exact this
        · cases hsm)
      (fun r hr Ar cr N w' _ hrr hN hl => tr_prod1 r Ar cr W1.heap.size n2 N w' hrr hN hl (by omega) (by have := hfit.symB hr; rwa [e2] at this))
    have HQ := Lib.hid hq
    clear hrt hfit hq hg hg1
    go_wp2_with fail
    go_region_with (go_at_call 59; (with_reducible refine (HQ.out _ ?_ ?_).mono ?_); exact hT0; exact ⟨hB10.os, hB10.tape, hB10.output, hB10.size, hB10.block⟩; rintro e w2 ⟨rfl, hgr, hT⟩)
    all_goals
      have hbf : Below W1.heap.size W1 w2 := by
        refine Below.trans ?_ (grown_is_below hgr hB10.size (Nat.le_refl _))
        exact ⟨hB10.os, hB10.tape, hB10.output, hB10.size, hB10.block⟩
      have hfin : prodN G = iter (passI prodI G.rules) n2 (List.replicate n2 false) := by rw [iterI_prod]; unfold prodN grownN; rw [e2]
      rw [← hfin] at hT
      have HT := Lib.hid hT
      clear hT hfin hgr HQ hT0 hB10 hmk y0 y1 y2 y3 z0 z1 z2 z3
      go_wp2_with fail
      go_ret
      exact ⟨below_tail hB1 hbf, .inr ⟨Hrt.out, W1.heap.size, hB1.size, rfl, HT.out⟩⟩
end Go.Proofs.YtfdbpafenhdkbaaGreatDoor

namespace Go.Proofs.YtfdbpafenhdkbaaGreatDoor
open Go.RowKit
set_option linter.unusedVariables false
set_option linter.unusedSimpArgs false

/-- the nonterminals among some symbols -/
def nonsI (ss : List Int) : List Int := (ss.filter fun s => decide (s < 0)).map fun s => -1 - s
theorem nonsI_take {ss : List Int} {k : Nat} {s : Int} (h : ss[k]? = some s) : nonsI (ss.take (k + 1)) = if s < 0 then nonsI (ss.take k) ++ [-1 - s] else nonsI (ss.take k) := by
  unfold nonsI
  rw [List.take_add_one, h]
  by_cases h0 : s < 0
  · simp [h0, List.filter_append]
  · simp [h0, List.filter_append]
/-- may a rule be gone into? -/
def goesP (P : List Bool) (r : Rul) (N : List Bool) : Bool := N.getD r.left.toNat false && allP true P r.right
/-- which places a rule adds to what is reachable -/
def reachI (P : List Bool) (r : Rul) (N : List Bool) : List Int := if goesP P r N then nonsI r.right else []
def startN (G : Gr) : List Bool := (List.replicate G.nons.length false).set G.start.toNat true
/-- which nonterminals are reachable -/
def reachN (G : Gr) : List Bool := iter (passI (reachI (prodN G)) G.rules) G.nons.length (startN G)
theorem grownN_len (b : Bool) (G : Gr) : (grownN b G).length = G.nons.length := by unfold grownN; rw [iterN_len]; simp
theorem prodN_len (G : Gr) : (prodN G).length = G.nons.length := grownN_len true G
theorem passI_len' (ids : Rul → List Bool → List Int) (rs : List Rul) (N : List Bool) : (passI ids rs N).length = N.length := (passI_grows ids rs).len N
theorem getD_set_true {N : List Bool} {i j : Nat} (h : N.getD i false = true) : (N.set j true).getD i false = true := by
  rw [List.getD_eq_getElem?_getD] at h ⊢
  cases hx : N[i]? with
  | none => rw [hx] at h; simp at h
  | some x =>
    rw [hx] at h
    simp at h
    subst h
    have := (LeB.set N j).2 i hx
    rw [this]
    rfl
theorem setI_getD {N : List Bool} (l : List Int) {i : Nat} (h : N.getD i false = true) : (setI N l).getD i false = true := by
  induction l generalizing N with
  | nil => exact h
  | cons s l ih => exact ih (getD_set_true h)

set_option maxRecDepth 20000 in
set_option maxHeartbeats 4000000 in
theorem rf_Reachable (h : GH) (G : Gr) (w : World) (hg : GrAt w h G) (h1 : h.n1 ≤ 100) (h2 : h.n2 ≤ 100) (h3 : h.n3 ≤ 100) :
    Calls Tryz.prog 21 #[GV h G.start] w fun e w' => Below w.heap.size w w' ∧
      ((G.right = false ∧ e = .returned (.slice none 0 0)) ∨ (G.right = true ∧ ∃ g, w.heap.size ≤ g ∧ e = .returned (.slice (some ⟨g, 0, none⟩) h.n2 h.n2) ∧ BoolT w' g (reachN G))) := by
  obtain ⟨a1, n1, c1, a2, n2, c2, a3, n3, c3⟩ := h
  have e2 : G.nons.length = n2 := hg.nons.len
  have e3 : G.rules.length = n3 := hg.rules.len
  have k3 := hg.rules.cap
  have k2 := hg.nons.cap
  simp only [] at h1 h2 h3 k3 k2
  have Hg := Lib.hid hg
  have hB0 := alloc_below w (.cells #[.slice a1 n1 c1, .slice a2 n2 c2, .slice a3 n3 c3, .int .i64 G.start] 26)
  have hbox := GBox.new w 26 ⟨a1, n1, c1, a2, n2, c2, a3, n3, c3⟩ G.start
  have hmk := make_bools n2 (by omega)
  clear hg
  go_enter Tryz.func21, Tryz.ntmps21
  have ⟨z5, z0, z1, z2, z3⟩ := hbox
  simp only [] at z0 z1 z2 z3
  go_wp2_with fail
  generalize w.alloc (.cells #[.slice a1 n1 c1, .slice a2 n2 c2, .slice a3 n3 c3, .int .i64 G.start] 26) = W0 at *
  (with_reducible refine (rf_right9 ⟨a1, n1, c1, a2, n2, c2, a3, n3, c3⟩ G W0 (Hg.out.below hB0) (by simp only []; omega) (by simp only []; omega) (by simp only []; omega)).mono ?_)
  rintro e W1 ⟨rfl, hb1⟩
  have hB1 := below_tail hB0 hb1
  have hbx1 := hbox.below hb1
  clear z0 z1 z2 z3 z5 hbox
  have ⟨y5, y0, y1, y2, y3⟩ := hbx1
  simp only [] at y0 y1 y2 y3
  rcases hrt : G.right with _ | _
  · go_wp2_with fail
    go_ret
    exact ⟨hB1, .inl ⟨hrt, rfl⟩⟩
  have hfit := Gr.fits hrt
  have hst := hfit.st
  have Hrt := Lib.hid hrt
  have Hfit := Lib.hid hfit
  obtain ⟨js, hjs⟩ : ∃ js : Nat, G.start = (js : Int) := ⟨G.start.toNat, by omega⟩
  have hjs2 : js < n2 := by omega
  have HJs := Lib.hid hjs
  clear hjs
  have cP := (rf_Productive ⟨a1, n1, c1, a2, n2, c2, a3, n3, c3⟩ G W1 (Hg.out.below hB1) (by simp only []; omega) (by simp only []; omega) (by simp only []; omega)).mono fun e w' hh => And.intro hh.1 (hh.2.resolve_left fun hc => by rw [Hrt.out] at hc; cases hc.1).2
  have CP := Lib.hid cP
  clear hrt hfit cP
  go_wp2_with fail
  (with_reducible refine CP.out.mono ?_)
  rintro e W2 ⟨hb2, gp, hgp, rfl, hP⟩
  have hB2 := below_tail hB1 hb2
  have hbx2 := hbx1.below hb2
  clear y0 y1 y2 y3 y5 hbx1
  have hT0 := BoolT.new W2 (List.replicate n2 false)
  have hB20 := alloc_below W2 (.cells (bools (List.replicate n2 false)).toArray 4)
  have hP0 : BoolT (W2.alloc (.cells (bools (List.replicate n2 false)).toArray 4)) gp (prodN G) := Blk.ext hP hB20
  have hbx3 := hbx2.below hB20
  have ⟨y5, y0, y1, y2, y3⟩ := hbx2
  simp only [] at y0 y1 y2 y3
  have hgp2 : gp < W2.heap.size := hP.lt
  go_upto_region 5 with fail
  generalize W2.alloc (.cells (bools (List.replicate n2 false)).toArray 4) = W3 at *
  clear y0 y1 y2 y3 y5
  have ⟨y5, y0, y1, y2, y3⟩ := hbx3
  simp only [] at y0 y1 y2 y3
  rw [HJs.out] at y3
  have hsz3 := hT0.lt
  have hfz := Blk.frozen hT0 js
  have hat := hT0.at (i := js) (by simpa using hjs2)
  have hput := hT0.put js true
  have hB3 := bD_set hB20 (Nat.le_refl _) W2.heap.size js (.bool true) (Nat.le_refl _)
  have hstart : startN G = (List.replicate n2 false).set js true := by unfold startN; rw [e2, HJs.out]; rfl
  rw [← hstart] at hput
  have Hput := Lib.hid hput
  have HB3 := Lib.hid hB3
  have HP2 := Lib.hid hP
  have HB2 := Lib.hid hB2
  have Hbx2 := Lib.hid hbx2
  clear hput hB3 hP hP0 hB20 hB2 hbx2 hbx3 hstart hmk hT0
  have hsl : (startN G).length = n2 := by unfold startN; simp [e2]
  have Hsl := Lib.hid hsl
  clear hsl
  go_wp2_with fail
  generalize W3.setCell ⟨W2.heap.size, js, none⟩ (.bool true) = W4 at *
  generalize hgi : W2.heap.size = gI at *
  have HgI := Lib.hid hgi
  clear hgi y0 y1 y2 y3 y5 hfz hat
  have hlG := Hput.out.lt
  go_loopw [5] (fun i wr => ∃ k : Nat, k ≤ n2 ∧ i = .int .i64 (k : Int) ∧ Hid (Below gI W2 wr) ∧ Hid (BoolT wr gI (iter (passI (reachI (prodN G)) G.rules) k (startN G)))) (fun i _ => n2 - (intOf i).toNat)
  case atStart => exact ⟨0, Nat.zero_le _, rfl, HB3, Hput⟩
  case round =>
    obtain ⟨k, hk, rfl, HB, HT⟩ := hrel
    have hbx := Hbx2.out.below (by rw [HgI.out]; exact HB.out)
    have ⟨y5, y0, y1, y2, y3⟩ := hbx
    simp only [] at y0 y1 y2 y3
    by_cases hkk : k < n2
    case neg =>
      obtain rfl : k = n2 := by omega
      have Hfin : Hid (reachN G = iter (passI (reachI (prodN G)) G.rules) k (startN G)) := Lib.hid (by unfold reachN; rw [e2])
      go_wp2_with fail
      go_ret
      exact ⟨HB2.out.trans (HB.out.mono (by rw [← HgI.out]; exact HB2.out.size)), .inr ⟨Hrt.out, gI, by rw [← HgI.out]; exact HB2.out.size, rfl, by rw [Hfin.out]; exact HT.out⟩⟩
    case pos =>
      have hNl : (iter (passI (reachI (prodN G)) G.rules) k (startN G)).length = n2 := by rw [iterI_len]; exact Hsl.out
      have Hit : Hid (passI (reachI (prodN G)) G.rules (iter (passI (reachI (prodN G)) G.rules) k (startN G)) = iter (passI (reachI (prodN G)) G.rules) (k + 1) (startN G)) := Lib.hid rfl
      generalize iter (passI (reachI (prodN G)) G.rules) k (startN G) = N at *
      have HNl := Lib.hid hNl
      clear hNl
      go_wp2_with fail
      clear y0 y1 y2 y3 y5 hbx
      go_loopw [6] (fun i wz => ∃ j : Nat, j ≤ n3 ∧ i = .int .i64 (j : Int) ∧ Hid (Below gI W2 wz) ∧ Hid (BoolT wz gI (passI (reachI (prodN G)) (G.rules.take j) N))) (fun i _ => n3 - (intOf i).toNat)
      case atStart => exact ⟨0, Nat.zero_le _, rfl, HB, Lib.hid (by simpa [passI] using HT.out)⟩
      case round =>
        clear HB HT
        obtain ⟨j, hj, rfl, HB, HT⟩ := hrel
        have hbx := Hbx2.out.below (by rw [HgI.out]; exact HB.out)
        have ⟨y5, y0, y1, y2, y3⟩ := hbx
        simp only [] at y0 y1 y2 y3
        by_cases hjj : j < n3
        case neg =>
          obtain rfl : j = n3 := by omega
          have Hf : Hid (BoolT wr gI (iter (passI (reachI (prodN G)) G.rules) (k + 1) (startN G))) := Lib.hid (by rw [← Hit.out]; have := HT.out; rw [List.take_of_length_le (by omega)] at this; exact this)
          go_wp2_with fail
          go_roundw
          case rel => exact ⟨k + 1, by omega, by go_num, HB, Hf⟩
          case measure => simp [intOf]; omega
        case pos =>
          have HBw := Lib.hid (HB2.out.trans (HB.out.mono (by rw [← HgI.out]; exact HB2.out.size)))
          obtain ⟨bb, off, r, Ar, cr, rfl, hb0, Hr, q0, q1, q2, hrrw⟩ := Hg.out.rules.get hjj
          rw [← HBw.out.cell (by exact hb0)] at q0 q1 q2
          have hb : bb < wr.heap.size := Nat.lt_of_lt_of_le hb0 HBw.out.size
          have HrrW := Lib.hid hrrw
          have hrr := hrrw.below HBw.out
          clear hrrw
          have hmem := List.mem_of_getElem? Hr.out
          have hcl : (passI (reachI (prodN G)) (G.rules.take j) N).length = n2 := by rw [passI_len']; exact HNl.out
          have Hnx : Hid (passI (reachI (prodN G)) (G.rules.take (j + 1)) N = setI (passI (reachI (prodN G)) (G.rules.take j) N) (reachI (prodN G) r (passI (reachI (prodN G)) (G.rules.take j) N))) := Lib.hid (by rw [take_snoc' Hr.out, passI_snoc]; rfl)
          generalize passI (reachI (prodN G)) (G.rules.take j) N = cur at *
          obtain ⟨l1, l2⟩ := Hfit.out.left r hmem
          obtain ⟨jl, hjl⟩ : ∃ jl : Nat, r.left = (jl : Int) := ⟨r.left.toNat, by omega⟩
          have hjl2 : jl < n2 := by omega
          have hlen := Hfit.out.len r hmem
          have hsy := Hfit.out.symB hmem
          rw [e2] at hsy
          rw [hjl] at q0
          have hgo : goesP (prodN G) r cur = (cur.getD jl false && allP true (prodN G) r.right) := by unfold goesP; rw [show r.left.toNat = jl by omega]
          have Hgo := Lib.hid hgo
          have Hrr := Lib.hid hrr
          have Hsy := Lib.hid hsy
          have Hcl := Lib.hid hcl
          have hbA := alloc_below wr (.cells #[.int .i64 (jl : Int), .slice Ar r.right.length cr, .int .i64 r.prec] 51)
          have hRb := Blk.new wr 51 #[.int .i64 (jl : Int), .slice Ar r.right.length cr, .int .i64 r.prec]
          have hgw : gI < wr.heap.size := HT.out.lt
          clear hgo hrr hsy hcl l1 l2 hjl hmem
          go_wp2_with fail
          have HTA : Hid (BoolT (wr.alloc (.cells #[.int .i64 (jl : Int), .slice Ar r.right.length cr, .int .i64 r.prec] 51)) gI cur) := Lib.hid (Blk.ext HT.out hbA)
          have HBA := Lib.hid (HB.out.trans (hbA.mono (Nat.le_of_lt hgw)))
          have HRb := Lib.hid hRb
          have HrrA := Lib.hid (Hrr.out.below hbA)
          have hszA := alloc_size wr (.cells #[.int .i64 (jl : Int), .slice Ar r.right.length cr, .int .i64 r.prec] 51)
          generalize wr.alloc (.cells #[.int .i64 (jl : Int), .slice Ar r.right.length cr, .int .i64 r.prec] 51) = WA at *
          generalize wr.heap.size = gR at *
          clear hbA hRb y0 y1 y2 y3 y5 q0 q1 q2 hbx HT HB
          have hlA : gI < WA.heap.size := HTA.out.lt
          have r0 : WA.cell? ⟨gR, 0, none⟩ = some (.int .i64 (jl : Int)) := HRb.out.cell 0
          have r1 : WA.cell? ⟨gR, 1, none⟩ = some (.slice Ar r.right.length cr) := HRb.out.cell 1
          have hcapr := HrrA.out.cap
          have CA := Lib.hid fun (W : World) (M : List Bool) (hW : Below gI W2 W) (hr : Ints .i64 W Ar r.right.length cr r.right) => rf_all Ar r.right.length cr gp n2 r.right (prodN G) true W hr (HP2.out.below hW hgp2) (by rw [prodN_len]; exact e2) (by omega) Hsy.out
          rcases hgo : goesP (prodN G) r cur with _ | _
          case false =>
            have Hnx2 : Hid (passI (reachI (prodN G)) (G.rules.take (j + 1)) N = cur) := Lib.hid (by rw [Hnx.out]; unfold reachI; rw [hgo]; rfl)
            have hat := HTA.out.at (i := jl) (by rw [Hcl.out]; exact hjl2)
            have hgo2 := Hgo.out.symm.trans hgo
            have CA1 := CA.out WA cur HBA.out HrrA.out
            generalize cur.getD jl false = tl at *
            generalize allP true (prodN G) r.right = ta at *
            have CA2 := Lib.hid CA1
            clear hgo CA1
            go_loopw [8] (fun i wz => i = .int .i64 0 ∧ WA = wz) (fun i _ => 0)
            case atStart => exact ⟨rfl, rfl⟩
            case round =>
              obtain ⟨rfl, rfl⟩ := hrel
              by_cases hl0 : r.right.length = 0
              case' pos =>
                rw [hl0] at r1
                clear hgo2
                go_wp2_with fail
              case' neg =>
                have hl1 : 0 < r.right.length := by omega
                rcases (by cases tl <;> cases ta <;> simp at hgo2 ⊢ : tl = false ∨ (tl = true ∧ ta = false)) with rfl | ⟨rfl, rfl⟩
                case' inl =>
                  clear hgo2
                  go_wp2_with fail
                case' inr =>
                  clear hgo2
                  go_wp2_with (go_at_call 44; (with_reducible refine CA2.out.mono ?_); rintro e w' ⟨rfl, rfl⟩)
              all_goals
                go_roundw
                case rel => exact ⟨j + 1, by omega, by go_num, HBA, Lib.hid (by rw [Hnx2.out]; exact HTA.out)⟩
                case measure => simp [intOf]; omega
          case true =>
            have hgo2 := Hgo.out.symm.trans hgo
            simp only [Bool.and_eq_true] at hgo2
            obtain ⟨hg1, hg2⟩ := hgo2
            have Hnx2 : Hid (passI (reachI (prodN G)) (G.rules.take (j + 1)) N = setI cur (nonsI r.right)) := Lib.hid (by rw [Hnx.out]; unfold reachI; rw [hgo]; rfl)
            have Hg1 := Lib.hid hg1
            have Hg2 := Lib.hid hg2
            clear hgo hg1 hg2
            go_loopw [8] (fun i wz => ∃ kk : Nat, kk ≤ r.right.length ∧ i = .int .i64 (kk : Int) ∧ Hid (BoolT wz gI (setI cur (nonsI (r.right.take kk)))) ∧ Hid (WA.grownBy wz (some gI))) (fun i _ => r.right.length - (intOf i).toNat)
            case atStart => exact ⟨0, Nat.zero_le _, rfl, HTA, Lib.hid (grown_refl _ _)⟩
            case round =>
              obtain ⟨kk, hkk, rfl, HT, Hgr⟩ := hrel
              have hgRI : gR ≠ gI := by omega
              have hRz := HRb.out.grown Hgr.out (by intro e; injection e with e; exact hgRI e)
              have r0 : wr.cell? ⟨gR, 0, none⟩ = some (.int .i64 (jl : Int)) := hRz.cell 0
              have r1 : wr.cell? ⟨gR, 1, none⟩ = some (.slice Ar r.right.length cr) := hRz.cell 1
              have HBz := Lib.hid (HBA.out.trans (grown_is_below Hgr.out (Nat.le_of_lt hlA) (Nat.le_refl _)))
              have HBzw := Lib.hid (HB2.out.trans (HBz.out.mono (by rw [← HgI.out]; exact HB2.out.size)))
              have hcl3 : (setI cur (nonsI (r.right.take kk))).length = n2 := by rw [setI_len]; exact Hcl.out
              have hat := HT.out.at (i := jl) (by rw [hcl3]; exact hjl2)
              rw [setI_getD _ Hg1.out] at hat
              have hrrz : Ints .i64 wr Ar r.right.length cr r.right := HrrW.out.below HBzw.out
              by_cases hkl : kk < r.right.length
              case neg =>
                obtain rfl : kk = r.right.length := by omega
                have Hf : Hid (BoolT wr gI (setI cur (nonsI r.right))) := Lib.hid (by have := HT.out; rw [List.take_of_length_le (Nat.le_refl _)] at this; exact this)
                go_wp2_with fail
                go_roundw
                case rel => exact ⟨j + 1, by omega, by go_num, HBz, Lib.hid (by rw [Hnx2.out]; exact Hf.out)⟩
                case measure => simp [intOf]; omega
              case pos =>
                have cA := CA.out wr cur HBz.out hrrz
                rw [Hg2.out] at cA
                have CA2 := Lib.hid cA
                obtain ⟨sb, so, s, rfl, hsb, Hs, qs⟩ := hrrz.get hkl
                have hs1 := Hsy.out s (List.mem_of_getElem? Hs.out)
                have hnt := nonsI_take Hs.out
                have HT2 := HT
                have hfz := fun jn => Blk.frozen HT.out jn
                clear cA hcl3 hrrz hRz
                by_cases h0 : s < 0
                · obtain ⟨jn, hjn, hnj, hwj⟩ := non_place h0 hs1.1 (by omega)
                  have hf0 := hfz jn
                  have hat2 := HT.out.at (i := jn) (by rw [setI_len]; rw [Hcl.out]; exact hjn)
                  have Hput : Hid (BoolT (wr.setCell ⟨gI, jn, none⟩ (.bool true)) gI (setI cur (nonsI (r.right.take (kk + 1))))) := Lib.hid (by
                    rw [hnt, if_pos h0, setI_snoc, show (-1 - s).toNat = jn from hnj]
                    exact HT.out.put jn true)
                  clear hnt hfz
                  go_wp2_with (go_at_call 44; (with_reducible refine CA2.out.mono ?_); rintro e w' ⟨rfl, rfl⟩)
                  go_roundw
                  case rel => exact ⟨kk + 1, by omega, by go_num, Hput, Lib.hid (grown_trans Hgr.out (grown_set _ _ _ _))⟩
                  case measure => simp [intOf]; omega
                · have Hst : Hid (BoolT wr gI (setI cur (nonsI (r.right.take (kk + 1))))) := Lib.hid (by rw [hnt, if_neg h0]; exact HT.out)
                  clear hnt hfz
                  go_wp2_with (go_at_call 44; (with_reducible refine CA2.out.mono ?_); rintro e w' ⟨rfl, rfl⟩)
                  go_roundw
                  case rel => exact ⟨kk + 1, by omega, by go_num, Hst, Hgr⟩
                  case measure => simp [intOf]; omega
end Go.Proofs.YtfdbpafenhdkbaaGreatDoor

namespace Go.Proofs.YtfdbpafenhdkbaaGreatDoor
set_option linter.unusedVariables false
set_option linter.unusedSimpArgs false

/-- is a symbol a nullable nonterminal? -/
def nulB (N : List Bool) (s : Int) : Bool := decide (s < 0) && N.getD (nonI s) false
def bareL (N : List Bool) (ss : List Int) : List Int := ss.filter fun s => !nulB N s
def aloneP (N : List Bool) (ss : List Int) (k : Nat) : Bool := (ss.take k).all (nulB N) && (ss.drop (k + 1)).all (nulB N)
/-- by the reference's words -/
def standsR (N P : List Bool) (ss : List Int) (k : Nat) (s : Int) : Bool := decide (s < 0) && aloneP N ss k && allP true P ss
/-- by the program's words -/
def standsP (N P : List Bool) (ss : List Int) (s : Int) : Bool := (decide (s < 0) && P.getD (nonI s) false) && (decide ((bareL N ss).length = 0) || (decide ((bareL N ss).length = 1) && decide ((bareL N ss)[0]? = some s)))
theorem bareL_nil {N : List Bool} {ss : List Int} : bareL N ss = [] ↔ ss.all (nulB N) = true := by
  unfold bareL
  rw [List.filter_eq_nil_iff, List.all_eq_true]
  constructor
  · intro h s hs
    have := h s hs
    simpa using this
  · intro h s hs
    simp [h s hs]
theorem allP_split {P : List Bool} {ss : List Int} {k : Nat} {s : Int} (hk : ss[k]? = some s) : allP true P ss = (allP true P (ss.take k) && (allP true P [s] && allP true P (ss.drop (k + 1)))) := by
  have e : ss = ss.take k ++ ([s] ++ ss.drop (k + 1)) := by
    have hlt := (List.getElem?_eq_some_iff.1 hk).1
    have h1 : ss.drop k = s :: ss.drop (k + 1) := by
      rw [List.drop_eq_getElem_cons hlt]
      congr 1
      exact (List.getElem?_eq_some_iff.1 hk).2
    rw [List.singleton_append, ← h1, List.take_append_drop]
  conv => lhs; rw [e]
  unfold allP
  rw [List.all_append, List.all_append]
theorem null_made {N P : List Bool} (hNP : ∀ i, N.getD i false = true → P.getD i false = true) {ss : List Int} (h : ss.all (nulB N) = true) : allP true P ss = true := by
  unfold allP
  rw [List.all_eq_true] at h ⊢
  intro s hs
  have := h s hs
  unfold nulB at this
  rw [Bool.and_eq_true] at this
  split
  · rfl
  · exact hNP _ this.2
theorem stands_eq {N P : List Bool} (hNP : ∀ i, N.getD i false = true → P.getD i false = true) {ss : List Int} {k : Nat} {s : Int} (hk : ss[k]? = some s) : standsP N P ss s = standsR N P ss k s := by
  by_cases h0 : s < 0
  case neg => unfold standsP standsR; simp [h0]
  have e : bareL N ss = bareL N (ss.take k) ++ (bareL N [s] ++ bareL N (ss.drop (k + 1))) := by
    have hlt := (List.getElem?_eq_some_iff.1 hk).1
    have h1 : ss.drop k = s :: ss.drop (k + 1) := by
      rw [List.drop_eq_getElem_cons hlt]
      congr 1
      exact (List.getElem?_eq_some_iff.1 hk).2
    have e : ss = ss.take k ++ ([s] ++ ss.drop (k + 1)) := by rw [List.singleton_append, ← h1, List.take_append_drop]
    conv => lhs; rw [e]
    unfold bareL
    rw [List.filter_append, List.filter_append]
  have hps : allP true P [s] = P.getD (nonI s) false := by unfold allP; simp <;> omega
  rw [Bool.eq_iff_iff]
  unfold standsP standsR aloneP
  rw [allP_split hk, hps]
  simp only [Bool.and_eq_true, Bool.or_eq_true, decide_eq_true_eq, h0, true_and]
  have hnil := fun l => @bareL_nil N l
  constructor
  · rintro ⟨hp, hb⟩
    have hboth : bareL N (ss.take k) = [] ∧ bareL N (ss.drop (k + 1)) = [] := by
      rw [e] at hb
      by_cases hn : nulB N s = true
      · have hbs : bareL N [s] = [] := by unfold bareL; simp [hn]
        rw [hbs, List.nil_append] at hb
        rcases hb with hb | ⟨hb, hb2⟩
        · rw [List.length_eq_zero_iff, List.append_eq_nil_iff] at hb
          exact hb
        · exfalso
          have hm := List.mem_of_getElem? hb2
          rcases List.mem_append.1 hm with hm | hm
          all_goals
            unfold bareL at hm
            rw [List.mem_filter] at hm
            simp [hn] at hm
      · have hbs : bareL N [s] = [s] := by unfold bareL; simp [hn]
        rw [hbs] at hb
        simp only [List.length_append, List.length_cons, List.length_nil] at hb
        rcases hb with hb | ⟨hb, hb2⟩
        · omega
        · exact ⟨List.length_eq_zero_iff.1 (by omega), List.length_eq_zero_iff.1 (by omega)⟩
    have h1 := (hnil _).1 hboth.1
    have h2 := (hnil _).1 hboth.2
    exact ⟨⟨h1, h2⟩, null_made hNP h1, hp, null_made hNP h2⟩
  · rintro ⟨⟨h1, h2⟩, h3, hp, h4⟩
    refine ⟨hp, ?_⟩
    rw [e, (hnil _).2 h1, (hnil _).2 h2, List.nil_append, List.append_nil]
    by_cases hn : nulB N s = true
    · left
      unfold bareL
      simp [hn]
    · right
      unfold bareL
      simp [hn]
/-! ### nullable is productive -/
theorem allP_mono {N M : List Bool} (h : ∀ i, N.getD i false = true → M.getD i false = true) {ss : List Int} (hs : allP false N ss = true) : allP true M ss = true := by
  unfold allP at hs ⊢
  rw [List.all_eq_true] at hs ⊢
  intro s hm
  have := hs s hm
  split
  · rfl
  · rename_i h0
    rw [if_neg h0] at this
    exact h _ this
def Le' (N M : List Bool) : Prop := N.length = M.length ∧ ∀ i, N.getD i false = true → M.getD i false = true
theorem set_getD (N : List Bool) (j i : Nat) : (N.set j true).getD i false = true ↔ (N.getD i false = true ∨ (i = j ∧ j < N.length)) := by
  rw [List.getD_eq_getElem?_getD, List.getD_eq_getElem?_getD, List.getElem?_set]
  by_cases hij : j = i
  · subst hij
    by_cases hl : j < N.length
    · simp [hl]
    · simp [hl, List.getElem?_eq_none (show N.length ≤ j by omega)]
  · rw [if_neg hij]
    constructor
    · exact .inl
    · rintro (h | ⟨h, _⟩)
      · exact h
      · exact absurd h.symm hij
theorem growN_le {r : Rul} {N M : List Bool} (h : Le' N M) : Le' (growN (bareP false) r N) (growN (bareP true) r M) := by
  refine ⟨by rw [(growN_grows _ r).len, (growN_grows _ r).len]; exact h.1, fun i hi => ?_⟩
  unfold growN at hi ⊢
  by_cases hc : bareP false r N = true
  · rw [if_pos hc, set_getD] at hi
    have hc2 : bareP true r M = true := allP_mono h.2 hc
    rw [if_pos hc2, set_getD]
    rcases hi with hi | ⟨hi, hj⟩
    · exact .inl (h.2 i hi)
    · exact .inr ⟨hi, by rw [← h.1]; exact hj⟩
  · rw [if_neg hc] at hi
    split
    · rw [set_getD]; exact .inl (h.2 i hi)
    · exact h.2 i hi
theorem passN_le {rs : List Rul} {N M : List Bool} (h : Le' N M) : Le' (passN (bareP false) rs N) (passN (bareP true) rs M) := by
  induction rs generalizing N M with
  | nil => exact h
  | cons r rs ih => exact ih (growN_le h)
theorem null_prod (G : Gr) : ∀ i, (nullN G).getD i false = true → (prodN G).getD i false = true := by
  rw [nullN_grown]
  unfold prodN grownN
  generalize G.nons.length = n
  have : ∀ k, Le' (iter (passN (bareP false) G.rules) k (List.replicate n false)) (iter (passN (bareP true) G.rules) k (List.replicate n false)) := fun k => by
    induction k with
    | zero => exact ⟨rfl, fun _ h => h⟩
    | succ k ih => exact passN_le ih
  exact (this n).2
/-! ### steps -/
/-- the step that a place of a rule makes -/
def growSt (N P : List Bool) (r : Rul) (k : Nat) (F : List Nat) : List Nat := match r.right[k]? with
  | none => F
  | some s => if standsR N P r.right k s then addAt r.left.toNat (bitN (-1 - s)) F else F
def posSt (N P : List Bool) (r : Rul) (k : Nat) (F : List Nat) : List Nat := (List.range k).foldl (fun F p => growSt N P r p F) F
theorem posSt_succ (N P : List Bool) (r : Rul) (k : Nat) (F : List Nat) : posSt N P r (k + 1) F = growSt N P r k (posSt N P r k F) := by
  unfold posSt
  rw [List.range_succ, List.foldl_append]
  rfl
def passSt (N P : List Bool) (rs : List Rul) (F : List Nat) : List Nat := rs.foldl (fun F r => posSt N P r r.right.length F) F
theorem passSt_snoc (N P : List Bool) (rs : List Rul) (r : Rul) (F : List Nat) : passSt N P (rs ++ [r]) F = posSt N P r r.right.length (passSt N P rs F) := by simp [passSt]
/-- to which each comes at once -/
def stepsN (G : Gr) : List Nat := passSt (nullN G) (prodN G) G.rules (List.replicate G.nons.length 0)
theorem growSt_len (N P : List Bool) (r : Rul) (k : Nat) (F : List Nat) : (growSt N P r k F).length = F.length := by
  unfold growSt
  split
  · rfl
  · split
    · simp [addAt]
    · rfl
theorem posSt_len (N P : List Bool) (r : Rul) (F : List Nat) : ∀ k, (posSt N P r k F).length = F.length
  | 0 => rfl
  | k + 1 => by rw [posSt_succ, growSt_len, posSt_len N P r F k]
theorem passSt_len (N P : List Bool) (rs : List Rul) (F : List Nat) : (passSt N P rs F).length = F.length := by
  induction rs generalizing F with
  | nil => rfl
  | cons r rs ih => show (passSt N P rs (posSt N P r r.right.length F)).length = _; rw [ih, posSt_len]
theorem stepsN_len (G : Gr) : (stepsN G).length = G.nons.length := by unfold stepsN; rw [passSt_len]; simp
theorem growSt_small (N P : List Bool) (r : Rul) (k : Nat) {F : List Nat} (h : Small F) : Small (growSt N P r k F) := by
  unfold growSt
  split
  · exact h
  · split
    · exact h.addAt _ (bitN_lt _)
    · exact h
theorem posSt_small (N P : List Bool) (r : Rul) {F : List Nat} (h : Small F) : ∀ k, Small (posSt N P r k F)
  | 0 => h
  | k + 1 => by rw [posSt_succ]; exact growSt_small N P r k (posSt_small N P r h k)
theorem passSt_small (N P : List Bool) (rs : List Rul) {F : List Nat} (h : Small F) : Small (passSt N P rs F) := by
  induction rs generalizing F with
  | nil => exact h
  | cons r rs ih => exact ih (posSt_small N P r h _)
theorem stepsN_small (G : Gr) : Small (stepsN G) := passSt_small _ _ _ (Small.zero _)
end Go.Proofs.YtfdbpafenhdkbaaGreatDoor
