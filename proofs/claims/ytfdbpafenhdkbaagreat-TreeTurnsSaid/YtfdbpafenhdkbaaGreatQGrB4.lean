/- first: the program's read, walked. -/
import Derived.Test.YtfdbpafenhdkbaaGreatQGrB3
import Derived.Deep.LoopGhost
import Derived.Deep.RegionHeld3
import Derived.Deep.DeepCutAuto
namespace Go.Proofs.YtfdbpafenhdkbaaGreat
open Go.RowKit
set_option linter.unusedVariables false
set_option linter.unusedSimpArgs false

theorem Blk.hidden {w w' : World} {g : Nat} {t : TypeId} {cs : Array Value} (h : Blk w g t cs) (hb : Hid (Below w.heap.size w w')) : Blk w' g t cs := h.ext hb.out
theorem Blk.fill {w : World} {g : Nat} {t : TypeId} {a b : Value} (h : Blk w g t #[a, b]) (u v : Value) : Blk ((w.setCell ⟨g, 0, none⟩ u).setCell ⟨g, 1, none⟩ v) g t #[u, v] := by
  have := (h.set 0 u).set 1 v
  simpa using this
theorem Blk.newAt {w : World} {g : Nat} {t : TypeId} {cs : Array Value} (h : g = w.heap.size) : Blk (w.alloc (.cells cs t)) g t cs := by subst h; exact Blk.new _ _ _
/-- the program's book, as it lies behind its making -/
structure BookAt (W0 wx : World) (n gB gN gF : Nat) (N : List Bool) (F : List Nat) : Prop where
  below : Below W0.heap.size W0 wx
  loN : W0.heap.size ≤ gN
  loF : W0.heap.size ≤ gF
  loB : W0.heap.size ≤ gB
  ne : gN ≠ gF
  ne2 : gB ≠ gF
  bk : Blk wx gB 56 #[.slice (some ⟨gN, 0, none⟩) n n, .slice (some ⟨gF, 0, none⟩) n n]
  tn : BoolT wx gN N
  tf : SetT wx gF F

theorem BookAt.made {W0 wx : World} {n gB gN gF : Nat} {N : List Bool} {F : List Nat} (bk : Blk wx gB 56 #[.slice (some ⟨gN, 0, none⟩) n n, .slice (some ⟨gF, 0, none⟩) n n])
    (tn : Blk wx gN 4 (bools N).toArray) (tf : Blk wx gF 33 (nums .u32 F).toArray) (below : Below W0.heap.size W0 wx) (loN : W0.heap.size ≤ gN) (loF : W0.heap.size ≤ gF) (loB : W0.heap.size ≤ gB) (ne : gN ≠ gF) (ne2 : gB ≠ gF) :
    ∃ gB' gN' gF', Value.pointer (some ⟨gB, 0, none⟩) = .pointer (some ⟨gB', 0, none⟩) ∧ BookAt W0 wx n gB' gN' gF' N F := ⟨gB, gN, gF, rfl, below, loN, loF, loB, ne, ne2, bk, tn, tf⟩

set_option maxHeartbeats 1000000 in
theorem pf_read (h : GH) (G : Gr) (w : World) (hg : GrAt w h G) (hs : ∀ t ∈ G.terms, t.name.size ≤ maxLen) (hrt : G.right = true) (h1 : h.n1 ≤ 100) (h2 : h.n2 ≤ 100) (h3 : h.n3 ≤ 100) :
    Calls Tryz.prog 40 #[GV h G.start] w fun e w' => Below w.heap.size w w' ∧ ∃ gN gF, w.heap.size ≤ gN ∧ w.heap.size ≤ gF ∧ e = .returned (.agg #[.slice (some ⟨gN, 0, none⟩) h.n2 h.n2, .slice (some ⟨gF, 0, none⟩) h.n2 h.n2]) ∧ BoolT w' gN (nullN G) ∧ SetT w' gF (firstN G) := by
  obtain ⟨a1, n1, c1, a2, n2, c2, a3, n3, c3⟩ := h
  have e1 : G.terms.length = n1 := hg.terms.len
  have e2 : G.nons.length = n2 := hg.nons.len
  have e3 : G.rules.length = n3 := hg.rules.len
  have k3 := hg.rules.cap
  have k2 := hg.nons.cap
  simp only [] at h1 h2 h3 k3 k2
  have Hg := Lib.hid hg
  have Hfit := Lib.hid (Gr.fits hrt)
  have hB0 := alloc_below w (.cells #[.slice a1 n1 c1, .slice a2 n2 c2, .slice a3 n3 c3, .int .i64 G.start] 26)
  have hbox := GBox.new w 26 ⟨a1, n1, c1, a2, n2, c2, a3, n3, c3⟩ G.start
  have hb1 := alloc_below (w.alloc (.cells #[.slice a1 n1 c1, .slice a2 n2 c2, .slice a3 n3 c3, .int .i64 G.start] 26)) (.cells #[.slice none 0 0, .slice none 0 0] 56)
  have hX0 := Blk.new (w.alloc (.cells #[.slice a1 n1 c1, .slice a2 n2 c2, .slice a3 n3 c3, .int .i64 G.start] 26)) 56 #[.slice none 0 0, .slice none 0 0]
  have hmk := make_sets n2 (by omega)
  have hB1 := below_tail hB0 hb1
  have hbx1 := hbox.below hb1
  have p5 := alloc_size w (.cells #[.slice a1 n1 c1, .slice a2 n2 c2, .slice a3 n3 c3, .int .i64 G.start] 26)
  rw [p5] at hX0
  clear hb1 hbox p5
  go_enter Tryz.func40, Tryz.ntmps40
  have ⟨z5, z0, z1, z2, z3⟩ := hbx1
  simp only [] at z0 z1 z2 z3
  go_wp2_with fail
  go_upto_region 1 with fail
  have hg0 := hg.below hB1
  have cN := fun X (hb : Below _ _ X) => (tr_Nullable ⟨a1, n1, c1, a2, n2, c2, a3, n3, c3⟩ G X (hg0.below hb) hs (by simp only []; omega) (by simp only []; omega) (by simp only []; omega)).mono fun e w' hh => And.intro (below_tail hb hh.1) (And.intro hh.1.size (And.intro (bcell hh.1).1 (And.intro (bcell hh.1).2 (And.intro (Lib.hid hh.1) (hh.2.resolve_left fun hc => by rw [hrt] at hc; cases hc.1).2))))
  generalize (w.alloc (.cells #[.slice a1 n1 c1, .slice a2 n2 c2, .slice a3 n3 c3, .int .i64 G.start] 26)).alloc (.cells #[.slice none 0 0, .slice none 0 0] 56) = W0 at *
  have CN := Lib.hid cN
  have hsz := hX0.lt
  clear cN hg hg0 hs hB0
  go_cut [3] (fun v wx => ∃ gB gN gF, v = .pointer (some ⟨gB, 0, none⟩) ∧ BookAt W0 wx n2 gB gN gF (nullN G) (List.replicate n2 0))
  case first =>
    have HS : Hid (∀ W', Below W0.heap.size W0 W' → W'.cell? ⟨w.heap.size, 0, none⟩ = some (.slice a1 n1 c1) ∧ W'.cell? ⟨w.heap.size, 1, none⟩ = some (.slice a2 n2 c2) ∧ W'.cell? ⟨w.heap.size, 2, none⟩ = some (.slice a3 n3 c3) ∧ W'.cell? ⟨w.heap.size, 3, none⟩ = some (.int .i64 G.start) ∧ Below W0.heap.size W0 W') := Lib.hid fun W' hb => ⟨by rw [hb.cell (by exact z5)]; exact z0, by rw [hb.cell (by exact z5)]; exact z1, by rw [hb.cell (by exact z5)]; exact z2, by rw [hb.cell (by exact z5)]; exact z3, hb⟩
    go_region_held3 (fun W' => W'.cell? ⟨w.heap.size, 0, none⟩ = some (.slice a1 n1 c1) ∧ W'.cell? ⟨w.heap.size, 1, none⟩ = some (.slice a2 n2 c2) ∧ W'.cell? ⟨w.heap.size, 2, none⟩ = some (.slice a3 n3 c3) ∧ W'.cell? ⟨w.heap.size, 3, none⟩ = some (.int .i64 G.start) ∧ Below W0.heap.size W0 W')
      ((refine HS.out _ ?_; (repeat (first | assumption | exact Below.refl _ _ | refine Below.drew ?_ | refine below_alloc ?_ _ | refine below_set ?_ _ _ _ (by (first | exact Nat.le_refl _ | exact Nat.le_succ _ | exact Below.size (by assumption) | exact Nat.le_succ_of_le (Below.size (by assumption)) | (simp; done) | omega)))); done))
      (first
        | (go_at_call 67; refine (CN.out _ (by (repeat (first | assumption | exact Below.refl _ _ | refine Below.drew ?_ | refine below_alloc ?_ _ | refine below_set ?_ _ _ _ (by (first | exact Nat.le_refl _ | exact Nat.le_succ _ | exact Below.size (by assumption) | exact Nat.le_succ_of_le (Below.size (by assumption)) | (simp; done) | omega)))))).mono ?_; rintro e w2 ⟨hB2, hs2, hc2, hf2, Hb2, gN, hgN, rfl, HTN⟩; try (have hs3 : W0.heap.size < w2.heap.size := by (have hs4 := hs2; simp at hs4; omega))))
    · skip
      have hl := Blk.lt HTN
      have hn1 := hgN
      have hn2 := hs2
      simp at hn1 hn2
      have HTN2 : Blk w2 gN 4 (bools (nullN G)).toArray := HTN
      go_wp2_with fail
      go_meet
      clear hmk CN HS z0 z1 z2 z3 hbx1 hX0
      refine BookAt.made (gN := gN) (gF := w2.heap.size) ?_ ?_ ?_ (by (repeat (first | assumption | exact Below.refl _ _ | refine Below.drew ?_ | refine below_alloc ?_ _ | refine below_set ?_ _ _ _ (by (first | exact Nat.le_refl _ | exact Nat.le_succ _ | exact Below.size (by assumption) | exact Nat.le_succ_of_le (Below.size (by assumption)) | (simp; done) | omega))))) (by omega) (by omega) (by omega) (by omega) (by omega)
      · exact Blk.newAt (by simp)
      · exact (HTN2.ext (alloc_below _ _)).ext (alloc_below _ _)
      · exact (Blk.new w2 _ _).ext (alloc_below _ _)
    · skip
      have hl := Blk.lt HTN
      have hn1 := hgN
      have hn2 := hs2
      simp at hn1 hn2
      have HTN2 : Blk w2 gN 4 (bools (nullN G)).toArray := HTN
      go_wp2_with fail
      go_meet
      clear hmk CN HS z0 z1 z2 z3 hbx1 hX0
      refine BookAt.made (gN := gN) (gF := w2.heap.size + 1) ?_ ?_ ?_ (by (repeat (first | assumption | exact Below.refl _ _ | refine Below.drew ?_ | refine below_alloc ?_ _ | refine below_set ?_ _ _ _ (by (first | exact Nat.le_refl _ | exact Nat.le_succ _ | exact Below.size (by assumption) | exact Nat.le_succ_of_le (Below.size (by assumption)) | (simp; done) | omega))))) (by omega) (by omega) (by omega) (by omega) (by omega)
      · exact (Blk.new w2 _ _).ext (alloc_below _ _)
      · exact (HTN2.ext (alloc_below _ _)).ext (alloc_below _ _)
      · exact Blk.newAt (by simp)
    · skip
      have hl := Blk.lt HTN
      have hn1 := hgN
      have hn2 := hs2
      simp at hn1 hn2
      have HTN2 : Blk w2 gN 4 (bools (nullN G)).toArray := HTN
      go_wp2_with fail
      go_meet
      clear hmk CN HS z0 z1 z2 z3 hbx1 hX0
      refine BookAt.made (gN := gN) (gF := W0.heap.size) ?_ ?_ ?_ (by (repeat (first | assumption | exact Below.refl _ _ | refine Below.drew ?_ | refine below_alloc ?_ _ | refine below_set ?_ _ _ _ (by (first | exact Nat.le_refl _ | exact Nat.le_succ _ | exact Below.size (by assumption) | exact Nat.le_succ_of_le (Below.size (by assumption)) | (simp; done) | omega))))) (by omega) (by omega) (by omega) (by omega) (by omega)
      · exact Blk.new w2 _ _
      · exact HTN2.ext (alloc_below _ _)
      · exact (Blk.hidden (Blk.drew (Blk.new W0 _ _)) Hb2).ext (alloc_below _ _)
    · skip
      have hl := Blk.lt HTN
      have hn1 := hgN
      have hn2 := hs2
      simp at hn1 hn2
      have HTN2 : Blk w2 gN 4 (bools (nullN G)).toArray := HTN
      go_wp2_with fail
      go_meet
      clear hmk CN HS z0 z1 z2 z3 hbx1 hX0
      refine BookAt.made (gN := gN) (gF := W0.heap.size) ?_ ?_ ?_ (by (repeat (first | assumption | exact Below.refl _ _ | refine Below.drew ?_ | refine below_alloc ?_ _ | refine below_set ?_ _ _ _ (by (first | exact Nat.le_refl _ | exact Nat.le_succ _ | exact Below.size (by assumption) | exact Nat.le_succ_of_le (Below.size (by assumption)) | (simp; done) | omega))))) (by omega) (by omega) (by omega) (by omega) (by omega)
      · exact Blk.fill (Blk.hidden (Blk.drew (Blk.newAt (by simp))) Hb2) _ _
      · exact (HTN2.other _ _ _ (by omega)).other _ _ _ (by omega)
      · exact ((Blk.hidden (Blk.drew (Blk.ext (Blk.new W0 _ _) (alloc_below _ _))) Hb2).other _ _ _ (by omega)).other _ _ _ (by omega)
    · skip
      have hl := Blk.lt HTN
      have hn1 := hgN
      have hn2 := hs2
      simp at hn1 hn2
      have HTN2 : Blk w2 gN 4 (bools (nullN G)).toArray := HTN
      go_wp2_with fail
      go_meet
      clear hmk CN HS z0 z1 z2 z3 hbx1 hX0
      refine BookAt.made (gN := gN) (gF := w2.heap.size) ?_ ?_ ?_ (by (repeat (first | assumption | exact Below.refl _ _ | refine Below.drew ?_ | refine below_alloc ?_ _ | refine below_set ?_ _ _ _ (by (first | exact Nat.le_refl _ | exact Nat.le_succ _ | exact Below.size (by assumption) | exact Nat.le_succ_of_le (Below.size (by assumption)) | (simp; done) | omega))))) (by omega) (by omega) (by omega) (by omega) (by omega)
      · exact (Blk.fill (Blk.hidden (Blk.drew (Blk.new W0 _ _)) Hb2) _ _).ext (alloc_below _ _)
      · exact ((HTN2.other _ _ _ (by omega)).other _ _ _ (by omega)).ext (alloc_below _ _)
      · exact Blk.newAt (by simp)
    · skip
      have hl := Blk.lt HTN
      have hn1 := hgN
      have hn2 := hs2
      simp at hn1 hn2
      have HTN2 : Blk w2 gN 4 (bools (nullN G)).toArray := HTN
      go_wp2_with fail
      go_meet
      clear hmk CN HS z0 z1 z2 z3 hbx1 hX0
      refine BookAt.made (gN := gN) (gF := W0.heap.size + 1) ?_ ?_ ?_ (by (repeat (first | assumption | exact Below.refl _ _ | refine Below.drew ?_ | refine below_alloc ?_ _ | refine below_set ?_ _ _ _ (by (first | exact Nat.le_refl _ | exact Nat.le_succ _ | exact Below.size (by assumption) | exact Nat.le_succ_of_le (Below.size (by assumption)) | (simp; done) | omega))))) (by omega) (by omega) (by omega) (by omega) (by omega)
      · exact Blk.fill (Blk.hidden (Blk.drew (Blk.ext (Blk.new W0 _ _) (alloc_below _ _))) Hb2) _ _
      · exact (HTN2.other _ _ _ (by omega)).other _ _ _ (by omega)
      · exact ((Blk.hidden (Blk.drew (Blk.newAt (by simp))) Hb2).other _ _ _ (by omega)).other _ _ _ (by omega)
  case rest =>
    obtain ⟨gB, gN, gF, rfl, hBk⟩ := hcut
    have hBw := below_tail hB1 hBk.below
    have hbx := hbx1.below hBk.below
    have hXr := hX0.ext hBk.below
    have HXr := Lib.hid hXr
    have HBk := Lib.hid hBk
    have hNl : (nullN G).length = n2 := by rw [nullN_len, e2]
    have Hfin : Hid (firstN G = iter (passF (nullN G) G.rules) n2 (List.replicate n2 0)) := Lib.hid (by unfold firstN; rw [e2])
    have g1 := hBk.loN
    have g2 := hBk.loF
    have g3 := hBk.loB
    have g4 := hBk.ne
    have g5 := hBk.ne2
    have g6 : w.heap.size + 1 < wc.heap.size := Nat.lt_of_lt_of_le hsz hBk.below.size
    have g7 : gB < wc.heap.size := hBk.bk.lt
    have g8 : gF < wc.heap.size := Blk.lt hBk.tf
    have g9 : gN < wc.heap.size := Blk.lt hBk.tn
    have hT0 := hBk.tf
    generalize hNe : nullN G = N at *
    have HNe := Lib.hid hNe
    clear hNe
    clear CN hmk z0 z1 z2 z3 hX0 hbx1 hXr hBk
    go_wp2_with fail
    go_loopg [4] (n2 + 2) (fun q v wr => ∃ (m : Nat) (d : Bool), v = .bool d ∧ q + m = n2 + 2 ∧ Hid (d = false → m ≤ n2) ∧ wc.grownBy wr (some gF) ∧ SetT wr gF (iter (passF N G.rules) m (List.replicate n2 0)) ∧ Hid (d = true → passF N G.rules (iter (passF N G.rules) m (List.replicate n2 0)) = iter (passF N G.rules) m (List.replicate n2 0)))
    case atStart => exact ⟨0, false, rfl, by omega, Lib.hid fun _ => by omega, grown_refl _ _, hT0, Lib.hid fun h => by cases h⟩
    case round =>
      clear hT0
      obtain ⟨m, d, rfl, hq, Hm, hgr, hT, Hfx⟩ := hrel
      have ⟨y5, y0, y1, y2, y3⟩ := hbx
      simp only [] at y0 y1 y2 y3
      have y2' := (grown_frozen hgr (b := w.heap.size) (o := 2) y5 (by omega)).trans y2
      have x0 := Blk.cell (HBk.out.bk.grown hgr (by intro h; injection h with h; exact g5 h)) 0
      have x1 := Blk.cell (HBk.out.bk.grown hgr (by intro h; injection h with h; exact g5 h)) 1
      have r0 := Blk.cell (HXr.out.grown hgr (by intro h; injection h with h; omega)) 0
      have r1 := Blk.cell (HXr.out.grown hgr (by intro h; injection h with h; omega)) 1
      have rf0 := Blk.frozen (HXr.out.grown hgr (by intro h; injection h with h; omega)) 0
      have rf1 := Blk.frozen (HXr.out.grown hgr (by intro h; injection h with h; omega)) 1
      simp only [List.getElem?_toArray, List.getElem?_cons_zero, List.getElem?_cons_succ] at x0 x1 r0 r1
      rcases (by cases d <;> simp : d = false ∨ d = true) with rfl | rfl
      · have hmn := Hm.out rfl
        go_wp2_with fail
        clear x0 x1 r0 r1 rf0 rf1 y0 y1 y2 y3
        have hFl : (iter (passF N G.rules) m (List.replicate n2 0)).length = n2 := by rw [iterF_len]; simp
        have hFs := iterF_small N G.rules (Small.zero n2) m
        have Hit : Hid (passF N G.rules (iter (passF N G.rules) m (List.replicate n2 0)) = iter (passF N G.rules) (m + 1) (List.replicate n2 0)) := Lib.hid rfl
        have Hmore : Hid (passF N G.rules (iter (passF N G.rules) m (List.replicate n2 0)) ≠ iter (passF N G.rules) m (List.replicate n2 0) → m < n2) := Lib.hid fun hne => by
          have hall := (passF_grows N G.rules).fix (List.replicate n2 0)
          rw [List.length_replicate] at hall
          exact iter_more hall hne
        generalize iter (passF N G.rules) m (List.replicate n2 0) = F at *
        go_loopw [4, 6, 19] (fun v _ i wz => ∃ (j : Nat), j ≤ n3 ∧ i = .int .i64 (j : Int) ∧ v = .bool (decide (passF N (G.rules.take j) F = F)) ∧ wc.grownBy wz (some gF) ∧ SetT wz gF (passF N (G.rules.take j) F)) (fun _ _ i _ => n3 - (intOf i).toNat)
        case atStart => exact ⟨0, Nat.zero_le _, rfl, by rw [show passF N (G.rules.take 0) F = F from rfl]; simp, hgr, hT⟩
        case round =>
          clear hgr hT
          obtain ⟨j, hj, rfl, rfl, hgr, hT⟩ := hrel
          by_cases hjj : j < n3
          · obtain ⟨bb, off, r, Ar, cr, rfl, hb, Hr, q0, q1, q2, hrr⟩ := Hg.out.rules.get hjj
            have hBw2 := hBw.trans (grown_is_below hgr hBw.size (by omega))
            rw [← hBw2.cell (by exact hb)] at q0 q1 q2
            have hmem := List.mem_of_getElem? Hr.out
            have hFj : (passF N (G.rules.take j) F).length = n2 := by rw [passF_len]; exact hFl
            have hFs2 := passF_small N (G.rules.take j) hFs
            have hnx : passF N (G.rules.take (j + 1)) F = growF N r (passF N (G.rules.take j) F) := by rw [take_snoc' Hr.out, passF_snoc]
            have hfl : decide (passF N (G.rules.take (j + 1)) F = F) = (decide (growF N r (passF N (G.rules.take j) F) = passF N (G.rules.take j) F) && decide (passF N (G.rules.take j) F = F)) := by rw [hnx]; exact flag_step (passF_grows N _) (growF_grows N r) F
            obtain ⟨l1, l2⟩ := Hfit.out.left r hmem
            obtain ⟨jl, hjl⟩ : ∃ jl : Nat, r.left = (jl : Int) := ⟨r.left.toNat, by omega⟩
            have hjl2 : jl < n2 := by omega
            have hsy := Hfit.out.symN hmem
            rw [e2] at hsy
            generalize hd0 : decide (passF N (G.rules.take j) F = F) = d at *
            clear hd0
            generalize passF N (G.rules.take j) F = Fj at *
            unfold growF at hnx hfl
            rw [show r.left.toNat = jl by omega] at hnx hfl
            rw [hjl] at q0
            have hbkr : Blk wr gB 56 #[.slice (some ⟨gN, 0, none⟩) n2 n2, .slice (some ⟨gF, 0, none⟩) n2 n2] := HBk.out.bk.grown hgr (by intro h; injection h with h; exact g5 h)
            have htnr : BoolT wr gN N := Blk.grown HBk.out.tn hgr (by intro h; injection h with h; exact g4 h)
            have hB1' := alloc_below wr (.cells #[.int .i64 (jl : Int), .slice Ar r.right.length cr, .int .i64 r.prec] 41)
            have hbk1 := hbkr.ext hB1'
            have htn1 : BoolT (wr.alloc (.cells #[.int .i64 (jl : Int), .slice Ar r.right.length cr, .int .i64 r.prec] 41)) gN N := Blk.ext htnr hB1'
            have hT1 : SetT (wr.alloc (.cells #[.int .i64 (jl : Int), .slice Ar r.right.length cr, .int .i64 r.prec] 41)) gF Fj := Blk.ext hT hB1'
            have hy1 := RBox.new wr 41 (jl : Int) Ar r.right.length cr r.prec
            have hrr1 := (hrr.below hBw2).below hB1'
            have hgr1 := grown_trans hgr (grown_below (some gF) hB1')
            have ⟨u5, u0, u1, u2⟩ := hy1
            have x0 := Blk.cell hbk1 0
            have x1 := Blk.cell hbk1 1
            simp only [List.getElem?_toArray, List.getElem?_cons_zero, List.getElem?_cons_succ] at x0 x1
            clear hgr hT hbkr htnr hB1' hy1
            go_wp2_with fail
            generalize wr.alloc (.cells #[.int .i64 (jl : Int), .slice Ar r.right.length cr, .int .i64 r.prec] 41) = wv at *
            have v8 : gF < wv.heap.size := hT1.lt
            have v7 : gB < wv.heap.size := hbk1.lt
            have hhi : beginP N Fj r.right 0 < 4294967296 := beginGo_lt N hFs2 (by decide) _ _ (by decide)
            have cO := fun x : Ext wv => pf_of Ar r.right.length cr gN gF n2 r.right N Fj 0 (bl wv x) (hrr1.ext (Nat.le_refl _) (bl_below wv x)) (Blk.ext htn1 (bl_below wv x)) (Blk.ext hT1 (bl_below wv x)) hNl hFj (by omega) hsy hFs2 (by decide)
            have cS := fun x : Ext wv => pf_still gF n2 jl (beginP N Fj r.right 0) Fj (bl wv x) (Blk.ext hT1 (bl_below wv x)) hFj hjl2 (by omega) hFs2 hhi
            have hput := fun x : Ext wv => SetT.put (Blk.ext hT1 (bl_below wv x) : SetT (bl wv x) gF Fj) jl (Fj.getD jl 0 ||| beginP N Fj r.right 0)
            have Hnx := Lib.hid hnx
            have Hfl := Lib.hid hfl
            have CO := Lib.hid cO
            have CS := Lib.hid cS
            have Hput := Lib.hid hput
            have Hgr1 := Lib.hid hgr1
            have bc := bl_cell wv
            clear hnx hfl cO cS hput hgr1 hrr1 htn1 hT1 hbk1 hrr q0 q1 q2 y2'
            generalize hnd : decide (addAt jl (beginP N Fj r.right 0) Fj = Fj) = nd at *
            clear hnd
            unfold addAt at Hnx
            generalize Fj.getD jl 0 ||| beginP N Fj r.right 0 = z at *
            generalize beginP N Fj r.right 0 = beg at *
            refine wp_region_below_tail 8 (by kernel_rfl) (by kernel_rfl) ?_
            simp only [List.take_succ_cons, List.take_zero, List.drop_succ_cons, List.drop_zero]
            repeat (go_big_quiet_step ((go_at_call 44; with_reducible exact bl_of (CO.out _))))
            refine wpQuiet_nil ?_
            rintro _ ⟨x, rfl⟩
            have hsx := bl_size wv x
            have CS1 := Lib.hid (CS.out x)
            have hbx9 := bl_below wv x
            have HBx := Lib.hid hbx9
            clear CS CO bc hbx9
            rcases (by cases nd <;> simp : nd = false ∨ nd = true) with rfl | rfl
            all_goals
              go_wp2_with (go_at_call 43; (with_reducible refine CS1.out.mono ?_); rintro e w5 ⟨rfl, rfl⟩)
              go_roundw
              case rel => exact ⟨j + 1, by omega, by go_num, by rw [Hfl.out]; simp, grown_trans (grown_trans Hgr1.out (grown_below _ HBx.out)) (grown_set _ _ _ _), by rw [Hnx.out]; exact Hput.out x⟩
              case measure => simp [intOf]; omega
          · obtain rfl : j = n3 := by omega
            rw [List.take_of_length_le (by omega)] at hT ⊢
            have Hgf : Hid (decide (passF N G.rules F = F) = false → m + 1 ≤ n2) := Lib.hid fun hgt => by
              have := Hmore.out (by simpa using hgt)
              omega
            have Hgf2 : Hid (decide (passF N G.rules F = F) = true → passF N G.rules (iter (passF N G.rules) (m + 1) (List.replicate n2 0)) = iter (passF N G.rules) (m + 1) (List.replicate n2 0)) := Lib.hid fun hgt => by
              have he : passF N G.rules F = F := by simpa using hgt
              rw [← Hit.out, he, he]
            generalize decide (passF N G.rules F = F) = y at *
            rw [Hit.out] at hT
            go_wp2_with fail
            go_roundg (n2 + 1 - m)
            case rel => exact ⟨m + 1, y, rfl, by omega, Hgf, hgr, hT, Hgf2⟩
            case measure => omega
      · have hfx := Hfx.out rfl
        have hall := (passF_grows N G.rules).fix (List.replicate n2 0)
        rw [List.length_replicate] at hall
        rw [iter_done hall hfx, ← Hfin.out] at hT
        have HT := Lib.hid hT
        have hBr := hBw.trans (grown_is_below hgr hBw.size (by omega))
        have HBr := Lib.hid hBr
        clear hT Hm Hfx hfx hall y0 y1 y2 y3 hBr
        have Hrow := Lib.hid ((HXr.out.grown hgr (by intro h; injection h with h; omega)).fill (.slice (some ⟨gN, 0, none⟩) n2 n2) (.slice (some ⟨gF, 0, none⟩) n2 n2))
        go_wp2_with fail
        try simp only [Exit.inBlock, Exit.then]
        refine bodyPost_ret (results_cell_row (p := 2) (by kernel_rfl) _ _ (w.heap.size + 1) 56 #[.slice (some ⟨gN, 0, none⟩) n2 n2, .slice (some ⟨gF, 0, none⟩) n2 n2] (0, 0) _ rfl Hrow.out Tryz.underlying56 rfl (by kernel_rfl)) rfl ?_
        refine ⟨?_, gN, gF, by omega, by omega, rfl, ?_, ?_⟩
        · exact below_set (below_set HBr.out _ _ _ (by omega)) _ _ _ (by omega)
        · have hq5 : BoolT wr gN N := Blk.grown HBk.out.tn hgr (by intro h; injection h with h; exact g4 h)
          have hq6 : gN ≠ w.heap.size + 1 := by omega
          first
            | exact (Blk.other hq5 (w.heap.size + 1) _ _ hq6).other (w.heap.size + 1) _ _ hq6
            | (rw [HNe.out]; exact (Blk.other hq5 (w.heap.size + 1) _ _ hq6).other (w.heap.size + 1) _ _ hq6)
        · have hq6 : gF ≠ w.heap.size + 1 := by omega
          exact (Blk.other HT.out (w.heap.size + 1) _ _ hq6).other (w.heap.size + 1) _ _ hq6
end Go.Proofs.YtfdbpafenhdkbaaGreat
