/- yacc: what the law lists of a source: its walk. -/
import Derived.Test.YtdeiipbnaknedaaYQ24
import Derived.Deep.DeepCutAuto
namespace Go.Proofs.Ytdeiipbnaknedaa
open Go.RowKit
set_option linter.unusedVariables false
set_option linter.unusedSimpArgs false

def namesOf (zs : List (WithY DclY)) : List RefY := zs.flatMap fun z => z.val.names
theorem namesOf_step {zs : List (WithY DclY)} {k : Nat} {z : WithY DclY} (h : zs[k]? = some z) : namesOf (zs.take (k + 1)) = namesOf (zs.take k) ++ z.val.names := by
  unfold namesOf
  rw [List.take_add_one, h, List.flatMap_append]
  simp
theorem namesOf_le (zs : List (WithY DclY)) (k : Nat) : (namesOf (zs.take k)).length ≤ (namesOf zs).length := by
  conv => rhs; rw [← List.take_append_drop k zs]
  unfold namesOf
  rw [List.flatMap_append, List.length_append]
  omega
def rulesOf (zs : List (WithY PrdY)) : List RefY := listY none (zs.map WithY.val)
theorem listY_le : ∀ (prev : Option RefY) (a b : List PrdY), (listY prev a).length ≤ (listY prev (a ++ b)).length
  | _, [], _ => Nat.zero_le _
  | prev, p :: a, b => by
    rw [List.cons_append, listY, listY, List.length_append, List.length_append, List.length_append, List.length_append]
    have := listY_le (some p.left) a b
    omega
theorem rulesOf_le (zs : List (WithY PrdY)) (k : Nat) : (rulesOf (zs.take k)).length ≤ (rulesOf zs).length := by
  unfold rulesOf
  conv => rhs; rw [← List.take_append_drop k zs, List.map_append]
  exact listY_le _ _ _
theorem rulesOf_step {zs : List (WithY PrdY)} {k : Nat} {z : WithY PrdY} (h : zs[k]? = some z) : rulesOf (zs.take (k + 1)) = rulesOf (zs.take k) ++ ((if lastL none ((zs.take k).map WithY.val) = some z.val.left then [] else [z.val.left]) ++ bodyY z.val) := by
  unfold rulesOf
  rw [List.take_add_one, h, List.map_append]
  exact listY_snoc none _ z.val

theorem own_neB {w : World} {base e t size n c g : Nat} {A : Option Addr} {xs : List Value} {cs : Array Value} (h : w.ownsRow base e size (.slice A n c) n xs) (hg : Blk w g t cs) (ht : t ≠ e) : some g ≠ (Value.slice A n c).ownBlock := by
  intro he
  rcases A with _ | a
  · cases he
  · injection he with he
    exact own_ne h hg ht a rfl he.symm
theorem refsCells_app (a b : List RefY) : refsCells a ++ b.flatMap refCells = refsCells (a ++ b) := by
  unfold refsCells
  rw [List.flatMap_append]
theorem str_some {a : List Nat} (h : a ≠ []) : (str a).toList.isEmpty = false := by
  cases a with
  | nil => exact absurd rfl h
  | cons x a => unfold str; simp [ByteArray.toList_eq]

set_option maxRecDepth 20000 in
set_option maxHeartbeats 4000000 in
theorem ls_listed (bs : List Nat) (A1 A2 : Option Addr) (n1 c1 n2 c2 : Nat) (zs1 : List (WithY DclY)) (zs2 : List (WithY PrdY)) (w : World) (F1 : Flat 2 dclCells w w.heap.size A1 n1 c1 zs1) (I1 : InY DclY.names w (fun _ => True) zs1) (F2 : Flat 5 prdCells w w.heap.size A2 n2 c2 zs2) (I2 : InY PrdY.right w (fun _ => True) zs2)
    (hg2 : ∀ z ∈ zs2, GoodR bs z.val.left ∧ ∀ r ∈ bodyY z.val, GoodR bs r) (hbs : bs.length ≤ 2000) (hb1 : n1 ≤ 4000) (hb2 : n2 ≤ 4000) (htot : (namesOf zs1).length + (rulesOf zs2).length ≤ 4000) :
    Calls Try.prog 7 #[.agg #[.slice A1 n1 c1, .slice A2 n2 c2]] w fun e w' => ∃ A c, e = .returned (.slice A ((namesOf zs1).length + (rulesOf zs2).length) c) ∧
      w'.ownsRow w.heap.size 40 2 (.slice A ((namesOf zs1).length + (rulesOf zs2).length) c) ((namesOf zs1).length + (rulesOf zs2).length) (refsCells (namesOf zs1 ++ rulesOf zs2)) ∧ Below w.heap.size w w' := by
  have hi16 : (Try.prog.info? 40).map (fun i => (i.zero, i.size, i.bytes)) = some (some (.agg #[.string ⟨#[]⟩, .complex .f64 0 0]), 2, 32) := by kernel_rfl
  have Hi := Lib.hid hi16
  have hl1 := F1.1
  have hl2 := F2.1
  have hcc1 := F1.2.1
  have hcc2 := F2.2.1
  have hm1 := F1.2.2.1
  have hm2 := F2.2.2.1
  have HF1 := Lib.hid F1
  have HI1 := Lib.hid I1
  have HF2 := Lib.hid F2
  have HI2 := Lib.hid I2
  have HG2 := Lib.hid hg2
  have hB0 := alloc_below w (.cells #[.slice A1 n1 c1, .slice A2 n2 c2] 27)
  have hbk0 := Blk.new w 27 #[.slice A1 n1 c1, .slice A2 n2 c2]
  have hz0 : (w.alloc (.cells #[.slice A1 n1 c1, .slice A2 n2 c2] 27)).heap.size = w.heap.size + 1 := alloc_size _ _
  have ksc : ∀ (w : World) (a : Addr) (k : FloatKind) (x y : Nat) (m : Mode), (store a (.complex k x y) m).run Try.prog w = stored Try.prog w a (.complex k x y) m := fun w a k x y m => run_store Try.prog w a _ m rfl
  clear F1 I1 F2 I2 hg2 hi16
  go_enter Try.func7, Try.ntmps7
  go_wp2_with fail
  go_loopw [3, 4] (fun o i wr => ∃ (k d c : Nat) (A : Option Addr), i = .int .i64 (k : Int) ∧ o = .slice A d c ∧ k ≤ n1 ∧ d ≤ 4000 ∧ Hid (d = (namesOf (zs1.take k)).length) ∧ w.heap.size + 1 ≤ wr.heap.size ∧
      Hid (wr.ownsRow (w.heap.size + 1) 40 2 (.slice A d c) d (refsCells (namesOf (zs1.take k)))) ∧ Hid (Below w.heap.size w wr) ∧ Hid (Blk wr w.heap.size 27 #[.slice A1 n1 c1, .slice A2 n2 c2])) (fun _ i _ => n1 - (intOf i).toNat)
  case atStart => exact ⟨0, 0, 0, none, rfl, rfl, by omega, by omega, Lib.hid rfl, by omega, Lib.hid (World.ownsRow_nil _ _ _ _), Lib.hid hB0, Lib.hid hbk0⟩
  case round =>
    obtain ⟨k, d, c, A, rfl, rfl, hk, hd4, Hd, hsw, Ho, HB, Hbk⟩ := hrel
    have j0 : wr.cell? ⟨w.heap.size, 0, none⟩ = some (.slice A1 n1 c1) := Hbk.out.cell 0
    have j1 : wr.cell? ⟨w.heap.size, 1, none⟩ = some (.slice A2 n2 c2) := Hbk.out.cell 1
    by_cases hlt : k < n1
    case pos =>
      obtain ⟨b, off, z, rfl, hbB, hbl, Hz, hc⟩ := (HF1.out.below HB.out).get hlt
      have e1 : wr.cell? ⟨b, off + k * 2 + 1, none⟩ = some (.slice z.A z.val.names.length z.c) := hc 1 _ rfl
      have hz : z ∈ zs1 := List.mem_of_getElem? Hz.out
      have hRz := (HI1.out z hz).1.keep (w' := wr) HB.out.size fun b off e hlt => HB.out.block b hlt
      have hst := namesOf_step Hz.out
      have hle := namesOf_le zs1 (k + 1)
      rw [hst, List.length_append, ← Hd.out] at hle
      have HRz := Lib.hid hRz
      have Hst : Hid (refsCells (namesOf (zs1.take k)) ++ z.val.names.flatMap refCells = refsCells (namesOf (zs1.take (k + 1)))) := Lib.hid (by rw [hst]; unfold refsCells; rw [List.flatMap_append])
      have Hd2 : Hid (d + z.val.names.length = (namesOf (zs1.take (k + 1))).length) := Lib.hid (by rw [hst, List.length_append, ← Hd.out])
      have Hone := Lib.hid (refsCells_one z.val.names)
      clear hRz hst hc hz
      go_wp2_with (at_builtin; refine wpl_appendF rfl _ _ 35 rfl (w.heap.size + 1) 40 _ 2 32 Try.underlying35 Hi.out (by decide) (by decide) A d c (refsCells (namesOf (zs1.take k))) rfl Ho.out refCells refCells_len _ z.A z.val.names.length z.c z.val.names rfl HRz.out Hone.out (by omega) (by omega) (by omega) ?_; intro A4 c4 w4 ho4 hgr4)
      have hs4 := hgr4.size
      have HBn : Below w.heap.size w w4 := HB.out.grown hgr4 (by omega) fun k hk => by have := (Ho.out.lt k hk).1; omega
      have hbkn := Hbk.out.grown hgr4 (by intro e; have := (Ho.out.lt _ e.symm).1; omega)
      rw [Hst.out] at ho4
      exact ⟨⟨k + 1, _, c4, A4, by go_num, rfl, by omega, by omega, Hd2, by omega, Lib.hid ho4, Lib.hid HBn, Lib.hid hbkn⟩, by simp [intOf]; omega⟩
    case neg =>
      obtain rfl : k = n1 := by omega
      rw [List.take_of_length_le (by omega)] at Hd Ho
      generalize hN : namesOf zs1 = N at *
      have hdN := Hd.out
      go_wp2_with fail
      go_loopw [3, 5] (fun o i wr => ∃ (m d c : Nat) (A : Option Addr), i = .int .i64 (m : Int) ∧ o = .slice A d c ∧ m ≤ n2 ∧ Hid (d = N.length + (rulesOf (zs2.take m)).length) ∧ w.heap.size + 1 ≤ wr.heap.size ∧
          Hid (wr.ownsRow (w.heap.size + 1) 40 2 (.slice A d c) d (refsCells (N ++ rulesOf (zs2.take m)))) ∧ Hid (Below w.heap.size w wr) ∧ Hid (Blk wr w.heap.size 27 #[.slice A1 k c1, .slice A2 n2 c2])) (fun _ i _ => n2 - (intOf i).toNat)
      case atStart => exact ⟨0, d, c, A, rfl, rfl, by omega, Lib.hid (by rw [hdN]; rfl), hsw, Lib.hid (by have := Ho.out; rw [show N ++ rulesOf (zs2.take 0) = N from List.append_nil N]; exact this), HB, Hbk⟩
      case round =>
        clear Ho Hbk HB Hd j0 j1 hsw hd4 hdN
        obtain ⟨m, d, c, A, rfl, rfl, hm, Hd, hsw, Ho, HB, Hbk⟩ := hrel
        have j0 : wr.cell? ⟨w.heap.size, 0, none⟩ = some (.slice A1 k c1) := Hbk.out.cell 0
        have j1 : wr.cell? ⟨w.heap.size, 1, none⟩ = some (.slice A2 n2 c2) := Hbk.out.cell 1
        by_cases hlt2 : m < n2
        case neg =>
          obtain rfl : m = n2 := by omega
          rw [List.take_of_length_le (by omega)] at Hd Ho
          go_wp2_with fail
          go_ret
          refine ⟨A, c, by rw [hN, ← Hd.out]; rfl, ?_, HB.out⟩
          rw [hN, ← Hd.out]
          exact own_late Ho.out (fun _ _ _ => rfl) (by omega)
        case pos =>
          have HF2w := Lib.hid (HF2.out.below HB.out)
          obtain ⟨b, off, z, rfl, hbB, hbl, Hz, hc⟩ := HF2w.out.get hlt2
          have hzm : z ∈ zs2 := List.mem_of_getElem? Hz.out
          have HGz := Lib.hid (HG2.out z hzm)
          have HIz := Lib.hid (HI2.out z hzm).1
          have hst := rulesOf_step Hz.out
          have hle := rulesOf_le zs2 (m + 1)
          rw [hst, List.length_append, List.length_append] at hle
          have hdT : d + ((if lastL none ((zs2.take m).map WithY.val) = some z.val.left then [] else [z.val.left] : List RefY).length + (bodyY z.val).length) ≤ 4000 := by have := Hd.out; omega
          have Hst := Lib.hid hst
          have HdR : Hid (d = (N ++ rulesOf (zs2.take m)).length) := Lib.hid (by rw [List.length_append]; exact Hd.out)
          obtain ⟨x1, y1, hxy1⟩ := PA_form z.val.left.2
          obtain ⟨s2, x2, y2, hs2⟩ := precCells_form z.val.prec
          have hpc : prdCells z = [.string (str z.val.left.1), .complex .f64 x1 y1, .slice z.A z.val.right.length z.c, .string s2, .complex .f64 x2 y2] := by
            unfold prdCells
            rw [hxy1, hs2]
          rw [hpc] at hc
          have hcL : refCells z.val.left = [.string (str z.val.left.1), .complex .f64 x1 y1] := by unfold refCells; rw [hxy1]
          have e0 : wr.cell? ⟨b, off + m * 5, none⟩ = some (.string (str z.val.left.1)) := hc 0 _ rfl
          have e1 : wr.cell? ⟨b, off + m * 5 + 1, none⟩ = some (.complex .f64 x1 y1) := hc 1 _ rfl
          have e2 : wr.cell? ⟨b, off + m * 5 + 2, none⟩ = some (.slice z.A z.val.right.length z.c) := hc 2 _ rfl
          have e3 : wr.cell? ⟨b, off + m * 5 + 3, none⟩ = some (.string s2) := hc 3 _ rfl
          have e4 : wr.cell? ⟨b, off + m * 5 + 4, none⟩ = some (.complex .f64 x2 y2) := hc 4 _ rfl
          generalize hL : str z.val.left.1 = L at *
          have hBp := alloc_below wr (.cells #[.string L, .complex .f64 x1 y1, .slice z.A z.val.right.length z.c, .string s2, .complex .f64 x2 y2] 44)
          have hPk := Blk.new wr 44 #[.string L, .complex .f64 x1 y1, .slice z.A z.val.right.length z.c, .string s2, .complex .f64 x2 y2]
          have hsp : (wr.alloc (.cells #[.string L, .complex .f64 x1 y1, .slice z.A z.val.right.length z.c, .string s2, .complex .f64 x2 y2] 44)).heap.size = wr.heap.size + 1 := alloc_size _ _
          have HB2 := Lib.hid (HB.out.trans (hBp.mono HB.out.size))
          have Hbk2 := Lib.hid (Hbk.out.ext hBp)
          have Ho2 := Lib.hid (own_belowS Ho.out hBp)
          have Hne := Lib.hid fun k hk => (Ho.out.lt k hk).2
          clear hc hpc hst hle Hd
          have hm0 : m = 0 ∨ m ≠ 0 := by omega
          rcases hm0 with hm0 | hm0
          · have q0 : ((m : Int) == 0) = true := by rw [beq_iff_eq]; omega
            have HL : Hid (lastL none ((zs2.take m).map WithY.val) ≠ some z.val.left) := Lib.hid (by rw [hm0]; simp [lastL])
            clear hm0
            go_wp2_with fail
            generalize hwp : wr.alloc (.cells #[.string L, .complex .f64 x1 y1, .slice z.A z.val.right.length z.c, .string s2, .complex .f64 x2 y2] 44) = wp at *
            have g1 : wp.cell? ⟨w.heap.size, 1, none⟩ = some (.slice (some ⟨b, off, none⟩) n2 c2) := Hbk2.out.cell 1
            have p0 : wp.cell? ⟨wr.heap.size, 0, none⟩ = some (.string L) := hPk.cell 0
            have p1 : wp.cell? ⟨wr.heap.size, 1, none⟩ = some (.complex .f64 x1 y1) := hPk.cell 1
            have hl1' : w.heap.size < wp.heap.size := by omega
            have hl2' : wr.heap.size < wp.heap.size := by omega
            have bc := bl_cell wp
            refine wp_region_below (by kernel_rfl) (by kernel_rfl) ?_
            repeat (go_big_quiet_step (fail))
            refine wpQuiet_nil ?_
            rintro _ ⟨x, rfl⟩
            have hbY := bl_below wp x
            have HBY := Lib.hid (HB2.out.trans (hbY.mono HB2.out.size))
            have HbkY := Lib.hid (Hbk2.out.ext hbY)
            have HPY := Lib.hid (hPk.ext hbY)
            have HoY := Lib.hid (own_belowS Ho2.out hbY)
            have hsY := hbY.size
            generalize bl wp x = WY at *
            clear g1 p0 p1 bc hbY hBp hPk HB2 Hbk2 Ho2 HB Hbk Ho j0 j1 e0 e1 e2 e3 e4
            have r0 : WY.cell? ⟨wr.heap.size, 0, none⟩ = some (.string L) := HPY.out.cell 0
            have r1 : WY.cell? ⟨wr.heap.size, 1, none⟩ = some (.complex .f64 x1 y1) := HPY.out.cell 1
            have r2 : WY.cell? ⟨wr.heap.size, 2, none⟩ = some (.slice z.A z.val.right.length z.c) := HPY.out.cell 2
            have r3 : WY.cell? ⟨wr.heap.size, 3, none⟩ = some (.string s2) := HPY.out.cell 3
            have r4 : WY.cell? ⟨wr.heap.size, 4, none⟩ = some (.complex .f64 x2 y2) := HPY.out.cell 4
            have hf : (if lastL none ((zs2.take m).map WithY.val) = some z.val.left then [] else [z.val.left] : List RefY) = [z.val.left] := if_neg HL.out
            rw [hf] at hdT
            have Hst3 := Lib.hid (hf ▸ Hst.out)
            simp only [List.length_cons, List.length_nil] at hdT
            have HX : Hid (refsCells (N ++ rulesOf (zs2.take m)) ++ [.string L, .complex .f64 x1 y1] = refsCells ((N ++ rulesOf (zs2.take m)) ++ [z.val.left])) := Lib.hid (by rw [refsCells_snoc, hcL])
            have hbz : (bodyY z.val).length = z.val.right.length + z.val.prec.toList.length := by unfold bodyY; rw [List.length_append]
            clear hf Hst
            have Hone := Lib.hid (refsCells_one z.val.right)
            rcases hpr : z.val.prec with _ | rp
            · have hse : s2.toList.isEmpty = true := by
                rw [hpr] at hs2
                unfold precCells at hs2
                injection hs2 with hs2
                injection hs2 with hs2
                rw [← hs2]
                kernel_rfl
              have hbd : bodyY z.val = z.val.right := by unfold bodyY; rw [hpr]; simp
              rw [hbd] at hdT Hst3
              go_wp2_with (first
                | (at_builtin; refine wpl_appendT rfl _ _ 35 rfl (w.heap.size + 1) 40 _ 2 32 Try.underlying35 Hi.out (by decide) (by decide) A d c (refsCells (N ++ rulesOf (zs2.take m))) rfl HoY.out [.string L, .complex .f64 x1 y1] rfl rfl (by simp [Value.oneCell']) (by omega) (by omega) (by omega) ?_; intro A3 c3 w3 ho3 hgr3 _
                   have hs3 := hgr3.size
                   have HB3 := Lib.hid (HBY.out.grown hgr3 (by omega) fun k hk => by have := (HoY.out.lt k hk).1; omega)
                   have HR3 := Lib.hid (HIz.out.keep (w' := w3) HB3.out.size fun b off e hlt => HB3.out.block b hlt)
                   have Hbk3 := Lib.hid (HbkY.out.grown hgr3 (by intro e; have := (HoY.out.lt _ e.symm).1; omega))
                   have HP3 := Lib.hid (HPY.out.grown hgr3 (by intro e; have := Hne.out _ e.symm; omega))
                   have Hne3 := Lib.hid (own_ne ho3 HP3.out (by decide))
                   have r2' : w3.cell? ⟨wr.heap.size, 2, none⟩ = some (.slice z.A z.val.right.length z.c) := HP3.out.cell 2
                   have r3' : w3.cell? ⟨wr.heap.size, 3, none⟩ = some (.string s2) := HP3.out.cell 3
                   have r4' : w3.cell? ⟨wr.heap.size, 4, none⟩ = some (.complex .f64 x2 y2) := HP3.out.cell 4
                   rw [HX.out] at ho3)
                | (at_builtin; refine wpl_appendF rfl _ _ 35 rfl (w.heap.size + 1) 40 _ 2 32 Try.underlying35 Hi.out (by decide) (by decide) A3 (d + 1) c3 (refsCells ((N ++ rulesOf (zs2.take m)) ++ [z.val.left])) rfl ho3 refCells refCells_len _ z.A z.val.right.length z.c z.val.right rfl HR3.out Hone.out (by omega) (by omega) (by omega) ?_; intro A4 c4 w4 ho4 hgr4
                   have hs4 := hgr4.size
                   have HB4 := Lib.hid (HB3.out.grown hgr4 (by omega) fun k hk => by have := (ho3.lt k hk).1; omega)
                   have Hbk4 := Lib.hid (Hbk3.out.grown hgr4 (by intro e; have := (ho3.lt _ e.symm).1; omega))
                   have HP4 := Lib.hid (HP3.out.grown hgr4 (own_neB ho3 HP3.out (by decide)))
                   have r3'' : w4.cell? ⟨wr.heap.size, 3, none⟩ = some (.string s2) := HP4.out.cell 3
                   have r4'' : w4.cell? ⟨wr.heap.size, 4, none⟩ = some (.complex .f64 x2 y2) := HP4.out.cell 4))
              rw [refsCells_app] at ho4
              go_roundw
              case rel => exact ⟨m + 1, (d + 1) + z.val.right.length, c4, A4, by go_num, rfl, by omega, Lib.hid (by rw [Hst3.out]; simp only [List.length_append, List.length_cons, List.length_nil]; have := HdR.out; rw [List.length_append] at this; omega), by omega, Lib.hid (by rw [Hst3.out]; rw [show N ++ (rulesOf (zs2.take m) ++ ([z.val.left] ++ z.val.right)) = (N ++ rulesOf (zs2.take m) ++ [z.val.left]) ++ z.val.right by simp]; exact ho4), HB4, Hbk4⟩
              case measure => simp [intOf]; omega
            · have hcp : refCells rp = [.string s2, .complex .f64 x2 y2] := by rw [hpr] at hs2; exact hs2
              have hse : s2.toList.isEmpty = false := by
                unfold refCells at hcp
                injection hcp with hcp
                injection hcp with hcp
                rw [← hcp]
                exact str_some (HGz.out.2 rp (by unfold bodyY; rw [hpr]; simp)).some_
              have hbd : bodyY z.val = z.val.right ++ [rp] := by unfold bodyY; rw [hpr]; simp
              rw [hbd] at hdT Hst3
              simp only [List.length_append, List.length_cons, List.length_nil] at hdT
              have HX4 := Lib.hid (refsCells_snoc ((N ++ rulesOf (zs2.take m) ++ [z.val.left]) ++ z.val.right) rp)
              rw [hcp] at HX4
              go_wp2_with (first
                | (at_builtin; refine wpl_appendT rfl _ _ 35 rfl (w.heap.size + 1) 40 _ 2 32 Try.underlying35 Hi.out (by decide) (by decide) A d c (refsCells (N ++ rulesOf (zs2.take m))) rfl HoY.out [.string L, .complex .f64 x1 y1] rfl rfl (by simp [Value.oneCell']) (by omega) (by omega) (by omega) ?_; intro A3 c3 w3 ho3 hgr3 _
                   have hs3 := hgr3.size
                   have HB3 := Lib.hid (HBY.out.grown hgr3 (by omega) fun k hk => by have := (HoY.out.lt k hk).1; omega)
                   have HR3 := Lib.hid (HIz.out.keep (w' := w3) HB3.out.size fun b off e hlt => HB3.out.block b hlt)
                   have Hbk3 := Lib.hid (HbkY.out.grown hgr3 (by intro e; have := (HoY.out.lt _ e.symm).1; omega))
                   have HP3 := Lib.hid (HPY.out.grown hgr3 (by intro e; have := Hne.out _ e.symm; omega))
                   have Hne3 := Lib.hid (own_ne ho3 HP3.out (by decide))
                   have r2' : w3.cell? ⟨wr.heap.size, 2, none⟩ = some (.slice z.A z.val.right.length z.c) := HP3.out.cell 2
                   have r3' : w3.cell? ⟨wr.heap.size, 3, none⟩ = some (.string s2) := HP3.out.cell 3
                   have r4' : w3.cell? ⟨wr.heap.size, 4, none⟩ = some (.complex .f64 x2 y2) := HP3.out.cell 4
                   rw [HX.out] at ho3)
                | (at_builtin; refine wpl_appendF rfl _ _ 35 rfl (w.heap.size + 1) 40 _ 2 32 Try.underlying35 Hi.out (by decide) (by decide) A3 (d + 1) c3 (refsCells ((N ++ rulesOf (zs2.take m)) ++ [z.val.left])) rfl ho3 refCells refCells_len _ z.A z.val.right.length z.c z.val.right rfl HR3.out Hone.out (by omega) (by omega) (by omega) ?_; intro A4 c4 w4 ho4 hgr4
                   have hs4 := hgr4.size
                   have HB4 := Lib.hid (HB3.out.grown hgr4 (by omega) fun k hk => by have := (ho3.lt k hk).1; omega)
                   have Hbk4 := Lib.hid (Hbk3.out.grown hgr4 (by intro e; have := (ho3.lt _ e.symm).1; omega))
                   have HP4 := Lib.hid (HP3.out.grown hgr4 (own_neB ho3 HP3.out (by decide)))
                   have r3'' : w4.cell? ⟨wr.heap.size, 3, none⟩ = some (.string s2) := HP4.out.cell 3
                   have r4'' : w4.cell? ⟨wr.heap.size, 4, none⟩ = some (.complex .f64 x2 y2) := HP4.out.cell 4
                   rw [refsCells_app] at ho4)
                | (at_builtin; refine wpl_appendT rfl _ _ 35 rfl (w.heap.size + 1) 40 _ 2 32 Try.underlying35 Hi.out (by decide) (by decide) A4 ((d + 1) + z.val.right.length) c4 (refsCells ((N ++ rulesOf (zs2.take m) ++ [z.val.left]) ++ z.val.right)) rfl ho4 [.string s2, .complex .f64 x2 y2] rfl rfl (by simp [Value.oneCell']) (by omega) (by omega) (by omega) ?_; intro A5 c5 w5 ho5 hgr5 _
                   have hs5 := hgr5.size
                   have HB5 := Lib.hid (HB4.out.grown hgr5 (by omega) fun k hk => by have := (ho4.lt k hk).1; omega)
                   have Hbk5 := Lib.hid (Hbk4.out.grown hgr5 (own_neB ho4 Hbk4.out (by decide)))
                   rw [← HX4.out] at ho5))
              go_roundw
              case rel => exact ⟨m + 1, (d + 1) + z.val.right.length + 1, c5, A5, by go_num, rfl, by omega, Lib.hid (by rw [Hst3.out]; simp only [List.length_append, List.length_cons, List.length_nil]; have := HdR.out; rw [List.length_append] at this; omega), by omega, Lib.hid (by rw [Hst3.out]; rw [show N ++ (rulesOf (zs2.take m) ++ ([z.val.left] ++ (z.val.right ++ [rp]))) = (N ++ rulesOf (zs2.take m) ++ [z.val.left]) ++ z.val.right ++ [rp] by simp]; exact ho5), HB5, Hbk5⟩
              case measure => simp [intOf]; omega
          · obtain ⟨q, rfl⟩ : ∃ q, m = q + 1 := ⟨m - 1, by omega⟩
            have q0 : ((q : Int) + 1 == 0) = false := by rw [beq_eq_false_iff_ne]; omega
            have q0' : (((q + 1 : Nat) : Int) == 0) = false := by rw [beq_eq_false_iff_ne]; omega
            have q2 : (q : Int) + 1 - 1 = (q : Int) := by omega
            obtain ⟨b', off', zq, hbo, hbB', _, Hzq, hcq⟩ := (HF2.out.below HB2.out).get (j := q) (by omega)
            obtain ⟨rfl, rfl⟩ : b = b' ∧ off = off' := by injection hbo with hbo; injection hbo with h1 h2; exact ⟨h1, h2⟩
            have HGq := Lib.hid (HG2.out zq (List.mem_of_getElem? Hzq.out)).1
            have Hlast : Hid (lastL none ((zs2.take (q + 1)).map WithY.val) = some zq.val.left) := Lib.hid (by rw [List.take_add_one, Hzq.out, List.map_append]; exact lastL_snoc _ _ zq.val)
            obtain ⟨xq, yq, hxyq⟩ := PA_form zq.val.left.2
            obtain ⟨rq, hpcq⟩ : ∃ r, prdCells zq = .string (str zq.val.left.1) :: .complex .f64 xq yq :: r := by
              unfold prdCells
              rw [hxyq]
              exact ⟨_, rfl⟩
            rw [hpcq] at hcq
            have f0 : (wr.alloc (.cells #[.string L, .complex .f64 x1 y1, .slice z.A z.val.right.length z.c, .string s2, .complex .f64 x2 y2] 44)).cell? ⟨b, off + q * 5, none⟩ = some (.string (str zq.val.left.1)) := hcq 0 _ rfl
            have f1 : (wr.alloc (.cells #[.string L, .complex .f64 x1 y1, .slice z.A z.val.right.length z.c, .string s2, .complex .f64 x2 y2] 44)).cell? ⟨b, off + q * 5 + 1, none⟩ = some (.complex .f64 xq yq) := hcq 1 _ rfl
            have HE := Lib.hid (eq_good HGq.out HGz.out.1 (by omega) hxyq hxy1)
            rw [hL] at HE
            generalize hLq : str zq.val.left.1 = Lq at *
            clear hcq hpcq hbo hm0
            go_wp2_with fail
            generalize hwp : wr.alloc (.cells #[.string L, .complex .f64 x1 y1, .slice z.A z.val.right.length z.c, .string s2, .complex .f64 x2 y2] 44) = wp at *
            have g1 : wp.cell? ⟨w.heap.size, 1, none⟩ = some (.slice (some ⟨b, off, none⟩) n2 c2) := Hbk2.out.cell 1
            have p0 : wp.cell? ⟨wr.heap.size, 0, none⟩ = some (.string L) := hPk.cell 0
            have p1 : wp.cell? ⟨wr.heap.size, 1, none⟩ = some (.complex .f64 x1 y1) := hPk.cell 1
            have hl1' : w.heap.size < wp.heap.size := by omega
            have hl2' : wr.heap.size < wp.heap.size := by omega
            have hbp : b < wp.heap.size := by omega
            clear hsp hwp
            have bc := bl_cell wp
            by_cases hsame : zq.val.left = z.val.left
            case neg =>
              have heq := fun w => HE.out w
              rw [decide_eq_false hsame] at heq
              have HL : Hid (lastL none ((zs2.take (q + 1)).map WithY.val) ≠ some z.val.left) := Lib.hid (by rw [Hlast.out]; intro h; injection h with h; exact hsame h)
              have hgd := Try.guardRef
              clear hsame HE
              refine wp_region_below (by kernel_rfl) (by kernel_rfl) ?_
              repeat (go_big_quiet_step (fail))
              refine wpQuiet_nil ?_
              rintro _ ⟨x, rfl⟩
              have hbY := bl_below wp x
              have HBY := Lib.hid (HB2.out.trans (hbY.mono HB2.out.size))
              have HbkY := Lib.hid (Hbk2.out.ext hbY)
              have HPY := Lib.hid (hPk.ext hbY)
              have HoY := Lib.hid (own_belowS Ho2.out hbY)
              have hsY := hbY.size
              generalize bl wp x = WY at *
              clear f0 f1 heq hgd g1 p0 p1 bc hbY hBp hPk HB2 Hbk2 Ho2 HB Hbk Ho j0 j1 e0 e1 e2 e3 e4
              have r0 : WY.cell? ⟨wr.heap.size, 0, none⟩ = some (.string L) := HPY.out.cell 0
              have r1 : WY.cell? ⟨wr.heap.size, 1, none⟩ = some (.complex .f64 x1 y1) := HPY.out.cell 1
              have r2 : WY.cell? ⟨wr.heap.size, 2, none⟩ = some (.slice z.A z.val.right.length z.c) := HPY.out.cell 2
              have r3 : WY.cell? ⟨wr.heap.size, 3, none⟩ = some (.string s2) := HPY.out.cell 3
              have r4 : WY.cell? ⟨wr.heap.size, 4, none⟩ = some (.complex .f64 x2 y2) := HPY.out.cell 4
              have hf : (if lastL none ((zs2.take (q + 1)).map WithY.val) = some z.val.left then [] else [z.val.left] : List RefY) = [z.val.left] := if_neg HL.out
              rw [hf] at hdT
              have Hst3 := Lib.hid (hf ▸ Hst.out)
              simp only [List.length_cons, List.length_nil] at hdT
              have HX : Hid (refsCells (N ++ rulesOf (zs2.take (q + 1))) ++ [.string L, .complex .f64 x1 y1] = refsCells ((N ++ rulesOf (zs2.take (q + 1))) ++ [z.val.left])) := Lib.hid (by rw [refsCells_snoc, hcL])
              have hbz : (bodyY z.val).length = z.val.right.length + z.val.prec.toList.length := by unfold bodyY; rw [List.length_append]
              clear hf Hst
              have Hone := Lib.hid (refsCells_one z.val.right)
              rcases hpr : z.val.prec with _ | rp
              · have hse : s2.toList.isEmpty = true := by
                  rw [hpr] at hs2
                  unfold precCells at hs2
                  injection hs2 with hs2
                  injection hs2 with hs2
                  rw [← hs2]
                  kernel_rfl
                have hbd : bodyY z.val = z.val.right := by unfold bodyY; rw [hpr]; simp
                rw [hbd] at hdT Hst3
                go_wp2_with (first
                  | (at_builtin; refine wpl_appendT rfl _ _ 35 rfl (w.heap.size + 1) 40 _ 2 32 Try.underlying35 Hi.out (by decide) (by decide) A d c (refsCells (N ++ rulesOf (zs2.take (q + 1)))) rfl HoY.out [.string L, .complex .f64 x1 y1] rfl rfl (by simp [Value.oneCell']) (by omega) (by omega) (by omega) ?_; intro A3 c3 w3 ho3 hgr3 _
                     have hs3 := hgr3.size
                     have HB3 := Lib.hid (HBY.out.grown hgr3 (by omega) fun k hk => by have := (HoY.out.lt k hk).1; omega)
                     have HR3 := Lib.hid (HIz.out.keep (w' := w3) HB3.out.size fun b off e hlt => HB3.out.block b hlt)
                     have Hbk3 := Lib.hid (HbkY.out.grown hgr3 (by intro e; have := (HoY.out.lt _ e.symm).1; omega))
                     have HP3 := Lib.hid (HPY.out.grown hgr3 (by intro e; have := Hne.out _ e.symm; omega))
                     have Hne3 := Lib.hid (own_ne ho3 HP3.out (by decide))
                     have r2' : w3.cell? ⟨wr.heap.size, 2, none⟩ = some (.slice z.A z.val.right.length z.c) := HP3.out.cell 2
                     have r3' : w3.cell? ⟨wr.heap.size, 3, none⟩ = some (.string s2) := HP3.out.cell 3
                     have r4' : w3.cell? ⟨wr.heap.size, 4, none⟩ = some (.complex .f64 x2 y2) := HP3.out.cell 4
                     rw [HX.out] at ho3)
                  | (at_builtin; refine wpl_appendF rfl _ _ 35 rfl (w.heap.size + 1) 40 _ 2 32 Try.underlying35 Hi.out (by decide) (by decide) A3 (d + 1) c3 (refsCells ((N ++ rulesOf (zs2.take (q + 1))) ++ [z.val.left])) rfl ho3 refCells refCells_len _ z.A z.val.right.length z.c z.val.right rfl HR3.out Hone.out (by omega) (by omega) (by omega) ?_; intro A4 c4 w4 ho4 hgr4
                     have hs4 := hgr4.size
                     have HB4 := Lib.hid (HB3.out.grown hgr4 (by omega) fun k hk => by have := (ho3.lt k hk).1; omega)
                     have Hbk4 := Lib.hid (Hbk3.out.grown hgr4 (by intro e; have := (ho3.lt _ e.symm).1; omega))
                     have HP4 := Lib.hid (HP3.out.grown hgr4 (own_neB ho3 HP3.out (by decide)))
                     have r3'' : w4.cell? ⟨wr.heap.size, 3, none⟩ = some (.string s2) := HP4.out.cell 3
                     have r4'' : w4.cell? ⟨wr.heap.size, 4, none⟩ = some (.complex .f64 x2 y2) := HP4.out.cell 4))
                rw [refsCells_app] at ho4
                go_roundw
                case rel => exact ⟨q + 1 + 1, (d + 1) + z.val.right.length, c4, A4, by go_num, rfl, by omega, Lib.hid (by rw [Hst3.out]; simp only [List.length_append, List.length_cons, List.length_nil]; have := HdR.out; rw [List.length_append] at this; omega), by omega, Lib.hid (by rw [Hst3.out]; rw [show N ++ (rulesOf (zs2.take (q + 1)) ++ ([z.val.left] ++ z.val.right)) = (N ++ rulesOf (zs2.take (q + 1)) ++ [z.val.left]) ++ z.val.right by simp]; exact ho4), HB4, Hbk4⟩
                case measure => simp [intOf]; omega
              · have hcp : refCells rp = [.string s2, .complex .f64 x2 y2] := by rw [hpr] at hs2; exact hs2
                have hse : s2.toList.isEmpty = false := by
                  unfold refCells at hcp
                  injection hcp with hcp
                  injection hcp with hcp
                  rw [← hcp]
                  exact str_some (HGz.out.2 rp (by unfold bodyY; rw [hpr]; simp)).some_
                have hbd : bodyY z.val = z.val.right ++ [rp] := by unfold bodyY; rw [hpr]; simp
                rw [hbd] at hdT Hst3
                simp only [List.length_append, List.length_cons, List.length_nil] at hdT
                have HX4 := Lib.hid (refsCells_snoc ((N ++ rulesOf (zs2.take (q + 1)) ++ [z.val.left]) ++ z.val.right) rp)
                rw [hcp] at HX4
                go_wp2_with (first
                  | (at_builtin; refine wpl_appendT rfl _ _ 35 rfl (w.heap.size + 1) 40 _ 2 32 Try.underlying35 Hi.out (by decide) (by decide) A d c (refsCells (N ++ rulesOf (zs2.take (q + 1)))) rfl HoY.out [.string L, .complex .f64 x1 y1] rfl rfl (by simp [Value.oneCell']) (by omega) (by omega) (by omega) ?_; intro A3 c3 w3 ho3 hgr3 _
                     have hs3 := hgr3.size
                     have HB3 := Lib.hid (HBY.out.grown hgr3 (by omega) fun k hk => by have := (HoY.out.lt k hk).1; omega)
                     have HR3 := Lib.hid (HIz.out.keep (w' := w3) HB3.out.size fun b off e hlt => HB3.out.block b hlt)
                     have Hbk3 := Lib.hid (HbkY.out.grown hgr3 (by intro e; have := (HoY.out.lt _ e.symm).1; omega))
                     have HP3 := Lib.hid (HPY.out.grown hgr3 (by intro e; have := Hne.out _ e.symm; omega))
                     have Hne3 := Lib.hid (own_ne ho3 HP3.out (by decide))
                     have r2' : w3.cell? ⟨wr.heap.size, 2, none⟩ = some (.slice z.A z.val.right.length z.c) := HP3.out.cell 2
                     have r3' : w3.cell? ⟨wr.heap.size, 3, none⟩ = some (.string s2) := HP3.out.cell 3
                     have r4' : w3.cell? ⟨wr.heap.size, 4, none⟩ = some (.complex .f64 x2 y2) := HP3.out.cell 4
                     rw [HX.out] at ho3)
                  | (at_builtin; refine wpl_appendF rfl _ _ 35 rfl (w.heap.size + 1) 40 _ 2 32 Try.underlying35 Hi.out (by decide) (by decide) A3 (d + 1) c3 (refsCells ((N ++ rulesOf (zs2.take (q + 1))) ++ [z.val.left])) rfl ho3 refCells refCells_len _ z.A z.val.right.length z.c z.val.right rfl HR3.out Hone.out (by omega) (by omega) (by omega) ?_; intro A4 c4 w4 ho4 hgr4
                     have hs4 := hgr4.size
                     have HB4 := Lib.hid (HB3.out.grown hgr4 (by omega) fun k hk => by have := (ho3.lt k hk).1; omega)
                     have Hbk4 := Lib.hid (Hbk3.out.grown hgr4 (by intro e; have := (ho3.lt _ e.symm).1; omega))
                     have HP4 := Lib.hid (HP3.out.grown hgr4 (own_neB ho3 HP3.out (by decide)))
                     have r3'' : w4.cell? ⟨wr.heap.size, 3, none⟩ = some (.string s2) := HP4.out.cell 3
                     have r4'' : w4.cell? ⟨wr.heap.size, 4, none⟩ = some (.complex .f64 x2 y2) := HP4.out.cell 4
                     rw [refsCells_app] at ho4)
                  | (at_builtin; refine wpl_appendT rfl _ _ 35 rfl (w.heap.size + 1) 40 _ 2 32 Try.underlying35 Hi.out (by decide) (by decide) A4 ((d + 1) + z.val.right.length) c4 (refsCells ((N ++ rulesOf (zs2.take (q + 1)) ++ [z.val.left]) ++ z.val.right)) rfl ho4 [.string s2, .complex .f64 x2 y2] rfl rfl (by simp [Value.oneCell']) (by omega) (by omega) (by omega) ?_; intro A5 c5 w5 ho5 hgr5 _
                     have hs5 := hgr5.size
                     have HB5 := Lib.hid (HB4.out.grown hgr5 (by omega) fun k hk => by have := (ho4.lt k hk).1; omega)
                     have Hbk5 := Lib.hid (Hbk4.out.grown hgr5 (own_neB ho4 Hbk4.out (by decide)))
                     rw [← HX4.out] at ho5))
                go_roundw
                case rel => exact ⟨q + 1 + 1, (d + 1) + z.val.right.length + 1, c5, A5, by go_num, rfl, by omega, Lib.hid (by rw [Hst3.out]; simp only [List.length_append, List.length_cons, List.length_nil]; have := HdR.out; rw [List.length_append] at this; omega), by omega, Lib.hid (by rw [Hst3.out]; rw [show N ++ (rulesOf (zs2.take (q + 1)) ++ ([z.val.left] ++ (z.val.right ++ [rp]))) = (N ++ rulesOf (zs2.take (q + 1)) ++ [z.val.left]) ++ z.val.right ++ [rp] by simp]; exact ho5), HB5, Hbk5⟩
                case measure => simp [intOf]; omega
            case pos =>
              have heq := fun w => HE.out w
              rw [decide_eq_true hsame] at heq
              have HL : Hid (lastL none ((zs2.take (q + 1)).map WithY.val) = some z.val.left) := Lib.hid (by rw [Hlast.out, hsame])
              have hgd := Try.guardRef
              clear hsame HE
              refine wp_region_below (by kernel_rfl) (by kernel_rfl) ?_
              repeat (go_big_quiet_step (fail))
              refine wpQuiet_nil ?_
              rintro _ ⟨x, rfl⟩
              have hbY := bl_below wp x
              have HBY := Lib.hid (HB2.out.trans (hbY.mono HB2.out.size))
              have HbkY := Lib.hid (Hbk2.out.ext hbY)
              have HPY := Lib.hid (hPk.ext hbY)
              have HoY := Lib.hid (own_belowS Ho2.out hbY)
              have hsY := hbY.size
              generalize bl wp x = WY at *
              clear f0 f1 heq hgd g1 p0 p1 bc hbY hBp hPk HB2 Hbk2 Ho2 HB Hbk Ho j0 j1 e0 e1 e2 e3 e4
              have r0 : WY.cell? ⟨wr.heap.size, 0, none⟩ = some (.string L) := HPY.out.cell 0
              have r1 : WY.cell? ⟨wr.heap.size, 1, none⟩ = some (.complex .f64 x1 y1) := HPY.out.cell 1
              have r2 : WY.cell? ⟨wr.heap.size, 2, none⟩ = some (.slice z.A z.val.right.length z.c) := HPY.out.cell 2
              have r3 : WY.cell? ⟨wr.heap.size, 3, none⟩ = some (.string s2) := HPY.out.cell 3
              have r4 : WY.cell? ⟨wr.heap.size, 4, none⟩ = some (.complex .f64 x2 y2) := HPY.out.cell 4
              have hf : (if lastL none ((zs2.take (q + 1)).map WithY.val) = some z.val.left then [] else [z.val.left] : List RefY) = [] := if_pos HL.out
              rw [hf] at hdT
              have Hst3 := Lib.hid (hf ▸ Hst.out)
              simp only [List.length_cons, List.length_nil] at hdT
              have hbz : (bodyY z.val).length = z.val.right.length + z.val.prec.toList.length := by unfold bodyY; rw [List.length_append]
              clear hf Hst
              have Hone := Lib.hid (refsCells_one z.val.right)
              have HRY := Lib.hid (HIz.out.keep (w' := WY) HBY.out.size fun b off e hlt => HBY.out.block b hlt)
              rcases hpr : z.val.prec with _ | rp
              · have hse : s2.toList.isEmpty = true := by
                  rw [hpr] at hs2
                  unfold precCells at hs2
                  injection hs2 with hs2
                  injection hs2 with hs2
                  rw [← hs2]
                  kernel_rfl
                have hbd : bodyY z.val = z.val.right := by unfold bodyY; rw [hpr]; simp
                rw [hbd] at hdT Hst3
                go_wp2_with (first
                  | (at_builtin; refine wpl_appendF rfl _ _ 35 rfl (w.heap.size + 1) 40 _ 2 32 Try.underlying35 Hi.out (by decide) (by decide) A d c (refsCells (N ++ rulesOf (zs2.take (q + 1)))) rfl HoY.out refCells refCells_len _ z.A z.val.right.length z.c z.val.right rfl HRY.out Hone.out (by omega) (by omega) (by omega) ?_; intro A4 c4 w4 ho4 hgr4
                     have hs4 := hgr4.size
                     have HB4 := Lib.hid (HBY.out.grown hgr4 (by omega) fun k hk => by have := (HoY.out.lt k hk).1; omega)
                     have Hbk4 := Lib.hid (HbkY.out.grown hgr4 (by intro e; have := (HoY.out.lt _ e.symm).1; omega))
                     have HP4 := Lib.hid (HPY.out.grown hgr4 (own_neB HoY.out HPY.out (by decide)))
                     have r3'' : w4.cell? ⟨wr.heap.size, 3, none⟩ = some (.string s2) := HP4.out.cell 3
                     have r4'' : w4.cell? ⟨wr.heap.size, 4, none⟩ = some (.complex .f64 x2 y2) := HP4.out.cell 4))
                rw [refsCells_app] at ho4
                go_roundw
                case rel => exact ⟨q + 1 + 1, d + z.val.right.length, c4, A4, by go_num, rfl, by omega, Lib.hid (by rw [Hst3.out]; simp only [List.length_append, List.length_cons, List.length_nil]; have := HdR.out; rw [List.length_append] at this; omega), by omega, Lib.hid (by rw [Hst3.out]; rw [show N ++ (rulesOf (zs2.take (q + 1)) ++ ([] ++ z.val.right)) = (N ++ rulesOf (zs2.take (q + 1))) ++ z.val.right by simp]; exact ho4), HB4, Hbk4⟩
                case measure => simp [intOf]; omega
              · have hcp : refCells rp = [.string s2, .complex .f64 x2 y2] := by rw [hpr] at hs2; exact hs2
                have hse : s2.toList.isEmpty = false := by
                  unfold refCells at hcp
                  injection hcp with hcp
                  injection hcp with hcp
                  rw [← hcp]
                  exact str_some (HGz.out.2 rp (by unfold bodyY; rw [hpr]; simp)).some_
                have hbd : bodyY z.val = z.val.right ++ [rp] := by unfold bodyY; rw [hpr]; simp
                rw [hbd] at hdT Hst3
                simp only [List.length_append, List.length_cons, List.length_nil] at hdT
                have HX4 := Lib.hid (refsCells_snoc ((N ++ rulesOf (zs2.take (q + 1))) ++ z.val.right) rp)
                rw [hcp] at HX4
                go_wp2_with (first
                  | (at_builtin; refine wpl_appendF rfl _ _ 35 rfl (w.heap.size + 1) 40 _ 2 32 Try.underlying35 Hi.out (by decide) (by decide) A d c (refsCells (N ++ rulesOf (zs2.take (q + 1)))) rfl HoY.out refCells refCells_len _ z.A z.val.right.length z.c z.val.right rfl HRY.out Hone.out (by omega) (by omega) (by omega) ?_; intro A4 c4 w4 ho4 hgr4
                     have hs4 := hgr4.size
                     have HB4 := Lib.hid (HBY.out.grown hgr4 (by omega) fun k hk => by have := (HoY.out.lt k hk).1; omega)
                     have Hbk4 := Lib.hid (HbkY.out.grown hgr4 (by intro e; have := (HoY.out.lt _ e.symm).1; omega))
                     have HP4 := Lib.hid (HPY.out.grown hgr4 (own_neB HoY.out HPY.out (by decide)))
                     have r3'' : w4.cell? ⟨wr.heap.size, 3, none⟩ = some (.string s2) := HP4.out.cell 3
                     have r4'' : w4.cell? ⟨wr.heap.size, 4, none⟩ = some (.complex .f64 x2 y2) := HP4.out.cell 4
                     rw [refsCells_app] at ho4)
                  | (at_builtin; refine wpl_appendT rfl _ _ 35 rfl (w.heap.size + 1) 40 _ 2 32 Try.underlying35 Hi.out (by decide) (by decide) A4 (d + z.val.right.length) c4 (refsCells ((N ++ rulesOf (zs2.take (q + 1))) ++ z.val.right)) rfl ho4 [.string s2, .complex .f64 x2 y2] rfl rfl (by simp [Value.oneCell']) (by omega) (by omega) (by omega) ?_; intro A5 c5 w5 ho5 hgr5 _
                     have hs5 := hgr5.size
                     have HB5 := Lib.hid (HB4.out.grown hgr5 (by omega) fun k hk => by have := (ho4.lt k hk).1; omega)
                     have Hbk5 := Lib.hid (Hbk4.out.grown hgr5 (own_neB ho4 Hbk4.out (by decide)))
                     rw [← HX4.out] at ho5))
                go_roundw
                case rel => exact ⟨q + 1 + 1, d + z.val.right.length + 1, c5, A5, by go_num, rfl, by omega, Lib.hid (by rw [Hst3.out]; simp only [List.length_append, List.length_cons, List.length_nil]; have := HdR.out; rw [List.length_append] at this; omega), by omega, Lib.hid (by rw [Hst3.out]; rw [show N ++ (rulesOf (zs2.take (q + 1)) ++ ([] ++ (z.val.right ++ [rp]))) = (N ++ rulesOf (zs2.take (q + 1))) ++ z.val.right ++ [rp] by simp]; exact ho5), HB5, Hbk5⟩
                case measure => simp [intOf]; omega
end Go.Proofs.Ytdeiipbnaknedaa
