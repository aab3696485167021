/- yacc: the program's reader: group: what a rule that is laid is like; a scope whose label stands behind two statements. -/
import Derived.Test.YtdeiipbnaknedaaYQ17
namespace Go.Proofs.Ytdeiipbnaknedaa
open Go.RowKit
set_option linter.unusedVariables false
set_option linter.unusedSimpArgs false

section
variable {P : Program} {a : Act} {w : World} {Q : Exit → Act → World → Prop}
theorem jumps_panic {J : Nat → Act → World → Prop} {ch : List PanicEntry} : Exit.jumps J Q (.panic ch) a w = Q (.panic ch) a w := rfl
theorem wp_scope_pre2 {A B X : Code} (l : Nat) (J : Act → World → Prop) (μ : Act → World → Nat) (hA : findLabel A l = none) (hB : findLabel B l = none)
    (first : ∀ (Y : Code) (R : Exit → Act → World → Prop), (∀ a w, J a w → Y.wp P R a w) → (∀ ch a w, Q (.panic ch) a w → R (.panic ch) a w) → (A.seq (B.seq ((Code.label l).seq Y))).wp P R a w)
    (pass : ∀ a w, J a w → X.wp P (Exit.jumps (fun l' a' w' => l' = l ∧ J a' w' ∧ μ a' w' < μ a w) Q) a w) : (Code.scope (A.seq (B.seq ((Code.label l).seq X)))).wp P Q a w := by
  refine wp_scope_all (fun l' a w => l' = l ∧ J a w) (fun _ => μ) ?_ ?_
  · rintro l' a w ⟨rfl, hJ⟩
    refine ⟨.seq .skip X, by simp [findLabel, hA, hB], wp_seq (wp_skip ?_)⟩
    exact jumps_weak (pass a w hJ) fun l' a' w' ⟨h1, h2, h3⟩ => ⟨⟨h1, h2⟩, h3⟩
  · exact first X _ (fun a w hJ => jumps_weak (pass a w hJ) fun l' a' w' ⟨h1, h2, h3⟩ => ⟨h1, h2⟩) fun ch a w h => h
end

/-- a rule as it is written has been laid: where it lies, and its right side -/
structure MidY (wr wx : World) (p gB : Nat) (Ar : Option Addr) (cr : Nat) (en : List Nat) (L : ByteArray) (x y : Nat) (rs : List RefY) (s : ByteArray) (x2 y2 : Nat) (us : List Tok) : Prop where
  lo : wr.heap.size ≤ gB
  blk : Blk wx gB 44 #[.string L, .complex .f64 x y, .slice Ar rs.length cr, .string s, .complex .f64 x2 y2]
  row : RefsAt wx Ar rs.length cr rs
  fresh : ∀ b off, Ar = some ⟨b, off, none⟩ → wr.heap.size ≤ b ∧ b < wx.heap.size ∧ b ≠ gB
  rd : YrAt wx p en us
  gr : wr.grownBy wx (some p)
theorem MidY.late {wr w2 : World} {p : Nat} {Ar : Option Addr} {cr : Nat} {en : List Nat} {L : ByteArray} {x y : Nat} {rs : List RefY} {us : List Tok} {er : TypeId} (hg2 : wr.drew.grownBy w2 (some p)) (ho2 : w2.ownsRow wr.drew.heap.size er 2 (.slice Ar rs.length cr) rs.length (refsCells rs)) (hr2 : YrAt w2 p en us) :
    MidY wr (w2.alloc (.cells #[.string L, .complex .f64 x y, .slice Ar rs.length cr, .string ⟨#[]⟩, .complex .f64 0 0] 44)) p w2.heap.size Ar cr en L x y rs ⟨#[]⟩ 0 0 us := by
  have hb := alloc_below w2 (.cells #[.string L, .complex .f64 x y, .slice Ar rs.length cr, .string ⟨#[]⟩, .complex .f64 0 0] 44)
  refine ⟨hg2.size, Blk.new _ _ _, (own_refs rfl ho2).keep hb.size fun b off _ hlt => hb.block b hlt, fun b off h => ?_, hr2.below hb, ?_⟩
  · have h1 : wr.heap.size ≤ b ∧ b < w2.heap.size := own_at0 ho2 h
    exact ⟨h1.1, Nat.lt_of_lt_of_le h1.2 hb.size, by omega⟩
  · have h1 : wr.grownBy w2 (some p) := ⟨hg2.os, hg2.tape, hg2.output, hg2.size, hg2.block⟩
    exact grown_trans h1 (grown_below _ hb)
theorem MidY.early {wr w2 : World} {p : Nat} {Ar : Option Addr} {cr : Nat} {en : List Nat} {L : ByteArray} {x y : Nat} {rs : List RefY} {us : List Tok} {er : TypeId} {o : Obj} (hp : p < wr.heap.size) (hg2 : (wr.alloc o).drew.grownBy w2 (some p)) (ho2 : w2.ownsRow (wr.alloc o).drew.heap.size er 2 (.slice Ar rs.length cr) rs.length (refsCells rs)) (hr2 : YrAt w2 p en us)
    (hB : Blk w2 wr.heap.size 44 #[.string ⟨#[]⟩, .complex .f64 0 0, .slice none 0 0, .string ⟨#[]⟩, .complex .f64 0 0]) :
    MidY wr (((((w2.setCell ⟨wr.heap.size, 0, none⟩ (.string L)).setCell ⟨wr.heap.size, 1, none⟩ (.complex .f64 x y)).setCell ⟨wr.heap.size, 2, none⟩ (.slice Ar rs.length cr)).setCell ⟨wr.heap.size, 3, none⟩ (.string ⟨#[]⟩)).setCell ⟨wr.heap.size, 4, none⟩ (.complex .f64 0 0)) p wr.heap.size Ar cr en L x y rs ⟨#[]⟩ 0 0 us := by
  have hg : w2.grownBy (((((w2.setCell ⟨wr.heap.size, 0, none⟩ (.string L)).setCell ⟨wr.heap.size, 1, none⟩ (.complex .f64 x y)).setCell ⟨wr.heap.size, 2, none⟩ (.slice Ar rs.length cr)).setCell ⟨wr.heap.size, 3, none⟩ (.string ⟨#[]⟩)).setCell ⟨wr.heap.size, 4, none⟩ (.complex .f64 0 0)) (some wr.heap.size) :=
    grown_trans (grown_trans (grown_trans (grown_trans (grown_set _ _ _ _) (grown_set _ _ _ _)) (grown_set _ _ _ _)) (grown_set _ _ _ _)) (grown_set _ _ _ _)
  have hb := (((((hB.set 0 (.string L)).set 1 (.complex .f64 x y)).set 2 (.slice Ar rs.length cr)).set 3 (.string ⟨#[]⟩)).set 4 (.complex .f64 0 0))
  have hsz : (wr.alloc o).drew.heap.size = wr.heap.size + 1 := alloc_size wr o
  have hle : wr.heap.size + 1 ≤ w2.heap.size := by rw [← hsz]; exact hg2.size
  have hfr : ∀ b off, Ar = some ⟨b, off, none⟩ → wr.heap.size + 1 ≤ b ∧ b < w2.heap.size := fun b off h => by
    have h1 := own_at0 ho2 h
    rwa [hsz] at h1
  refine ⟨Nat.le_refl _, hb, (own_refs rfl ho2).keep hg.size fun b off h hlt => hg.block b hlt fun e => ?_, fun b off h => ?_, hr2.keep hg.size fun k h1 h2 => hg.block k h2 fun e => ?_, ?_⟩
  · injection e with e
    have := (hfr b off h).1
    omega
  · have := hfr b off h
    exact ⟨by omega, Nat.lt_of_lt_of_le this.2 hg.size, by omega⟩
  · injection e with e
    omega
  · have h1 : wr.grownBy w2 (some p) := by
      refine ⟨hg2.os, hg2.tape, hg2.output, by omega, fun k hk hne => ?_⟩
      exact (hg2.block k (by rw [hsz]; omega) hne).trans ((alloc_below wr o).block k hk)
    refine ⟨hg.os.trans h1.os, hg.tape.trans h1.tape, hg.output.trans h1.output, Nat.le_trans h1.size hg.size, fun k hk hne => ?_⟩
    rw [hg.block k (by omega) (fun e => by injection e with e; omega), h1.block k hk hne]
theorem MidY.step {wr wx wy : World} {p gB : Nat} {Ar : Option Addr} {cr : Nat} {en : List Nat} {L : ByteArray} {x y : Nat} {rs : List RefY} {s : ByteArray} {x2 y2 : Nat} {us us' : List Tok} (h : MidY wr wx p gB Ar cr en L x y rs s x2 y2 us) (hg : wx.grownBy wy (some p)) (hr : YrAt wy p en us') (hp : p < wr.heap.size) :
    MidY wr wy p gB Ar cr en L x y rs s x2 y2 us' := by
  have hlo := h.lo
  refine ⟨hlo, h.blk.grown hg (by intro e; injection e with e; omega), h.row.keep hg.size fun b off e hlt => hg.block b hlt (by intro e2; injection e2 with e2; have := (h.fresh b off e).1; omega), fun b off e => ?_, hr, grown_trans h.gr hg⟩
  have := h.fresh b off e
  exact ⟨this.1, Nat.lt_of_lt_of_le this.2.1 hg.size, this.2.2⟩
theorem MidY.prec {wr wx : World} {p gB : Nat} {Ar : Option Addr} {cr : Nat} {en : List Nat} {L : ByteArray} {x y : Nat} {rs : List RefY} {s : ByteArray} {x2 y2 : Nat} {us : List Tok} (h : MidY wr wx p gB Ar cr en L x y rs s x2 y2 us) (hp : p < wr.heap.size) (s' : ByteArray) (x3 y3 : Nat) :
    MidY wr ((wx.setCell ⟨gB, 3, none⟩ (.string s')).setCell ⟨gB, 4, none⟩ (.complex .f64 x3 y3)) p gB Ar cr en L x y rs s' x3 y3 us := by
  have hlo := h.lo
  have hg : wx.grownBy ((wx.setCell ⟨gB, 3, none⟩ (.string s')).setCell ⟨gB, 4, none⟩ (.complex .f64 x3 y3)) (some gB) := grown_trans (grown_set _ _ _ _) (grown_set _ _ _ _)
  refine ⟨hlo, (h.blk.set 3 (.string s')).set 4 (.complex .f64 x3 y3), h.row.keep hg.size fun b off e hlt => hg.block b hlt (by intro e2; injection e2 with e2; exact (h.fresh b off e).2.2 e2), fun b off e => ?_, h.rd.keep hg.size fun k h1 h2 => hg.block k h2 (by intro e; injection e with e; omega), ?_⟩
  · have := h.fresh b off e
    exact ⟨this.1, Nat.lt_of_lt_of_le this.2.1 hg.size, this.2.2⟩
  · exact grown_late h.gr (grown_is_below hg h.gr.size hlo)
/-- the rules of a group, one more -/
theorem prd_moreY {W1 wr w3 w4 : World} {p d c cr c4 gB x y x2 y2 : Nat} {A Ar A4 : Option Addr} {e : TypeId} {cs : List Value} {zs : List (WithY PrdY)} {rs : List RefY} {L s : ByteArray} {en : List Nat} {us : List Tok} (P : PrdY) (hP : P.right = rs)
    (hp : p < W1.heap.size) (Hg : W1.grownBy wr (some p)) (Ho : wr.ownsRow W1.heap.size e 5 (.slice A d c) d cs) (Hc : InY PrdY.right wr (fun b => W1.heap.size ≤ b ∧ (Value.slice A d c).ownBlock ≠ some b) zs)
    (hM : MidY wr w3 p gB Ar cr en L x y rs s x2 y2 us) (hg4 : w3.grownBy w4 (Value.slice A d c).ownBlock) (ha : ∀ b, (Value.slice A4 (d + 1) c4).ownBlock = some b → b < w3.heap.size → (Value.slice A d c).ownBlock = some b) :
    InY PrdY.right w4 (fun b => W1.heap.size ≤ b ∧ (Value.slice A4 (d + 1) c4).ownBlock ≠ some b) (zs ++ [⟨P, Ar, cr⟩]) ∧ W1.grownBy w4 (some p) ∧ YrAt w4 p en us := by
  have s1 := Hg.size
  have s2 := hM.gr.size
  have s4 := hg4.size
  have hA : ∀ b, (Value.slice A d c).ownBlock = some b → W1.heap.size ≤ b ∧ b < wr.heap.size := fun b h => Ho.lt b h
  refine ⟨InY.app (Hc.keep (by omega) fun k hk hav => ?_) (InY.one P ?_ fun b off hb => ?_), ?_, ?_⟩
  · obtain ⟨h1, h2⟩ := hav
    refine ⟨?_, h1, fun h3 => h2 (ha k h3 (by omega))⟩
    rw [hg4.block k (by omega) (fun h => h2 h.symm), hM.gr.block k hk (fun h => by injection h with h; omega)]
  · rw [hP]
    refine hM.row.keep s4 fun b off hb hlt => hg4.block b hlt fun h => ?_
    have := (hM.fresh b off hb).1
    have := (hA b h.symm).2
    omega
  · have h1 := hM.fresh b off hb
    refine ⟨by omega, by omega, fun h3 => ?_⟩
    have := (hA b (ha b h3 (by omega))).2
    omega
  · refine ⟨hg4.os.trans (hM.gr.os.trans Hg.os), hg4.tape.trans (hM.gr.tape.trans Hg.tape), hg4.output.trans (hM.gr.output.trans Hg.output), by omega, fun k hk hne => ?_⟩
    rw [hg4.block k (by omega) (fun h => by have := (hA k h.symm).1; omega), hM.gr.block k (by omega) hne, Hg.block k hk hne]
  · exact hM.rd.keep s4 fun k h1 h2 => hg4.block k h2 fun h => by have := (hA k h.symm).1; omega
end Go.Proofs.Ytdeiipbnaknedaa
