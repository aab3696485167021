/- lex: some bytes are passed. -/
import Derived.Test.YtcmfflfgegadjaaLxW10
namespace Go.Proofs.Ytcmfflfgegadjaa
open Go.RowKit
set_option linter.unusedVariables false
set_option linter.unusedSimpArgs false

/-- a block of the call's own, whole -/
def Blk (w : World) (g : Nat) (t : TypeId) (cs : Array Value) : Prop := w.heap[g]? = some (.cells cs t (0, 0))
theorem Blk.lt {w : World} {g : Nat} {t : TypeId} {cs : Array Value} (h : Blk w g t cs) : g < w.heap.size := by
  rcases Nat.lt_or_ge g w.heap.size with hlt | hge
  · exact hlt
  · unfold Blk at h; rw [Array.getElem?_eq_none hge] at h; cases h
theorem Blk.cell {w : World} {g : Nat} {t : TypeId} {cs : Array Value} (h : Blk w g t cs) (i : Nat) : w.cell? ⟨g, i, none⟩ = cs[i]? := by
  unfold Blk at h
  simp [World.cell?, h]
theorem Blk.frozen {w : World} {g : Nat} {t : TypeId} {cs : Array Value} (h : Blk w g t cs) (i : Nat) : w.frozen? ⟨g, i, none⟩ = false := by
  unfold Blk at h
  simp [World.frozen?, h]
theorem Blk.set {w : World} {g : Nat} {t : TypeId} {cs : Array Value} (h : Blk w g t cs) (i : Nat) (v : Value) : Blk (w.setCell ⟨g, i, none⟩ v) g t (cs.setIfInBounds i v) := by
  unfold Blk at h ⊢
  simp [World.setCell, Array.getElem?_modify, h]
theorem Blk.below {w w' : World} {g B : Nat} {t : TypeId} {cs : Array Value} (h : Blk w g t cs) (hb : Below B w w') (hg : g < B) : Blk w' g t cs := (hb.block g hg).trans h

/-- all but one block is as it was -/
structure Only (g : Nat) (w w' : World) : Prop where
  os : w'.os = w.os
  tape : w'.tape = w.tape
  output : w'.output = w.output
  size : w'.heap.size = w.heap.size
  block : ∀ k, k ≠ g → w'.heap[k]? = w.heap[k]?
theorem Only.refl (g : Nat) (w : World) : Only g w w := ⟨rfl, rfl, rfl, rfl, fun _ _ => rfl⟩
theorem Only.trans {g : Nat} {a b c : World} (h : Only g a b) (k : Only g b c) : Only g a c :=
  ⟨k.os.trans h.os, k.tape.trans h.tape, k.output.trans h.output, k.size.trans h.size, fun i hi => (k.block i hi).trans (h.block i hi)⟩
theorem Only.set (w : World) (g i : Nat) (v : Value) : Only g w (w.setCell ⟨g, i, none⟩ v) :=
  ⟨rfl, rfl, rfl, by simp, fun k hk => Below.heap_setCell w ⟨g, i, none⟩ v k hk⟩
theorem Only.below {g B : Nat} {w w' : World} (h : Only g w w') (hB : B ≤ g) : Below B w w' :=
  ⟨h.os, h.tape, h.output, Nat.le_of_eq h.size.symm, fun k hk => h.block k (by omega)⟩
theorem Only.cell {g : Nat} {w w' : World} (h : Only g w w') {p : Addr} (hp : p.block ≠ g) : w'.cell? p = w.cell? p := World.cell?_of_block (w := w) (h.block p.block hp)
theorem Nums.only {k : IntKind} {w w' : World} {g b off n c : Nat} {xs : List Nat} (h : Nums k w (some ⟨b, off, none⟩) n c xs) (ho : Only g w w') (hb : b ≠ g) : Nums k w' (some ⟨b, off, none⟩) n c xs := by
  refine ⟨h.1, h.2.1, h.2.2.1, fun hn => ?_⟩
  obtain ⟨b', off', e, hlt, hc⟩ := h.2.2.2 hn
  have e' := e
  injection e' with e'
  injection e' with e1 e2
  subst e1; subst e2
  exact ⟨_, _, rfl, by rw [ho.size]; exact hlt, fun j hj => by rw [ho.cell (by exact hb)]; exact hc j hj⟩

/-- the place behind some bytes, as a value -/
def PA (pre : List Nat) : Value := PV (atN pre).1 (atN pre).2

set_option maxHeartbeats 1000000 in
theorem lx_pass (g b off n c m : Nat) (bs pre : List Nat) (w : World) (hg : Blk w g 53 #[.slice (some ⟨b, off, none⟩) n c, PA pre]) (h : Nums .u8 w (some ⟨b, off, none⟩) n c bs) (hbg : b ≠ g) (hm : m ≤ n) (hn : pre.length + n ≤ 100000) (h0 : 0 < n) :
    Calls Try.prog 26 #[.pointer (some ⟨g, 0, none⟩), .int .i64 (m : Int)] w fun e w' => e = .returned undef ∧
      Blk w' g 53 #[.slice (if m = c then (some ⟨b, off, none⟩) else some ⟨b, off + m, none⟩) (n - m) (c - m), PA (pre ++ bs.take m)] ∧ Only g w w' := by
  obtain rfl := h.len
  have hcap := h.cap
  obtain ⟨b', off', he, hbl, hcell⟩ := h.at_ h0
  injection he with he
  injection he with e1 e2
  subst e1; subst e2
  have Hc := Lib.hid hcell
  clear hcell
  have Hg := Lib.hid hg
  have k0 := hg.cell 0
  have k1 := hg.cell 1
  simp only [List.getElem?_toArray, List.getElem?_cons_zero, List.getElem?_cons_succ] at k0 k1
  obtain ⟨A', HA⟩ : ∃ A' : Option Addr, Hid ((if m = c then (some ⟨b, off, none⟩ : Option Addr) else some ⟨b, off + m, none⟩) = A') := ⟨_, Lib.hid rfl⟩
  rw [HA.out]
  have gm : (m : Int) ≤ (bs.length : Int) := by omega
  have gm2 : (m : Int) ≤ (c : Int) := by omega
  clear hg
  go_enter Try.func26, Try.ntmps26
  go_wp2
  go_loopw [13] (fun i wr => ∃ k : Nat, k ≤ m ∧ i = .int .i64 (k : Int) ∧ Only g w wr ∧ Hid (Blk wr g 53 #[.slice (some ⟨b, off, none⟩) bs.length c, PA (pre ++ bs.take k)])) (fun i _ => m - (intOf i).toNat)
  case atStart => exact ⟨0, Nat.zero_le _, rfl, Only.refl _ _, Lib.hid (by rw [List.take_zero, List.append_nil]; exact Hg.out)⟩
  case round =>
    obtain ⟨k, hk, rfl, hO, HB⟩ := hrel
    clear k0 k1
    have k0 := HB.out.cell 0
    have k1 := HB.out.cell 1
    simp only [List.getElem?_toArray, List.getElem?_cons_zero, List.getElem?_cons_succ] at k0 k1
    have fz0 := HB.out.frozen 0
    have fz1 := HB.out.frozen 1
    by_cases hlt : k < m
    · have ck := Hc.out k (by omega)
      rw [← hO.cell (p := ⟨b, off + k, none⟩) hbg] at ck
      obtain ⟨d1, d2, d3, d4⟩ := atN_bd (pre ++ bs.take k)
      have hlen : (pre ++ bs.take k).length ≤ pre.length + bs.length := by rw [List.length_append, List.length_take]; omega
      have hok := okP_of d1 (by omega) d3 (by omega)
      have hst := pl_step (atN (pre ++ bs.take k)).1 (atN (pre ++ bs.take k)).2 (bs.getD k 0) wr (by omega) (by omega) hok
      have hnx : pre ++ bs.take (k + 1) = (pre ++ bs.take k) ++ [bs.getD k 0] := by
        rw [List.take_add_one, List.append_assoc, List.getD_eq_getElem?_getD, List.getElem?_eq_getElem (by omega)]
        rfl
      have hnx2 : atN (pre ++ bs.take (k + 1)) = stepP ((atN (pre ++ bs.take k)).1, (atN (pre ++ bs.take k)).2) (bs.getD k 0) := by
        rw [hnx]; exact atN_snoc _ _
      obtain ⟨d5, d6, d7, d8⟩ := atN_bd (pre ++ bs.take (k + 1))
      have hlen2 : (pre ++ bs.take (k + 1)).length ≤ pre.length + bs.length := by rw [List.length_append, List.length_take]; omega
      have hok2 := okP_of d5 (by omega) d7 (by omega)
      rw [← hnx2, keptP_of hok2] at hst
      have hset := fun v => HB.out.set 1 v
      unfold PA at k1
      unfold PV at k1 hst
      have hPA : PA (pre ++ bs.take (k + 1)) = .complex .f64 (fN (atN (pre ++ bs.take (k + 1))).1) (fN (atN (pre ++ bs.take (k + 1))).2) := rfl
      generalize fN (atN (pre ++ bs.take k)).1 = u at *
      generalize fN (atN (pre ++ bs.take k)).2 = v at *
      generalize fN (atN (pre ++ bs.take (k + 1))).1 = u2 at *
      generalize fN (atN (pre ++ bs.take (k + 1))).2 = v2 at *
      generalize bs.getD k 0 = x at *
      have Hst := Lib.hid hst
      have Hset := Lib.hid hset
      have HPA := Lib.hid hPA
      clear hst hok hok2 hnx hnx2 d1 d2 d3 d4 d5 d6 d7 d8 hlen hlen2 hset hPA
      have ksc : ∀ (w : World) (a : Addr) (k : FloatKind) (x y : Nat) (m : Mode), (store a (.complex k x y) m).run Try.prog w = stored Try.prog w a (.complex k x y) m := fun w a k x y m => run_store Try.prog w a _ m rfl
      go_wp2_with (go_at_call 43; (with_reducible refine Hst.out.mono ?_); rintro e w' ⟨rfl, rfl⟩)
      go_roundw
      case rel =>
        refine ⟨k + 1, by omega, by go_num, hO.trans (Only.set _ _ _ _), Lib.hid ?_⟩
        rw [HPA.out]
        exact Hset.out _
      case measure => simp [intOf]; omega
    · obtain rfl : k = m := by omega
      clear hlt
      have hset := fun v => HB.out.set 0 v
      have Hset := Lib.hid hset
      clear hset fz1 k1
      by_cases hc0 : k = c
      · have HA2 : Hid (some ⟨b, off, none⟩ = A') := Lib.hid (by rw [← HA.out, if_pos hc0])
        have e1 : bs.length - k = 0 := by omega
        have e2 : c - k = 0 := by omega
        have He1 := Lib.hid e1
        have He2 := Lib.hid e2
        clear e1 e2
        go_wp2
        go_end0
        refine ⟨rfl, ?_, hO.trans (Only.set _ _ _ _)⟩
        rw [← HA2.out, He1.out, He2.out]
        exact Hset.out _
      · have HA2 : Hid (some ⟨b, off + k, none⟩ = A') := Lib.hid (by rw [← HA.out, if_neg hc0])
        go_wp2
        go_end0
        refine ⟨rfl, ?_, hO.trans (Only.set _ _ _ _)⟩
        rw [← HA2.out]
        exact Hset.out _
end Go.Proofs.Ytcmfflfgegadjaa
