/- yacc: a source is the same as itself: the program's Same, walked. -/
import Derived.Test.YtdeiipbnaknedaaYQ24
namespace Go.Proofs.Ytdeiipbnaknedaa
open Go.RowKit
set_option linter.unusedVariables false
set_option linter.unusedSimpArgs false

theorem two_newY (w : World) (t : TypeId) (c1 c2 : Array Value) : Below w.heap.size w ((w.alloc (.cells c1 t)).alloc (.cells c2 t)) ∧ Blk ((w.alloc (.cells c1 t)).alloc (.cells c2 t)) w.heap.size t c1 ∧ Blk ((w.alloc (.cells c1 t)).alloc (.cells c2 t)) (w.heap.size + 1) t c2 := by
  have h1 := Blk.new w t c1
  have h2 := Blk.new (w.alloc (.cells c1 t)) t c2
  have b1 := alloc_below w (.cells c1 t)
  have b2 := alloc_below (w.alloc (.cells c1 t)) (.cells c2 t)
  rw [alloc_size] at h2
  exact ⟨below_tail b1 b2, h1.ext b2, h2⟩
theorem eq_self {bs : List Nat} {a : RefY} (ha : GoodR bs a) (hn : bs.length ≤ 100000) {u v : Nat} (h1 : PA a.2 = .complex .f64 u v) (w : World) :
    (Op.equalIn 10000 40 (.agg #[.string (str a.1), .complex .f64 u v]) (.agg #[.string (str a.1), .complex .f64 u v])).run Try.prog w = .ok true w := by
  rw [eq_good ha ha hn h1 h1]
  simp
theorem eq_none (w : World) : (Op.equalIn 10000 40 (.agg #[.string ⟨#[]⟩, .complex .f64 0 0]) (.agg #[.string ⟨#[]⟩, .complex .f64 0 0])).run Try.prog w = .ok true w := by
  rw [eq_ref]
  kernel_rfl
/-- a rule's own precedence, as a value, is the same as itself -/
theorem eq_prec {bs : List Nat} (o : Option RefY) (ho : ∀ r, o = some r → GoodR bs r) (hn : bs.length ≤ 100000) : ∃ s u v, precCells o = [.string s, .complex .f64 u v] ∧ ∀ w : World, (Op.equalIn 10000 40 (.agg #[.string s, .complex .f64 u v]) (.agg #[.string s, .complex .f64 u v])).run Try.prog w = .ok true w := by
  rcases o with _ | r
  · exact ⟨_, _, _, rfl, eq_none⟩
  · obtain ⟨x, y, h⟩ := PA_form r.2
    exact ⟨str r.1, x, y, by rw [← h]; rfl, eq_self (ho r rfl) hn h⟩

set_option maxRecDepth 20000 in
set_option maxHeartbeats 1000000 in
theorem ys_Equal {bs : List Nat} (A : Option Addr) (n c : Nat) (rs : List RefY) (w : World) (h : RefsAt w A n c rs) (hg : ∀ r ∈ rs, GoodR bs r) (hn : bs.length ≤ 100000) :
    Calls Try.prog 40 #[.slice A n c, .slice A n c] w fun e w' => e = .returned (.bool true) ∧ Below w.heap.size w w' := by
  have l1 := h.1
  have k1 := h.2.1
  have k2 := h.2.2.1
  have H := Lib.hid h
  have HG := Lib.hid hg
  have L1 := Lib.hid l1
  clear h hg l1
  go_enter Try.func40, Try.ntmps40
  go_wp2_with fail
  go_loopw [13] (fun i wr => ∃ q : Nat, q ≤ n ∧ i = .int .i64 (q : Int) ∧ Hid (Below w.heap.size w wr)) (fun i _ => n - (intOf i).toNat)
  case atStart => exact ⟨0, Nat.zero_le _, rfl, Lib.hid (Below.refl _ _)⟩
  case round =>
    obtain ⟨q, hq, rfl, HB⟩ := hrel
    by_cases hqq : q < n
    case pos =>
      obtain ⟨b, off, r, rfl, hbB, hbl, Hr, hc⟩ := (Flat.below H.out HB.out).get hqq
      obtain ⟨x, y, hxy⟩ := PA_form r.2
      have heq := eq_self (HG.out r (List.mem_of_getElem? Hr.out)) hn hxy
      have e0 : wr.cell? ⟨b, off + q * 2, none⟩ = some (.string (str r.1)) := hc 0 _ rfl
      have e1 : wr.cell? ⟨b, off + q * 2 + 1, none⟩ = some (.complex .f64 x y) := by rw [← hxy]; exact hc 1 _ rfl
      have hgd := Try.guardRef
      generalize str r.1 = s at *
      have bc := bl_cell wr
      clear hc hxy
      go_wp2_with fail
      refine wp_region_below (by kernel_rfl) (by kernel_rfl) ?_
      repeat (go_big_quiet_step (fail))
      refine wpQuiet_nil ?_
      rintro _ ⟨x, rfl⟩
      go_wp2_with fail
      go_roundw
      case rel => exact ⟨q + 1, by omega, by go_num, Lib.hid (below_tail HB.out (bl_below wr x))⟩
      case measure => simp [intOf]; omega
    case neg =>
      obtain rfl : q = n := by omega
      go_wp2_with fail
      go_ret
      exact ⟨rfl, HB.out⟩

set_option maxRecDepth 20000 in
set_option maxHeartbeats 1000000 in
theorem ys_decls {bs : List Nat} (k : Nat) (A : Option Addr) (c : Nat) (rs : List RefY) (w : World) (h : RefsAt w A rs.length c rs) (hg : ∀ r ∈ rs, GoodR bs r) (hn : bs.length ≤ 100000) :
    Calls Try.prog 19 #[.agg #[.int .i64 (k : Int), .slice A rs.length c], .agg #[.int .i64 (k : Int), .slice A rs.length c]] w fun e w' => e = .returned (.bool true) ∧ Below w.heap.size w w' := by
  obtain ⟨hb, hT, hU⟩ := two_newY w 46 #[.int .i64 (k : Int), .slice A rs.length c] #[.int .i64 (k : Int), .slice A rs.length c]
  have CI := Lib.hid (ys_Equal A rs.length c rs _ (h.keep (w' := (w.alloc (.cells #[.int .i64 (k : Int), .slice A rs.length c] 46)).alloc (.cells #[.int .i64 (k : Int), .slice A rs.length c] 46)) hb.size fun b off e hlt => hb.block b hlt) hg hn)
  clear h hg
  go_enter Try.func19, Try.ntmps19
  go_upto_region 1 with fail
  generalize (w.alloc (.cells #[.int .i64 (k : Int), .slice A rs.length c] 46)).alloc (.cells #[.int .i64 (k : Int), .slice A rs.length c] 46) = W at *
  have HB := Lib.hid hb
  have a0 : W.cell? ⟨w.heap.size, 0, none⟩ = some (.int .i64 (k : Int)) := hT.cell 0
  have a1 : W.cell? ⟨w.heap.size, 1, none⟩ = some (.slice A rs.length c) := hT.cell 1
  have b0 : W.cell? ⟨w.heap.size + 1, 0, none⟩ = some (.int .i64 (k : Int)) := hU.cell 0
  have b1 : W.cell? ⟨w.heap.size + 1, 1, none⟩ = some (.slice A rs.length c) := hU.cell 1
  have al := hT.lt
  have bl' := hU.lt
  clear hT hU hb
  have i1 : ((k : Int) == (k : Int)) = true := by rw [beq_iff_eq]
  go_wp2_with (go_at_call 40; (with_reducible refine CI.out.mono ?_); rintro e w6 ⟨rfl, hb6⟩)
  go_ret
  exact ⟨by simp, below_tail HB.out hb6⟩

set_option maxRecDepth 20000 in
set_option maxHeartbeats 1000000 in
theorem ys_prods {bs : List Nat} (s : ByteArray) (u v : Nat) (A : Option Addr) (c : Nat) (s2 : ByteArray) (u2 v2 : Nat) (rs : List RefY) (w : World) (h : RefsAt w A rs.length c rs) (hg : ∀ r ∈ rs, GoodR bs r) (hn : bs.length ≤ 100000)
    (heq : ∀ w : World, (Op.equalIn 10000 40 (.agg #[.string s, .complex .f64 u v]) (.agg #[.string s, .complex .f64 u v])).run Try.prog w = .ok true w)
    (heq2 : ∀ w : World, (Op.equalIn 10000 40 (.agg #[.string s2, .complex .f64 u2 v2]) (.agg #[.string s2, .complex .f64 u2 v2])).run Try.prog w = .ok true w) :
    Calls Try.prog 21 #[.agg #[.string s, .complex .f64 u v, .slice A rs.length c, .string s2, .complex .f64 u2 v2], .agg #[.string s, .complex .f64 u v, .slice A rs.length c, .string s2, .complex .f64 u2 v2]] w fun e w' => e = .returned (.bool true) ∧ Below w.heap.size w w' := by
  obtain ⟨hb, hT, hU⟩ := two_newY w 44 #[.string s, .complex .f64 u v, .slice A rs.length c, .string s2, .complex .f64 u2 v2] #[.string s, .complex .f64 u v, .slice A rs.length c, .string s2, .complex .f64 u2 v2]
  have hR := Lib.hid (h.keep (w' := (w.alloc (.cells #[.string s, .complex .f64 u v, .slice A rs.length c, .string s2, .complex .f64 u2 v2] 44)).alloc (.cells #[.string s, .complex .f64 u v, .slice A rs.length c, .string s2, .complex .f64 u2 v2] 44)) hb.size fun b off e hlt => hb.block b hlt)
  have HG := Lib.hid hg
  have hgd := Try.guardRef
  clear h hg
  go_enter Try.func21, Try.ntmps21
  go_upto_region 1 with fail
  generalize (w.alloc (.cells #[.string s, .complex .f64 u v, .slice A rs.length c, .string s2, .complex .f64 u2 v2] 44)).alloc (.cells #[.string s, .complex .f64 u v, .slice A rs.length c, .string s2, .complex .f64 u2 v2] 44) = W at *
  have HB := Lib.hid hb
  have a0 : W.cell? ⟨w.heap.size, 0, none⟩ = some (.string s) := hT.cell 0
  have a1 : W.cell? ⟨w.heap.size, 1, none⟩ = some (.complex .f64 u v) := hT.cell 1
  have a2 : W.cell? ⟨w.heap.size, 2, none⟩ = some (.slice A rs.length c) := hT.cell 2
  have a3 : W.cell? ⟨w.heap.size, 3, none⟩ = some (.string s2) := hT.cell 3
  have a4 : W.cell? ⟨w.heap.size, 4, none⟩ = some (.complex .f64 u2 v2) := hT.cell 4
  have b0 : W.cell? ⟨w.heap.size + 1, 0, none⟩ = some (.string s) := hU.cell 0
  have b1 : W.cell? ⟨w.heap.size + 1, 1, none⟩ = some (.complex .f64 u v) := hU.cell 1
  have b2 : W.cell? ⟨w.heap.size + 1, 2, none⟩ = some (.slice A rs.length c) := hU.cell 2
  have b3 : W.cell? ⟨w.heap.size + 1, 3, none⟩ = some (.string s2) := hU.cell 3
  have b4 : W.cell? ⟨w.heap.size + 1, 4, none⟩ = some (.complex .f64 u2 v2) := hU.cell 4
  have al := hT.lt
  have bl' := hU.lt
  clear hT hU hb
  have CI := Lib.hid (ys_Equal A rs.length c rs W hR.out HG.out hn)
  go_wp2_with (go_at_call 40; (with_reducible refine CI.out.mono ?_); rintro e w6 ⟨rfl, hb6⟩)
  go_ret
  exact ⟨by simp, below_tail HB.out hb6⟩

set_option maxRecDepth 20000 in
set_option maxHeartbeats 1000000 in
theorem ys_EqualDecl {bs : List Nat} (A : Option Addr) (n c : Nat) (zs : List (WithY DclY)) (w : World) (h : Flat 2 dclCells w w.heap.size A n c zs) (hI : InY DclY.names w (fun _ => True) zs) (hg : ∀ z ∈ zs, ∀ r ∈ z.val.names, GoodR bs r) (hn : bs.length ≤ 100000) :
    Calls Try.prog 18 #[.slice A n c, .slice A n c, .func (.func 19) #[] #[]] w fun e w' => e = .returned (.bool true) ∧ Below w.heap.size w w' := by
  have l1 := h.1
  have k1 := h.2.1
  have k2 := h.2.2.1
  have H := Lib.hid h
  have HI := Lib.hid hI
  have HG := Lib.hid hg
  have L1 := Lib.hid l1
  clear h hg hI l1
  go_enter Try.func18, Try.ntmps18
  go_wp2_with fail
  go_loopw [17] (fun i wr => ∃ q : Nat, q ≤ n ∧ i = .int .i64 (q : Int) ∧ Hid (Below w.heap.size w wr)) (fun i _ => n - (intOf i).toNat)
  case atStart => exact ⟨0, Nat.zero_le _, rfl, Lib.hid (Below.refl _ _)⟩
  case round =>
    obtain ⟨q, hq, rfl, HB⟩ := hrel
    by_cases hqq : q < n
    case pos =>
      obtain ⟨b, off, z, rfl, hbB, hbl, Hr, hc⟩ := (Flat.below H.out HB.out).get hqq
      have hzm := List.mem_of_getElem? Hr.out
      have hGz := HG.out z hzm
      have hRz := (HI.out z hzm).1
      unfold dclCells at hc
      generalize z.A = zA at *
      generalize z.c = zc at *
      generalize z.val.names = rs at *
      have p0 : wr.cell? ⟨b, off + q * 2, none⟩ = some (.int .i64 (z.val.kind : Int)) := hc 0 _ rfl
      have p1 : wr.cell? ⟨b, off + q * 2 + 1, none⟩ = some (.slice zA rs.length zc) := hc 1 _ rfl
      obtain ⟨hbW, hbT, hbU⟩ := two_newY wr 46 #[.int .i64 (z.val.kind : Int), .slice zA rs.length zc] #[.int .i64 (z.val.kind : Int), .slice zA rs.length zc]
      have bT := alloc_below wr (.cells #[.int .i64 (z.val.kind : Int), .slice zA rs.length zc] 46)
      have HBW := Lib.hid (below_tail HB.out hbW)
      have CI := Lib.hid (ys_decls z.val.kind zA zc rs _ (hRz.keep (Nat.le_trans HB.out.size hbW.size) fun b off e hlt => ((hbW.block b (Nat.lt_of_lt_of_le hlt HB.out.size)).trans (HB.out.block b hlt))) hGz hn)
      have ws0 := (bT.cell (p := ⟨b, off + q * 2, none⟩) hbl).trans p0
      have ws1 := (bT.cell (p := ⟨b, off + q * 2 + 1, none⟩) hbl).trans p1
      have hub2 : b < (wr.alloc (.cells #[.int .i64 (z.val.kind : Int), .slice zA rs.length zc] 46)).heap.size := Nat.lt_of_lt_of_le hbl bT.size
      clear hc hGz hRz hzm
      go_upto_region 7 with fail
      generalize (wr.alloc (.cells #[.int .i64 (z.val.kind : Int), .slice zA rs.length zc] 46)).alloc (.cells #[.int .i64 (z.val.kind : Int), .slice zA rs.length zc] 46) = W at *
      have a0 : W.cell? ⟨wr.heap.size, 0, none⟩ = some (.int .i64 (z.val.kind : Int)) := hbT.cell 0
      have a1 : W.cell? ⟨wr.heap.size, 1, none⟩ = some (.slice zA rs.length zc) := hbT.cell 1
      have b0 : W.cell? ⟨wr.heap.size + 1, 0, none⟩ = some (.int .i64 (z.val.kind : Int)) := hbU.cell 0
      have b1 : W.cell? ⟨wr.heap.size + 1, 1, none⟩ = some (.slice zA rs.length zc) := hbU.cell 1
      have al := hbT.lt
      have bl' := hbU.lt
      clear hbT hbU hbW bT hub2 p0 ws0 p1 ws1
      go_wp2_with fail
      (with_reducible refine CI.out.mono ?_)
      rintro e w6 ⟨rfl, hb6⟩
      have HB6 := Lib.hid (below_tail HBW.out hb6)
      clear hb6
      go_wp2_with fail
      go_roundw
      case rel => exact ⟨q + 1, by omega, by go_num, HB6⟩
      case measure => simp [intOf]; omega
    case neg =>
      obtain rfl : q = n := by omega
      go_wp2_with fail
      go_ret
      exact ⟨rfl, HB.out⟩

set_option maxRecDepth 20000 in
set_option maxHeartbeats 1000000 in
theorem ys_EqualProd {bs : List Nat} (A : Option Addr) (n c : Nat) (zs : List (WithY PrdY)) (w : World) (h : Flat 5 prdCells w w.heap.size A n c zs) (hI : InY PrdY.right w (fun _ => True) zs) (hg : ∀ z ∈ zs, GoodR bs z.val.left ∧ ∀ r ∈ bodyY z.val, GoodR bs r) (hn : bs.length ≤ 100000) :
    Calls Try.prog 20 #[.slice A n c, .slice A n c, .func (.func 21) #[] #[]] w fun e w' => e = .returned (.bool true) ∧ Below w.heap.size w w' := by
  have ksc : ∀ (w : World) (a : Addr) (k : FloatKind) (x y : Nat) (m : Mode), (store a (.complex k x y) m).run Try.prog w = stored Try.prog w a (.complex k x y) m := fun w a k x y m => run_store Try.prog w a _ m rfl
  have l1 := h.1
  have k1 := h.2.1
  have k2 := h.2.2.1
  have H := Lib.hid h
  have HI := Lib.hid hI
  have HG := Lib.hid hg
  have L1 := Lib.hid l1
  clear h hg hI l1
  go_enter Try.func20, Try.ntmps20
  go_wp2_with fail
  go_loopw [17] (fun i wr => ∃ q : Nat, q ≤ n ∧ i = .int .i64 (q : Int) ∧ Hid (Below w.heap.size w wr)) (fun i _ => n - (intOf i).toNat)
  case atStart => exact ⟨0, Nat.zero_le _, rfl, Lib.hid (Below.refl _ _)⟩
  case round =>
    obtain ⟨q, hq, rfl, HB⟩ := hrel
    by_cases hqq : q < n
    case pos =>
      obtain ⟨b, off, z, rfl, hbB, hbl, Hr, hc⟩ := (Flat.below H.out HB.out).get hqq
      have hzm := List.mem_of_getElem? Hr.out
      have hGz := HG.out z hzm
      have hRz := (HI.out z hzm).1
      obtain ⟨u, v, hxy⟩ := PA_form z.val.left.2
      have heq := eq_self hGz.1 hn hxy
      obtain ⟨s2, u2, v2, hs2, heq2⟩ := eq_prec z.val.prec (fun r hr => hGz.2 r (by unfold bodyY; rw [hr]; simp)) hn
      have hGr : ∀ r ∈ z.val.right, GoodR bs r := fun r hr => hGz.2 r (by unfold bodyY; simp [hr])
      unfold prdCells at hc
      rw [hxy, hs2] at hc
      generalize str z.val.left.1 = s at *
      clear hxy hs2
      clear hGz
      generalize z.A = zA at *
      generalize z.c = zc at *
      generalize z.val.right = rs at *
      have p0 : wr.cell? ⟨b, off + q * 5, none⟩ = some (.string s) := hc 0 _ rfl
      have p1 : wr.cell? ⟨b, off + q * 5 + 1, none⟩ = some (.complex .f64 u v) := hc 1 _ rfl
      have p2 : wr.cell? ⟨b, off + q * 5 + 2, none⟩ = some (.slice zA rs.length zc) := hc 2 _ rfl
      have p3 : wr.cell? ⟨b, off + q * 5 + 3, none⟩ = some (.string s2) := hc 3 _ rfl
      have p4 : wr.cell? ⟨b, off + q * 5 + 4, none⟩ = some (.complex .f64 u2 v2) := hc 4 _ rfl
      obtain ⟨hbW, hbT, hbU⟩ := two_newY wr 44 #[.string s, .complex .f64 u v, .slice zA rs.length zc, .string s2, .complex .f64 u2 v2] #[.string s, .complex .f64 u v, .slice zA rs.length zc, .string s2, .complex .f64 u2 v2]
      have bT := alloc_below wr (.cells #[.string s, .complex .f64 u v, .slice zA rs.length zc, .string s2, .complex .f64 u2 v2] 44)
      have HBW := Lib.hid (below_tail HB.out hbW)
      have CI := Lib.hid (ys_prods s u v zA zc s2 u2 v2 rs _ (hRz.keep (Nat.le_trans HB.out.size hbW.size) fun b off e hlt => ((hbW.block b (Nat.lt_of_lt_of_le hlt HB.out.size)).trans (HB.out.block b hlt))) hGr hn heq heq2)
      have ws0 := (bT.cell (p := ⟨b, off + q * 5, none⟩) hbl).trans p0
      have ws1 := (bT.cell (p := ⟨b, off + q * 5 + 1, none⟩) hbl).trans p1
      have ws2 := (bT.cell (p := ⟨b, off + q * 5 + 2, none⟩) hbl).trans p2
      have ws3 := (bT.cell (p := ⟨b, off + q * 5 + 3, none⟩) hbl).trans p3
      have ws4 := (bT.cell (p := ⟨b, off + q * 5 + 4, none⟩) hbl).trans p4
      have hub2 : b < (wr.alloc (.cells #[.string s, .complex .f64 u v, .slice zA rs.length zc, .string s2, .complex .f64 u2 v2] 44)).heap.size := Nat.lt_of_lt_of_le hbl bT.size
      clear hc hRz hzm hGr heq heq2
      go_upto_region 7 with fail
      generalize (wr.alloc (.cells #[.string s, .complex .f64 u v, .slice zA rs.length zc, .string s2, .complex .f64 u2 v2] 44)).alloc (.cells #[.string s, .complex .f64 u v, .slice zA rs.length zc, .string s2, .complex .f64 u2 v2] 44) = W at *
      have a0 : W.cell? ⟨wr.heap.size, 0, none⟩ = some (.string s) := hbT.cell 0
      have a1 : W.cell? ⟨wr.heap.size, 1, none⟩ = some (.complex .f64 u v) := hbT.cell 1
      have a2 : W.cell? ⟨wr.heap.size, 2, none⟩ = some (.slice zA rs.length zc) := hbT.cell 2
      have a3 : W.cell? ⟨wr.heap.size, 3, none⟩ = some (.string s2) := hbT.cell 3
      have a4 : W.cell? ⟨wr.heap.size, 4, none⟩ = some (.complex .f64 u2 v2) := hbT.cell 4
      have b0 : W.cell? ⟨wr.heap.size + 1, 0, none⟩ = some (.string s) := hbU.cell 0
      have b1 : W.cell? ⟨wr.heap.size + 1, 1, none⟩ = some (.complex .f64 u v) := hbU.cell 1
      have b2 : W.cell? ⟨wr.heap.size + 1, 2, none⟩ = some (.slice zA rs.length zc) := hbU.cell 2
      have b3 : W.cell? ⟨wr.heap.size + 1, 3, none⟩ = some (.string s2) := hbU.cell 3
      have b4 : W.cell? ⟨wr.heap.size + 1, 4, none⟩ = some (.complex .f64 u2 v2) := hbU.cell 4
      have al := hbT.lt
      have bl' := hbU.lt
      clear hbT hbU hbW bT hub2 p0 ws0 p1 ws1 p2 ws2 p3 ws3 p4 ws4
      go_wp2_with fail
      (with_reducible refine CI.out.mono ?_)
      rintro e w6 ⟨rfl, hb6⟩
      have HB6 := Lib.hid (below_tail HBW.out hb6)
      clear hb6
      go_wp2_with fail
      go_roundw
      case rel => exact ⟨q + 1, by omega, by go_num, HB6⟩
      case measure => simp [intOf]; omega
    case neg =>
      obtain rfl : q = n := by omega
      go_wp2_with fail
      go_ret
      exact ⟨rfl, HB.out⟩

set_option maxRecDepth 20000 in
set_option maxHeartbeats 1000000 in
/-- a source that came back is the same as itself -/
theorem ys_Same {bs : List Nat} (A1 : Option Addr) (n1 c1 : Nat) (zs1 : List (WithY DclY)) (A2 : Option Addr) (n2 c2 : Nat) (zs2 : List (WithY PrdY)) (w : World) (F1 : Flat 2 dclCells w w.heap.size A1 n1 c1 zs1) (I1 : InY DclY.names w (fun _ => True) zs1) (F2 : Flat 5 prdCells w w.heap.size A2 n2 c2 zs2) (I2 : InY PrdY.right w (fun _ => True) zs2)
    (hg1 : ∀ z ∈ zs1, ∀ r ∈ z.val.names, GoodR bs r) (hg2 : ∀ z ∈ zs2, GoodR bs z.val.left ∧ ∀ r ∈ bodyY z.val, GoodR bs r) (hn : bs.length ≤ 100000) :
    Calls Try.prog 9 #[.agg #[.slice A1 n1 c1, .slice A2 n2 c2], .agg #[.slice A1 n1 c1, .slice A2 n2 c2]] w fun e w' => e = .returned (.bool true) ∧ Below w.heap.size w w' := by
  obtain ⟨hb, hT, hU⟩ := two_newY w 27 #[.slice A1 n1 c1, .slice A2 n2 c2] #[.slice A1 n1 c1, .slice A2 n2 c2]
  have C1 := Lib.hid (ys_EqualDecl A1 n1 c1 zs1 _ ((F1.below hb).wide (Nat.le_refl _)) (I1.keep hb.size fun k hk _ => ⟨hb.block k hk, trivial⟩) hg1 hn)
  have C2 := Lib.hid fun (w2 : World) (hb2 : Below ((w.alloc (.cells #[.slice A1 n1 c1, .slice A2 n2 c2] 27)).alloc (.cells #[.slice A1 n1 c1, .slice A2 n2 c2] 27)).heap.size ((w.alloc (.cells #[.slice A1 n1 c1, .slice A2 n2 c2] 27)).alloc (.cells #[.slice A1 n1 c1, .slice A2 n2 c2] 27)) w2) => ys_EqualProd A2 n2 c2 zs2 w2 (((F2.below hb).below hb2).wide (Nat.le_refl _)) (I2.keep (Nat.le_trans hb.size hb2.size) fun k hk _ => ⟨(hb2.block k (Nat.lt_of_lt_of_le hk hb.size)).trans (hb.block k hk), trivial⟩) hg2 hn
  clear F1 I1 F2 I2 hg1 hg2
  go_enter Try.func9, Try.ntmps9
  go_upto_region 1 with fail
  generalize (w.alloc (.cells #[.slice A1 n1 c1, .slice A2 n2 c2] 27)).alloc (.cells #[.slice A1 n1 c1, .slice A2 n2 c2] 27) = W at *
  have HB := Lib.hid hb
  have a0 : W.cell? ⟨w.heap.size, 0, none⟩ = some (.slice A1 n1 c1) := hT.cell 0
  have a1 : W.cell? ⟨w.heap.size, 1, none⟩ = some (.slice A2 n2 c2) := hT.cell 1
  have b0 : W.cell? ⟨w.heap.size + 1, 0, none⟩ = some (.slice A1 n1 c1) := hU.cell 0
  have b1 : W.cell? ⟨w.heap.size + 1, 1, none⟩ = some (.slice A2 n2 c2) := hU.cell 1
  have al := hT.lt
  have bl' := hU.lt
  have HT := Lib.hid hT
  have HU := Lib.hid hU
  clear hT hU hb
  go_wp2_with (first
    | (go_at_call 18; (with_reducible refine C1.out.mono ?_); rintro e w6 ⟨rfl, hb6⟩
       have hT6 := HT.out.ext hb6
       have hU6 := HU.out.ext hb6
       have d1 : w6.cell? ⟨w.heap.size, 1, none⟩ = some (.slice A2 n2 c2) := hT6.cell 1
       have d2 : w6.cell? ⟨w.heap.size + 1, 1, none⟩ = some (.slice A2 n2 c2) := hU6.cell 1
       have al6 := hT6.lt
       have bl6 := hU6.lt)
    | (go_at_call 20; (with_reducible refine (C2.out _ hb6).mono ?_); rintro e w7 ⟨rfl, hb7⟩))
  go_ret
  exact ⟨by simp, below_tail (below_tail HB.out hb6) hb7⟩
end Go.Proofs.Ytdeiipbnaknedaa
