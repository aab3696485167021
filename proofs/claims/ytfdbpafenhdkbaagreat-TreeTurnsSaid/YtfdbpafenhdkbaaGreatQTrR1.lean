/- trees: the reference's node: what it holds. -/
import Derived.Test.YtfdbpafenhdkbaaGreatQTrB
import Derived.Test.YtfdbpafenhdkbaaGreatQStp
import Derived.Deep.RegionHeld3
namespace Go.Proofs.YtfdbpafenhdkbaaGreat
open Go.RowKit
set_option linter.unusedVariables false
set_option linter.unusedSimpArgs false

/-- two rows of a call's own, that have no block in common -/
structure Rows2 (w : World) (B : Nat) (Aw : Option Addr) (cw : Nat) (wd : List Int) (Ap : Option Addr) (cp : Nat) (ps : List Int) : Prop where
  word : w.ownsRow B 3 1 (.slice Aw wd.length cw) wd.length (ints .i64 wd)
  posts : w.ownsRow B 3 1 (.slice Ap ps.length cp) ps.length (ints .i64 ps)
  apart : ApartV (.slice Aw wd.length cw) (.slice Ap ps.length cp)
theorem Rows2.nil (w : World) (B : Nat) : Rows2 w B none 0 [] none 0 [] := ⟨World.ownsRow_nil _ _ _ _, World.ownsRow_nil _ _ _ _, fun b hb _ => by cases hb⟩
theorem Rows2.keep {w w' : World} {B : Nat} {Aw : Option Addr} {cw : Nat} {wd : List Int} {Ap : Option Addr} {cp : Nat} {ps : List Int} (h : Rows2 w B Aw cw wd Ap cp ps) (hk : ∀ b, B ≤ b → b < w.heap.size → w'.heap[b]? = w.heap[b]?) : Rows2 w' B Aw cw wd Ap cp ps :=
  ⟨own_kept h.word fun b hb _ hlt => hk b hb hlt, own_kept h.posts fun b hb _ hlt => hk b hb hlt, h.apart⟩
theorem Rows2.below {w w' : World} {B : Nat} {Aw : Option Addr} {cw : Nat} {wd : List Int} {Ap : Option Addr} {cp : Nat} {ps : List Int} (h : Rows2 w B Aw cw wd Ap cp ps) (hb : Below w.heap.size w w') : Rows2 w' B Aw cw wd Ap cp ps := h.keep fun b _ hlt => hb.block b hlt
theorem Rows2.set {w : World} {B : Nat} {Aw : Option Addr} {cw : Nat} {wd : List Int} {Ap : Option Addr} {cp : Nat} {ps : List Int} (h : Rows2 w B Aw cw wd Ap cp ps) (p i : Nat) (v : Value) (hp : p < B) : Rows2 (w.setCell ⟨p, i, none⟩ v) B Aw cw wd Ap cp ps :=
  h.keep fun b hb _ => Below.heap_setCell w ⟨p, i, none⟩ v b (show b ≠ p by omega)
theorem Rows2.mono {w : World} {B B' : Nat} {Aw : Option Addr} {cw : Nat} {wd : List Int} {Ap : Option Addr} {cp : Nat} {ps : List Int} (h : Rows2 w B Aw cw wd Ap cp ps) (hB : B' ≤ B) : Rows2 w B' Aw cw wd Ap cp ps := ⟨own_mono h.word hB, own_mono h.posts hB, h.apart⟩
/-- more words -/
theorem Rows2.putW {w w1 : World} {B : Nat} {Aw : Option Addr} {cw : Nat} {wd : List Int} {Ap : Option Addr} {cp : Nat} {ps : List Int} (h : Rows2 w B Aw cw wd Ap cp ps) (more : List Int) {A' : Option Addr} {c' : Nat}
    (ho : w1.ownsRow B 3 1 (.slice A' (wd.length + more.length) c') (wd.length + more.length) (ints .i64 wd ++ ints .i64 more)) (hg : w.grownBy w1 (Value.slice Aw wd.length cw).ownBlock)
    (ha : ∀ b, (Value.slice A' (wd.length + more.length) c').ownBlock = some b → b < w.heap.size → (Value.slice Aw wd.length cw).ownBlock = some b) : Rows2 w1 B A' c' (wd ++ more) Ap cp ps := by
  have hl : (wd ++ more).length = wd.length + more.length := List.length_append
  refine ⟨?_, own_kept h.posts fun b _ h2 hlt => hg.block b hlt fun e => h.apart b e.symm h2, ?_⟩
  · rw [hl, ints_append]
    exact ho
  · rw [hl]
    exact fun b h1 h2 => h.apart b (ha b h1 (h.posts.lt b h2).2) h2
/-- more reductions -/
theorem Rows2.putP {w w1 : World} {B : Nat} {Aw : Option Addr} {cw : Nat} {wd : List Int} {Ap : Option Addr} {cp : Nat} {ps : List Int} (h : Rows2 w B Aw cw wd Ap cp ps) (more : List Int) {A' : Option Addr} {c' : Nat}
    (ho : w1.ownsRow B 3 1 (.slice A' (ps.length + more.length) c') (ps.length + more.length) (ints .i64 ps ++ ints .i64 more)) (hg : w.grownBy w1 (Value.slice Ap ps.length cp).ownBlock)
    (ha : ∀ b, (Value.slice A' (ps.length + more.length) c').ownBlock = some b → b < w.heap.size → (Value.slice Ap ps.length cp).ownBlock = some b) : Rows2 w1 B Aw cw wd A' c' (ps ++ more) := by
  have hl : (ps ++ more).length = ps.length + more.length := List.length_append
  refine ⟨own_kept h.word fun b _ h2 hlt => hg.block b hlt fun e => h.apart b h2 e.symm, ?_, ?_⟩
  · rw [hl, ints_append]
    exact ho
  · rw [hl]
    exact fun b h1 h2 => h.apart b h1 (ha b h2 (h.word.lt b h1).2)
/-- what was there ahead of B is as it was, where a row from B on has grown -/
theorem below_row {w w1 : World} {B C e n c : Nat} {A : Option Addr} {xs : List Value} (ho : w.ownsRow B e 1 (.slice A n c) n xs) (hg : w.grownBy w1 (Value.slice A n c).ownBlock) (hC : C ≤ B) (hw : C ≤ w.heap.size) : Below C w w1 :=
  ⟨hg.os, hg.tape, hg.output, hg.size, fun b hb => hg.block b (by omega) fun e => by have := (ho.lt b e.symm).1; omega⟩
/-- a node in a block -/
def NdC (e : Nat) (Aw : Option Addr) (nw cw k : Nat) (Ap : Option Addr) (np cp : Nat) : Array Value := #[.int .i64 (e : Int), .slice Aw nw cw, .int .i64 (k : Int), .slice Ap np cp]
/-- the reference's node has come back -/
def NodeRet (G : Gr) (q at_ : Nat) (non : Int) (t : List Int) (w : World) (e : Ending) (w' : World) : Prop := Below w.heap.size w w' ∧
  ((walkP G q ⟨t.drop at_, [], []⟩ non = none ∧ e = .returned (.agg #[.int .i64 0, .slice none 0 0, .int .i64 0, .slice none 0 0])) ∨
   (∃ st' k ee Aw cw Ap cp, walkP G q ⟨t.drop at_, [], []⟩ non = some (st', k) ∧ st'.rest = t.drop ee ∧ at_ < ee ∧ ee ≤ t.length ∧ st'.word.length ≤ 6 * (ee - at_) ∧ st'.posts.length = ee - at_ ∧ 0 < k ∧ k ≤ ee - at_ ∧
    e = .returned (.agg #[.int .i64 ((ee : Nat) : Int), .slice Aw st'.word.length cw, .int .i64 ((k : Nat) : Int), .slice Ap st'.posts.length cp]) ∧ Rows2 w' w.heap.size Aw cw st'.word Ap cp st'.posts))
/-- what is below C stays, whatever is laid or stored from C on -/
theorem bC_alloc {C : Nat} {w w' : World} (h : Below C w w') (hC : C ≤ w.heap.size) (o : Obj) : Below C w (w'.alloc o) := h.alloc (Nat.le_trans hC h.size) o
theorem bC_set {C : Nat} {w w' : World} (h : Below C w w') (hC : C ≤ w.heap.size) (g i : Nat) (v : Value) (hg : C ≤ g) : Below C w (w'.setCell ⟨g, i, none⟩ v) := h.trans (grown_is_below (grown_set _ _ _ _) (Nat.le_trans hC h.size) hg)
/-- what a call of node came to, in one form -/
def YOr (G : Gr) (q e : Nat) (non : Int) (t : List Int) (ee kk : Nat) (yw yp : List Int) : Prop := (walkP G q ⟨t.drop e, [], []⟩ non = none ∧ ee = 0) ∨
  (∃ st', walkP G q ⟨t.drop e, [], []⟩ non = some (st', kk) ∧ st'.word = yw ∧ st'.posts = yp ∧ st'.rest = t.drop ee ∧ e < ee ∧ ee ≤ t.length ∧ yw.length ≤ 6 * (ee - e) ∧ yp.length = ee - e ∧ 0 < kk ∧ kk ≤ ee - e)
theorem NodeRet.form {G : Gr} {q at_ : Nat} {non : Int} {t : List Int} {w : World} {e : Ending} {w' : World} (h : NodeRet G q at_ non t w e w') :
    ∃ (ee kk : Nat) (Ay : Option Addr) (cy : Nat) (Apy : Option Addr) (cpy : Nat) (yw yp : List Int), e = .returned (.agg #[.int .i64 ((ee : Nat) : Int), .slice Ay yw.length cy, .int .i64 ((kk : Nat) : Int), .slice Apy yp.length cpy]) ∧ Rows2 w' w.heap.size Ay cy yw Apy cpy yp ∧ YOr G q at_ non t ee kk yw yp := by
  rcases h.2 with ⟨h1, h2⟩ | ⟨st', k, ee, Aw, cw, Ap, cp, h1, h2, h3, h4, h5, h6, h7, h8, h9, h10⟩
  · exact ⟨0, 0, none, 0, none, 0, [], [], h2, Rows2.nil _ _, .inl ⟨h1, rfl⟩⟩
  · exact ⟨ee, k, Aw, cw, Ap, cp, st'.word, st'.posts, h9, h10, .inr ⟨st', h1, rfl, rfl, h2, h3, h4, h5, h6, h7, h8⟩⟩
/-- what the variable of a callee's node points at -/
def YAt (G : Gr) (q e : Nat) (non : Int) (t : List Int) (wr : World) (v : Value) (wx : World) : Prop :=
  ∃ (gY ee kk : Nat) (Ay : Option Addr) (cy : Nat) (Apy : Option Addr) (cpy : Nat) (yw yp : List Int), v = .pointer (some ⟨gY, 0, none⟩) ∧ wr.heap.size ≤ gY ∧ Below wr.heap.size wr wx ∧
    Blk wx gY 73 (NdC ee Ay yw.length cy kk Apy yp.length cpy) ∧ Rows2 wx wr.heap.size Ay cy yw Apy cpy yp ∧ YOr G q e non t ee kk yw yp
theorem Rows2.drew {w : World} {B : Nat} {Aw : Option Addr} {cw : Nat} {wd : List Int} {Ap : Option Addr} {cp : Nat} {ps : List Int} (h : Rows2 w B Aw cw wd Ap cp ps) : Rows2 w.drew B Aw cw wd Ap cp ps := h.keep fun _ _ _ => rfl
theorem Rows2.keepRow {w w1 : World} {B : Nat} {Aw : Option Addr} {cw : Nat} {wd : List Int} {Ap : Option Addr} {cp : Nat} {ps : List Int} (h : Rows2 w B Aw cw wd Ap cp ps) {row : Option Nat} (hg : w.grownBy w1 row) (hne : ∀ b, B ≤ b → some b ≠ row) : Rows2 w1 B Aw cw wd Ap cp ps := h.keep fun b hb hlt => hg.block b hlt (hne b hb)
end Go.Proofs.YtfdbpafenhdkbaaGreat

namespace Go.Proofs.YtfdbpafenhdkbaaGreat
open Go.RowKit
set_option linter.unusedVariables false
set_option linter.unusedSimpArgs false

set_option maxRecDepth 20000 in
set_option maxHeartbeats 2000000 in
theorem rf_node_bad (h : GH) (G : Gr) (At : Option Addr) (n c : Nat) (t : List Int) (hn2 : n ≤ 400) (q at_ : Nat) (non : Int) (w : World) (hg : GrAt w h G) (ht : Ints .i64 w At n c t) (hat : at_ ≤ n) (h3 : h.n3 ≤ 100)
    (hbad : at_ = n ∨ ∃ i, t[at_]? = some i ∧ ∀ r, ruleAt G i = some r → r.left ≠ non) :
    Calls Tryz.prog 78 #[GV h G.start, .slice At n c, .int .i64 (at_ : Int), .int .i64 non] w (NodeRet G q at_ non t w) := by
  obtain rfl := ht.len
  have hcap := ht.cap
  obtain ⟨a1, n1, c1, a2, n2, c2, a3, n3, c3⟩ := h
  simp only [] at h3
  have e3 : G.rules.length = n3 := hg.rules.len
  have k3 := hg.rules.cap
  simp only [] at k3
  have hB0 := alloc_below w (.cells #[.slice a1 n1 c1, .slice a2 n2 c2, .slice a3 n3 c3, .int .i64 G.start] 26)
  have hbox := GBox.new w 26 ⟨a1, n1, c1, a2, n2, c2, a3, n3, c3⟩ G.start
  have hb1 := alloc_below (w.alloc (.cells #[.slice a1 n1 c1, .slice a2 n2 c2, .slice a3 n3 c3, .int .i64 G.start] 26)) (.cells #[.int .i64 0, .slice none 0 0, .int .i64 0, .slice none 0 0] 73)
  have hO := Blk.new (w.alloc (.cells #[.slice a1 n1 c1, .slice a2 n2 c2, .slice a3 n3 c3, .int .i64 G.start] 26)) 73 #[.int .i64 0, .slice none 0 0, .int .i64 0, .slice none 0 0]
  have hB1 := below_tail hB0 hb1
  have hbx1 := hbox.below hb1
  have p5 := alloc_size w (.cells #[.slice a1 n1 c1, .slice a2 n2 c2, .slice a3 n3 c3, .int .i64 G.start] 26)
  rw [p5] at hO
  have hn : walkP G q ⟨t.drop at_, [], []⟩ non = none := by
    rcases hbad with rfl | ⟨i, hi, hb⟩
    · exact walkP_nil (by show t.drop t.length = []; exact List.drop_eq_nil_of_le (Nat.le_refl _))
    · cases q with
      | zero => rfl
      | succ q => exact walkP_bad (rest := t.drop (at_ + 1)) (drop_get hi) hb
  have Hn := Lib.hid hn
  have Hg := Lib.hid hg
  have Ht := Lib.hid ht
  clear hb1 hbox p5 hn hB0 hg ht
  have fin : ∀ (W : World) (w0 : World), Below w.heap.size w W → NodeRet G q at_ non t w (.returned (.agg #[.int .i64 0, .slice none 0 0, .int .i64 0, .slice none 0 0])) W := fun W _ hb => ⟨hb, .inl ⟨Hn.out, rfl⟩⟩
  have Hfin := Lib.hid fin
  clear fin
  go_enter Tryz.func78, Tryz.ntmps78
  have ⟨z5, z0, z1, z2, z3⟩ := hbx1
  simp only [] at z0 z1 z2 z3
  go_wp2_with fail
  generalize (w.alloc (.cells #[.slice a1 n1 c1, .slice a2 n2 c2, .slice a3 n3 c3, .int .i64 G.start] 26)).alloc (.cells #[.int .i64 0, .slice none 0 0, .int .i64 0, .slice none 0 0] 73) = W0 at *
  have hfz := hO.frozen
  have f0 := hfz 0
  have f1 := hfz 1
  have f2 := hfz 2
  have f3 := hfz 3
  clear hfz
  have bc := bl_cell W0
  have bf := bl_frozen W0
  have hs0 : w.heap.size ≤ W0.heap.size := hB1.size
  have hlO : w.heap.size + 1 < W0.heap.size := hO.lt
  have HO := Lib.hid hO
  have HB1 := Lib.hid hB1
  have hbd := Lib.hid hbad
  clear hO hB1 hbx1 hbad
  by_cases hal : at_ = t.length
  case' pos =>
    subst hal
    clear hbd
    refine wp_region_below (by kernel_rfl) (by kernel_rfl) ?_
    repeat (go_big_quiet_step (fail))
    refine wpQuiet_nil ?_
    rintro _ ⟨x, rfl⟩
  case' neg =>
    have hlt : at_ < t.length := by omega
    obtain ⟨b, off, i, rfl, hb, Hi, q0⟩ := Ht.out.get hlt
    rw [← HB1.out.cell (p := ⟨b, off + at_, none⟩) hb] at q0
    have hb' : b < W0.heap.size := by omega
    have hd0 : decide (t.length ≤ at_) = false := by rw [decide_eq_false_iff_not]; omega
    have Hbd : Hid (∀ r, ruleAt G i = some r → r.left ≠ non) := by
      rcases hbd.out with h0 | ⟨i', hi', h0⟩
      · exact absurd h0 hal
      · rw [Hi.out] at hi'
        injection hi' with hi'
        subst hi'
        exact Lib.hid h0
    clear hbd hal
    by_cases hi0 : i < 0
    case' pos =>
      refine wp_region_below (by kernel_rfl) (by kernel_rfl) ?_
      repeat (go_big_quiet_step (fail))
      refine wpQuiet_nil ?_
      rintro _ ⟨x, rfl⟩
    case' neg =>
      by_cases hi3 : (n3 : Int) ≤ i
      case' pos =>
        refine wp_region_below (by kernel_rfl) (by kernel_rfl) ?_
        repeat (go_big_quiet_step (fail))
        refine wpQuiet_nil ?_
        rintro _ ⟨x, rfl⟩
      case' neg =>
        obtain ⟨ir, rfl⟩ : ∃ ir : Nat, i = (ir : Int) := ⟨i.toNat, by omega⟩
        have hir : ir < n3 := by omega
        obtain ⟨rb, roff, r, Arr, crr, rfl, hrb, Hr0, w0c, w1c, w2c, hri⟩ := Hg.out.rules.get hir
        rw [← HB1.out.cell (p := ⟨rb, roff + ir * 3, none⟩) hrb] at w0c
        have hrat : ruleAt G (ir : Int) = some r := by
          unfold ruleAt
          rw [if_pos (by omega), Int.toNat_natCast]
          exact Hr0.out
        have hne : (r.left != non) = true := by rw [bne_iff_ne]; exact Hbd.out r hrat
        have hrb' : rb < W0.heap.size := by omega
        have hd1 : decide (n3 ≤ ir) = false := by rw [decide_eq_false_iff_not]; omega
        clear hrat w1c w2c hri
        generalize r.left = rl at *
        refine wp_region_below (by kernel_rfl) (by kernel_rfl) ?_
        repeat (go_big_quiet_step (fail))
        refine wpQuiet_nil ?_
        rintro _ ⟨x, rfl⟩
  all_goals
    have hO2 := HO.out.ext (bl_below W0 x)
    have g0 := hO2.frozen 0
    have g1 := hO2.frozen 1
    have g2 := hO2.frozen 2
    have g3 := hO2.frozen 3
    have k0 : (bl W0 x).cell? ⟨w.heap.size + 1, 0, none⟩ = some (.int .i64 0) := hO2.cell 0
    have k1 : (bl W0 x).cell? ⟨w.heap.size + 1, 1, none⟩ = some (.slice none 0 0) := hO2.cell 1
    have k2 : (bl W0 x).cell? ⟨w.heap.size + 1, 2, none⟩ = some (.int .i64 0) := hO2.cell 2
    have k3' : (bl W0 x).cell? ⟨w.heap.size + 1, 3, none⟩ = some (.slice none 0 0) := hO2.cell 3
    have HB2 := Lib.hid (below_tail HB1.out (bl_below W0 x))
    have HO2 := Lib.hid hO2
    clear hO2
    generalize bl W0 x = W2 at *
    go_wp2_with fail
    refine bodyPost_ret (results_cell_row (p := 8) (by kernel_rfl) _ _ (w.heap.size + 1) 73 #[.int .i64 0, .slice none 0 0, .int .i64 0, .slice none 0 0] (0, 0) _ rfl ((((HO2.out.set 0 (.int .i64 0)).set 1 (.slice none 0 0)).set 2 (.int .i64 0)).set 3 (.slice none 0 0)) Tryz.underlying73 rfl (by kernel_rfl)) rfl ?_
    exact Hfin.out _ w (below_set (below_set (below_set (below_set HB2.out _ _ _ (by omega)) _ _ _ (by omega)) _ _ _ (by omega)) _ _ _ (by omega))
end Go.Proofs.YtfdbpafenhdkbaaGreat
