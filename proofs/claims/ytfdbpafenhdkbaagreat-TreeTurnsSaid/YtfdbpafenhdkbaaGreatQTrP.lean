/- trees, plainly: who goes through rules, and what is left; where a walker lies in memory. -/
import Derived.Test.YtfdbpafenhdkbaaGreatQPs15
namespace Go.Proofs.YtfdbpafenhdkbaaGreat
open Go.RowKit
set_option linter.unusedVariables false
set_option linter.unusedSimpArgs false

/-- what a walker holds: the rules to come, the word, the reductions -/
structure WSt where
  rest : List Int
  word : List Int
  posts : List Int
/-- the symbols of a right side, one behind the other -/
def symsP (f : WSt → Int → Option (WSt × Nat)) : List Int → WSt → Nat → Option (WSt × Nat)
  | [], st, top => some (st, top)
  | s :: ss, st, top =>
    if 0 ≤ s then symsP f ss { st with word := st.word ++ [s] } top
    else match f st (-1 - s) with
      | none => none
      | some (st', n) => symsP f ss st' (max top n)
/-- the rule of a number -/
def ruleAt (G : Gr) (i : Int) : Option Rul := if 0 ≤ i then G.rules[i.toNat]? else none
/-- a nonterminal's tree, where there is one: what is left, and its height -/
def walkP (G : Gr) : Nat → WSt → Int → Option (WSt × Nat)
  | 0, _, _ => none
  | q + 1, st, non =>
    match st.rest with
    | [] => none
    | i :: rest =>
      match ruleAt G i with
      | none => none
      | some r =>
        if r.left = non then
          (symsP (walkP G q) r.right { st with rest := rest } 0).map fun x => ({ x.1 with posts := x.1.posts ++ [i] }, x.2 + 1)
        else none
theorem ruleAt_some {G : Gr} {i : Int} {r : Rul} (h : ruleAt G i = some r) : ∃ j : Nat, i = (j : Int) ∧ G.rules[j]? = some r := by
  unfold ruleAt at h
  split at h
  · exact ⟨i.toNat, by omega, h⟩
  · cases h

/-- a walker in memory: its rules to come lie there since w0 -/
structure Wr (w0 w : World) (p : Nat) (h : GH) (gs : Int) (Ar : Option Addr) (cr : Nat) (Aw : Option Addr) (cw : Nat) (Ap : Option Addr) (cp : Nat) (st : WSt) : Prop where
  blk : Blk w p 71 #[.slice h.a1 h.n1 h.c1, .slice h.a2 h.n2 h.c2, .slice h.a3 h.n3 h.c3, .int .i64 gs, .slice Ar st.rest.length cr, .slice Aw st.word.length cw, .slice Ap st.posts.length cp]
  rest : Ints .i64 w0 Ar st.rest.length cr st.rest
  word : w.ownsRow (p + 1) 3 1 (.slice Aw st.word.length cw) st.word.length (ints .i64 st.word)
  posts : w.ownsRow (p + 1) 3 1 (.slice Ap st.posts.length cp) st.posts.length (ints .i64 st.posts)
  apart : ∀ b, (Value.slice Aw st.word.length cw).ownBlock = some b → (Value.slice Ap st.posts.length cp).ownBlock = some b → False
theorem Wr.lt {w0 w : World} {p : Nat} {h : GH} {gs : Int} {Ar Aw Ap : Option Addr} {cr cw cp : Nat} {st : WSt} (k : Wr w0 w p h gs Ar cr Aw cw Ap cp st) : p < w.heap.size := k.blk.lt
theorem Wr.cells {w0 w : World} {p : Nat} {h : GH} {gs : Int} {Ar Aw Ap : Option Addr} {cr cw cp : Nat} {st : WSt} (k : Wr w0 w p h gs Ar cr Aw cw Ap cp st) : p < w.heap.size ∧ w.cell? ⟨p, 2, none⟩ = some (.slice h.a3 h.n3 h.c3) ∧ w.cell? ⟨p, 4, none⟩ = some (.slice Ar st.rest.length cr) ∧ w.cell? ⟨p, 5, none⟩ = some (.slice Aw st.word.length cw) ∧ w.cell? ⟨p, 6, none⟩ = some (.slice Ap st.posts.length cp) ∧
    w.frozen? ⟨p, 4, none⟩ = false ∧ w.frozen? ⟨p, 5, none⟩ = false ∧ w.frozen? ⟨p, 6, none⟩ = false :=
  ⟨k.blk.lt, k.blk.cell 2, k.blk.cell 4, k.blk.cell 5, k.blk.cell 6, k.blk.frozen 4, k.blk.frozen 5, k.blk.frozen 6⟩
/-- one rule less to come -/
theorem Wr.next {w0 w : World} {p : Nat} {h : GH} {gs : Int} {Ar Aw Ap : Option Addr} {cr cw cp : Nat} {st : WSt} (k : Wr w0 w p h gs Ar cr Aw cw Ap cp st) {rest : List Int} {A' : Option Addr} {c' : Nat} (hr : Ints .i64 w0 A' rest.length c' rest) :
    Wr w0 (w.setCell ⟨p, 4, none⟩ (.slice A' rest.length c')) p h gs A' c' Aw cw Ap cp { st with rest := rest } ∧ Below p w (w.setCell ⟨p, 4, none⟩ (.slice A' rest.length c')) := by
  have hset : ∀ b, b ≠ p → (w.setCell ⟨p, 4, none⟩ (.slice A' rest.length c')).heap[b]? = w.heap[b]? := fun b hb => Below.heap_setCell w ⟨p, 4, none⟩ _ b hb
  refine ⟨⟨k.blk.set 4 _, hr, own_kept k.word fun b hb _ _ => hset b (by omega), own_kept k.posts fun b hb _ _ => hset b (by omega), k.apart⟩, grown_is_below (grown_set _ _ _ _) (Nat.le_of_lt k.lt) (Nat.le_refl _)⟩
/-- a symbol of the word more -/
theorem Wr.putW {w0 w w1 : World} {p : Nat} {h : GH} {gs : Int} {Ar Aw Ap : Option Addr} {cr cw cp : Nat} {st : WSt} (k : Wr w0 w p h gs Ar cr Aw cw Ap cp st) (s : Int) (A' : Option Addr) (c' : Nat)
    (ho : w1.ownsRow (p + 1) 3 1 (.slice A' (st.word.length + 1) c') (st.word.length + 1) (ints .i64 st.word ++ [.int .i64 s])) (hg : w.grownBy w1 (Value.slice Aw st.word.length cw).ownBlock)
    (ha : ∀ b, (Value.slice A' (st.word.length + 1) c').ownBlock = some b → b < w.heap.size → (Value.slice Aw st.word.length cw).ownBlock = some b) :
    Wr w0 (w1.setCell ⟨p, 5, none⟩ (.slice A' (st.word.length + 1) c')) p h gs Ar cr A' c' Ap cp { st with word := st.word ++ [s] } ∧ Below p w (w1.setCell ⟨p, 5, none⟩ (.slice A' (st.word.length + 1) c')) := by
  have hset : ∀ b, b ≠ p → (w1.setCell ⟨p, 5, none⟩ (.slice A' (st.word.length + 1) c')).heap[b]? = w1.heap[b]? := fun b hb => Below.heap_setCell w1 ⟨p, 5, none⟩ _ b hb
  have hlen : (st.word ++ [s]).length = st.word.length + 1 := by simp
  have hsz := hg.size
  refine ⟨⟨?_, k.rest, ?_, ?_, ?_⟩, ?_⟩
  · have hb1 := k.blk.grown hg fun e => by have := (k.word.lt p e.symm).1; omega
    have := hb1.set 5 (.slice A' (st.word.length + 1) c')
    rw [hlen]
    exact this
  · rw [hlen, ints_snoc]
    exact own_kept ho fun b hb _ _ => hset b (by omega)
  · exact own_kept k.posts fun b hb h2 hlt => (hset b (by omega)).trans (hg.block b hlt fun e => k.apart b e.symm h2)
  · rw [hlen]
    intro b h1 h2
    exact k.apart b (ha b h1 (k.posts.lt b h2).2) h2
  · refine ⟨hg.os, hg.tape, hg.output, by simpa using hsz, fun b hb => (hset b (by omega)).trans (hg.block b (Nat.lt_trans hb k.lt) fun e => ?_)⟩
    have := (k.word.lt b e.symm).1
    omega
/-- a reduction more -/
theorem Wr.putP {w0 w w1 : World} {p : Nat} {h : GH} {gs : Int} {Ar Aw Ap : Option Addr} {cr cw cp : Nat} {st : WSt} (k : Wr w0 w p h gs Ar cr Aw cw Ap cp st) (s : Int) (A' : Option Addr) (c' : Nat)
    (ho : w1.ownsRow (p + 1) 3 1 (.slice A' (st.posts.length + 1) c') (st.posts.length + 1) (ints .i64 st.posts ++ [.int .i64 s])) (hg : w.grownBy w1 (Value.slice Ap st.posts.length cp).ownBlock)
    (ha : ∀ b, (Value.slice A' (st.posts.length + 1) c').ownBlock = some b → b < w.heap.size → (Value.slice Ap st.posts.length cp).ownBlock = some b) :
    Wr w0 (w1.setCell ⟨p, 6, none⟩ (.slice A' (st.posts.length + 1) c')) p h gs Ar cr Aw cw A' c' { st with posts := st.posts ++ [s] } ∧ Below p w (w1.setCell ⟨p, 6, none⟩ (.slice A' (st.posts.length + 1) c')) := by
  have hset : ∀ b, b ≠ p → (w1.setCell ⟨p, 6, none⟩ (.slice A' (st.posts.length + 1) c')).heap[b]? = w1.heap[b]? := fun b hb => Below.heap_setCell w1 ⟨p, 6, none⟩ _ b hb
  have hlen : (st.posts ++ [s]).length = st.posts.length + 1 := by simp
  have hsz := hg.size
  refine ⟨⟨?_, k.rest, ?_, ?_, ?_⟩, ?_⟩
  · have hb1 := k.blk.grown hg fun e => by have := (k.posts.lt p e.symm).1; omega
    have := hb1.set 6 (.slice A' (st.posts.length + 1) c')
    rw [hlen]
    exact this
  · exact own_kept k.word fun b hb h2 hlt => (hset b (by omega)).trans (hg.block b hlt fun e => k.apart b h2 e.symm)
  · rw [hlen, ints_snoc]
    exact own_kept ho fun b hb _ _ => hset b (by omega)
  · rw [hlen]
    intro b h1 h2
    exact k.apart b h1 (ha b h2 (k.word.lt b h1).2)
  · refine ⟨hg.os, hg.tape, hg.output, by simpa using hsz, fun b hb => (hset b (by omega)).trans (hg.block b (Nat.lt_trans hb k.lt) fun e => ?_)⟩
    have := (k.posts.lt b e.symm).1
    omega
/-- what a walk of q rules at most may come to: a state that has grown as it may -/
structure Came (N : Nat) (st st' : WSt) : Prop where
  rest : st'.rest.length ≤ st.rest.length
  word : st'.word.length + 6 * st'.rest.length ≤ N
  posts : st'.posts.length + st'.rest.length ≤ st.posts.length + st.rest.length
end Go.Proofs.YtfdbpafenhdkbaaGreat

namespace Go.Proofs.YtfdbpafenhdkbaaGreat
open Go.RowKit
set_option linter.unusedVariables false
set_option linter.unusedSimpArgs false

/-- what is left is no more than what was there -/
structure Less (st st' : WSt) : Prop where
  rest : st'.rest.length ≤ st.rest.length
  word : st'.word.length + 6 * st'.rest.length ≤ st.word.length + 6 * st.rest.length
  posts : st'.posts.length + st'.rest.length ≤ st.posts.length + st.rest.length
theorem Less.refl (st : WSt) : Less st st := ⟨Nat.le_refl _, Nat.le_refl _, Nat.le_refl _⟩
/-- a walk has come back -/
def Walked (w0 : World) (G : Gr) (q p : Nat) (h : GH) (gs : Int) (st : WSt) (non : Int) (w : World) (e : Ending) (w' : World) : Prop :=
  ∃ Ar cr Aw cw Ap cp st', Wr w0 w' p h gs Ar cr Aw cw Ap cp st' ∧ Below p w w' ∧ Less st st' ∧
    ((walkP G q st non = none ∧ e = .returned (.int .i64 0)) ∨ (∃ n : Nat, walkP G q st non = some (st', n) ∧ 0 < n ∧ n ≤ q ∧ e = .returned (.int .i64 (n : Int))))
theorem walkP_nil {G : Gr} {q : Nat} {st : WSt} {non : Int} (h : st.rest = []) : walkP G q st non = none := by
  cases q with
  | zero => rfl
  | succ q =>
    unfold walkP
    rw [h]
theorem walkP_bad {G : Gr} {q : Nat} {st : WSt} {non i : Int} {rest : List Int} (h : st.rest = i :: rest) (hb : ∀ r, ruleAt G i = some r → r.left ≠ non) : walkP G (q + 1) st non = none := by
  unfold walkP
  rw [h]
  simp only
  split
  · rfl
  · rename_i r hr
    rw [if_neg (hb r hr)]
theorem symsP_word {f : WSt → Int → Option (WSt × Nat)} {l : List Int} {k top : Nat} {st : WSt} {s : Int} (hs : l[k]? = some s) (h0 : 0 ≤ s) : symsP f (l.drop k) st top = symsP f (l.drop (k + 1)) { st with word := st.word ++ [s] } top := by
  rw [drop_get hs, symsP, if_pos h0]
theorem symsP_none {f : WSt → Int → Option (WSt × Nat)} {l : List Int} {k top : Nat} {st : WSt} {s : Int} (hs : l[k]? = some s) (h0 : ¬ 0 ≤ s) (hf : f st (-1 - s) = none) : symsP f (l.drop k) st top = none := by
  rw [drop_get hs, symsP, if_neg h0, hf]
theorem symsP_some {f : WSt → Int → Option (WSt × Nat)} {l : List Int} {k top n : Nat} {st st' : WSt} {s : Int} (hs : l[k]? = some s) (h0 : ¬ 0 ≤ s) (hf : f st (-1 - s) = some (st', n)) : symsP f (l.drop k) st top = symsP f (l.drop (k + 1)) st' (max top n) := by
  rw [drop_get hs, symsP, if_neg h0, hf]
theorem walkP_good {G : Gr} {q : Nat} {st : WSt} {non i : Int} {rest : List Int} {r : Rul} (h : st.rest = i :: rest) (hr : ruleAt G i = some r) (hl : r.left = non) :
    walkP G (q + 1) st non = (symsP (walkP G q) r.right { st with rest := rest } 0).map fun x => ({ x.1 with posts := x.1.posts ++ [i] }, x.2 + 1) := by
  rw [walkP, h]
  simp only
  rw [hr]
  simp only
  rw [if_pos hl]

set_option maxRecDepth 20000 in
set_option maxHeartbeats 2000000 in
theorem tr_walk (w0 : World) (h : GH) (G : Gr) (gs : Int) (hg : GrAt w0 h G) (hfit : G.Fits) (p : Nat) (hp0 : w0.heap.size ≤ p) : ∀ (q : Nat) (st : WSt) (non : Int) (w : World) (Ar : Option Addr) (cr : Nat) (Aw : Option Addr) (cw : Nat) (Ap : Option Addr) (cp : Nat),
    q ≤ 400 → st.rest.length ≤ q → st.word.length + 6 * st.rest.length ≤ 4000 → st.posts.length + st.rest.length ≤ 4000 → -100 ≤ non → non ≤ 100 → Below w0.heap.size w0 w → Wr w0 w p h gs Ar cr Aw cw Ap cp st →
    Calls Tryz.prog 77 #[.pointer (some ⟨p, 0, none⟩), .int .i64 non] w (Walked w0 G q p h gs st non w) := by
  intro q
  induction q with
  | zero =>
    intro st non w Ar cr Aw cw Ap cp hq hr hwl hpl hn1 hn2 hB k
    have hnil : st.rest = [] := List.eq_nil_of_length_eq_zero (by omega)
    obtain ⟨hp, z2, z4, z5, z6, v4, v5, v6⟩ := k.cells
    have hl0 : st.rest.length = 0 := by rw [hnil]; rfl
    rw [hl0] at z4
    have Hk := Lib.hid k
    have Hn := Lib.hid (walkP_nil (G := G) (q := 0) (non := non) hnil)
    clear k hnil hr hwl hpl hl0
    go_enter Tryz.func77, Tryz.ntmps77
    go_wp2_with fail
    go_ret
    exact ⟨Ar, cr, Aw, cw, Ap, cp, st, Hk.out, Below.refl _ _, Less.refl _, .inl ⟨Hn.out, rfl⟩⟩
  | succ q ih =>
    intro st non w Ar cr Aw cw Ap cp hq hr hwl hpl hn1 hn2 hB k
    obtain ⟨hp, z2, z4, z5, z6, v4, v5, v6⟩ := k.cells
    cases hrs : st.rest with
    | nil =>
      have hl0 : st.rest.length = 0 := by rw [hrs]; rfl
      rw [hl0] at z4
      have Hk := Lib.hid k
      have Hn := Lib.hid (walkP_nil (G := G) (q := q + 1) (non := non) hrs)
      clear k hrs hr hwl hpl hl0 ih
      go_enter Tryz.func77, Tryz.ntmps77
      go_wp2_with fail
      go_ret
      exact ⟨Ar, cr, Aw, cw, Ap, cp, st, Hk.out, Below.refl _ _, Less.refl _, .inl ⟨Hn.out, rfl⟩⟩
    | cons i rest =>
      have hrest := k.rest
      have hl1 : st.rest.length = rest.length + 1 := by rw [hrs]; rfl
      have hcap := hrest.cap
      obtain ⟨b, off, i', rfl, hb, Hi', q0⟩ := hrest.get (j := 0) (by omega)
      obtain rfl : i = i' := by
        have := Hi'.out
        rw [hrs] at this
        simpa using this
      rw [Nat.add_zero, ← hB.cell (p := ⟨b, off, none⟩) hb] at q0
      rw [hl1] at z4
      obtain ⟨a1, n1, c1, a2, n2, c2, a3, n3, c3⟩ := h
      have e3 : G.rules.length = n3 := hg.rules.len
      have hn3 : n3 ≤ 40 := by have := hfit.n3; omega
      have k3 := hg.rules.cap
      simp only [] at z2 k3
      have Hk := Lib.hid k
      have Hrs := Lib.hid hrs
      have Hg := Lib.hid hg
      have Hfit := Lib.hid hfit
      have HB := Lib.hid hB
      have Hrest := Lib.hid hrest
      have IH := Lib.hid ih
      clear k hrs hg hfit hB hrest ih Hi'
      by_cases hi0 : i < 0
      · have Hn : Hid (walkP G (q + 1) st non = none) := Lib.hid (walkP_bad Hrs.out fun r hr => by
          obtain ⟨j, hj, _⟩ := ruleAt_some hr
          omega)
        go_enter Tryz.func77, Tryz.ntmps77
        go_wp2_with fail
        go_ret
        exact ⟨_, cr, Aw, cw, Ap, cp, st, Hk.out, Below.refl _ _, Less.refl _, .inl ⟨Hn.out, rfl⟩⟩
      by_cases hi3 : (n3 : Int) ≤ i
      · have Hn : Hid (walkP G (q + 1) st non = none) := Lib.hid (walkP_bad Hrs.out fun r hr => by
          obtain ⟨j, hj, hj2⟩ := ruleAt_some hr
          have := (List.getElem?_eq_some_iff.1 hj2).1
          omega)
        go_enter Tryz.func77, Tryz.ntmps77
        go_wp2_with fail
        go_ret
        exact ⟨_, cr, Aw, cw, Ap, cp, st, Hk.out, Below.refl _ _, Less.refl _, .inl ⟨Hn.out, rfl⟩⟩
      obtain ⟨ir, rfl⟩ : ∃ ir : Nat, i = (ir : Int) := ⟨i.toNat, by omega⟩
      have hir : ir < n3 := by omega
      obtain ⟨rb, roff, r, Arr, crr, rfl, hrb, Hr0, w0c, w1c, w2c, hri⟩ := Hg.out.rules.get hir
      rw [← HB.out.cell (p := ⟨rb, roff + ir * 3, none⟩) hrb] at w0c
      have hrat : ruleAt G (ir : Int) = some r := by
        unfold ruleAt
        rw [if_pos (by omega), Int.toNat_natCast]
        exact Hr0.out
      by_cases hleft : r.left = non
      case neg =>
        have hne : (r.left != non) = true := by rw [bne_iff_ne]; exact hleft
        have Hn : Hid (walkP G (q + 1) st non = none) := Lib.hid (walkP_bad Hrs.out fun r' hr' => by
          rw [hrat] at hr'
          injection hr' with hr'
          rw [← hr']
          exact hleft)
        clear hrat hleft
        generalize r.left = rl at *
        go_enter Tryz.func77, Tryz.ntmps77
        go_wp2_with fail
        go_ret
        exact ⟨_, cr, Aw, cw, Ap, cp, st, Hk.out, Below.refl _ _, Less.refl _, .inl ⟨Hn.out, rfl⟩⟩
      case pos =>
        rw [hleft] at w0c
        have Hgd := Lib.hid (walkP_good (q := q) Hrs.out hrat hleft)
        rw [← HB.out.cell (p := ⟨rb, roff + ir * 3 + 1, none⟩) hrb] at w1c
        have hrbp : rb ≠ p := by omega
        have hrm := List.mem_of_getElem? Hr0.out
        have hlen := Hfit.out.len r hrm
        have hsym := Hfit.out.sym r hrm
        have hfn := Hfit.out.n2
        have hft := Hfit.out.n1
        have hcapr := hri.cap
        have hT := Hrest.out.tail 1 (by omega)
        rw [show st.rest.length - 1 = rest.length by omega, show st.rest.drop 1 = rest by rw [Hrs.out]; rfl] at hT
        have Hri := Lib.hid hri
        have HT := Lib.hid hT
        have hiA : (Tryz.prog.info? 3).map (fun i => (i.zero, i.size, i.bytes)) = some (some (.int .i64 0), 1, 8) := by kernel_rfl
        have HiA := Lib.hid hiA
        have hsb : ∀ s ∈ r.right, -16 ≤ s ∧ s < 24 := fun s hs => by have := hsym s hs; omega
        have Hsb := Lib.hid hsb
        clear hrat hleft hrm hsym hri hT hiA hsb
        generalize r.right = right at *
        obtain ⟨A1, hA1⟩ : ∃ A1, (if cr = 1 then some (⟨b, off, none⟩ : Addr) else some ⟨b, off + 1, none⟩) = A1 := ⟨_, rfl⟩
        rw [hA1] at HT
        have hnx := Hk.out.next HT.out
        have Hnx := Lib.hid hnx
        have hci : (cr = 1 ∧ A1 = some ⟨b, off, none⟩) ∨ (¬ cr = 1 ∧ A1 = some ⟨b, off + 1, none⟩) := by
          by_cases hc : cr = 1
          · exact .inl ⟨hc, by rw [← hA1, if_pos hc]⟩
          · exact .inr ⟨hc, by rw [← hA1, if_neg hc]⟩
        clear hnx hA1
        rcases hci with ⟨hc1, rfl⟩ | ⟨hc1, rfl⟩
        case' inl =>
          have hrl0 : rest.length = 0 := by omega
          subst hc1
          rw [hrl0] at Hnx
          go_enter Tryz.func77, Tryz.ntmps77
          go_wp2_with fail
          obtain ⟨hk1, hb1⟩ := Hnx.out
          generalize w.setCell ⟨p, 4, none⟩ (.slice (some ⟨b, off, none⟩) 0 (1 - 1)) = W1 at *
          clear hrl0
        case' inr =>
          go_enter Tryz.func77, Tryz.ntmps77
          go_wp2_with fail
          obtain ⟨hk1, hb1⟩ := Hnx.out
          generalize w.setCell ⟨p, 4, none⟩ (.slice (some ⟨b, off + 1, none⟩) rest.length (cr - 1)) = W1 at *
        all_goals
          have Hk1 := Lib.hid hk1
          have Hb1 := Lib.hid hb1
          clear hk1 hb1 Hnx
          go_loopw [6, 65] (fun v6 v65 wr => ∃ (k top : Nat) (st2 : WSt) (Ar2 : Option Addr) (cr2 : Nat) (Aw2 : Option Addr) (cw2 : Nat) (Ap2 : Option Addr) (cp2 : Nat), v6 = .int .i64 (top : Int) ∧ v65 = .int .i64 (k : Int) ∧ k ≤ right.length ∧ top ≤ q ∧ st2.rest.length ≤ rest.length ∧
              st2.word.length + 6 * st2.rest.length + (right.length - k) ≤ st.word.length + 6 * (rest.length + 1) ∧ st2.posts.length + st2.rest.length + 1 ≤ st.posts.length + (rest.length + 1) ∧ Hid (Wr w0 wr p ⟨a1, n1, c1, a2, n2, c2, some ⟨rb, roff, none⟩, n3, c3⟩ gs Ar2 cr2 Aw2 cw2 Ap2 cp2 st2) ∧ Hid (Below p W1 wr) ∧
              Hid (symsP (walkP G q) right { st with rest := rest } 0 = symsP (walkP G q) (right.drop k) st2 top)) (fun _ v _ => right.length - (intOf v).toNat)
          case atStart =>
            exact ⟨0, 0, _, _, _, _, _, _, _, rfl, rfl, Nat.zero_le _, Nat.zero_le _, Nat.le_refl _, by simp only []; omega, by simp only []; omega, Hk1, Lib.hid (Below.refl _ _), Lib.hid rfl⟩
          case round =>
            obtain ⟨k, top, st2, Ar2, cr2, Aw2, cw2, Ap2, cp2, rfl, rfl, hk, htop, m1, m2, m3, Hkr, HBr, Hsy⟩ := hrel
            have hBw : Below p w wr := Hb1.out.trans HBr.out
            have HBw := Lib.hid hBw
            have HB0 := Lib.hid (HB.out.trans (hBw.mono hp0))
            obtain ⟨hpr, y2, y4, y5, y6, u4, u5, u6⟩ := Hkr.out.cells
            clear hBw
            by_cases hkl : k < right.length
            case neg =>
              have hkr : k = right.length := by omega
              have Hfin : Hid (walkP G (q + 1) st non = some ({ st2 with posts := st2.posts ++ [(ir : Int)] }, top + 1)) := Lib.hid (by
                rw [Hgd.out, Hsy.out, List.drop_eq_nil_of_le (by omega), symsP]
                rfl)
              have HoP := Lib.hid Hkr.out.posts
              have Hri0 := Lib.hid hkr
              subst hkr
              go_wp2_with (first
                | (at_builtin; refine wpl_appendT rfl _ _ 32 rfl (p + 1) 3 _ 1 8 Tryz.underlying32 HiA.out (by decide) (by decide) Ap2 st2.posts.length cp2 (ints .i64 st2.posts) rfl HoP.out [.int .i64 (ir : Int)] rfl rfl (by simp [Value.oneCell']) (by omega) (by omega) (by omega) ?_; intro A4 c4 w4 ho hgr ha
                   have b4 := Hkr.out.blk.grown hgr (by intro e; have := (HoP.out.lt p e.symm).1; omega)
                   have x5 : w4.cell? ⟨p, 6, none⟩ = some (.slice Ap2 st2.posts.length cp2) := b4.cell 6
                   have x6 := b4.frozen 6
                   have Hput := Lib.hid (Hkr.out.putP (ir : Int) A4 c4 ho hgr ha)
                   clear b4 ho hgr ha))
              go_ret
              have hpl2 : (st2.posts ++ [(ir : Int)]).length = st2.posts.length + 1 := by simp
              refine ⟨Ar2, cr2, Aw2, cw2, A4, c4, { st2 with posts := st2.posts ++ [(ir : Int)] }, Hput.out.1, HBw.out.trans Hput.out.2, ⟨?_, ?_, ?_⟩, .inr ⟨top + 1, Hfin.out, by omega, by omega, ?_⟩⟩
              · show st2.rest.length ≤ st.rest.length
                omega
              · show st2.word.length + 6 * st2.rest.length ≤ st.word.length + 6 * st.rest.length
                omega
              · show (st2.posts ++ [(ir : Int)]).length + st2.rest.length ≤ st.posts.length + st.rest.length
                rw [hpl2]
                omega
              · first
                  | rfl
                  | (congr 2; omega)
            case pos =>
              obtain ⟨sb, so, s, rfl, hsb, Hs, qs⟩ := (Hri.out.below HB0.out).get hkl
              have hs16 := Hsb.out s (List.mem_of_getElem? Hs.out)
              by_cases h0 : 0 ≤ s
              case pos =>
                have HoW := Lib.hid Hkr.out.word
                have Hp0 := Lib.hid h0
                go_wp2_with (first
                  | (at_builtin; refine wpl_appendT rfl _ _ 32 rfl (p + 1) 3 _ 1 8 Tryz.underlying32 HiA.out (by decide) (by decide) Aw2 st2.word.length cw2 (ints .i64 st2.word) rfl HoW.out [.int .i64 s] rfl rfl (by simp [Value.oneCell']) (by omega) (by omega) (by omega) ?_; intro A4 c4 w4 ho hgr ha
                     have b4 := Hkr.out.blk.grown hgr (by intro e; have := (HoW.out.lt p e.symm).1; omega)
                     have x5 : w4.cell? ⟨p, 5, none⟩ = some (.slice Aw2 st2.word.length cw2) := b4.cell 5
                     have x6 := b4.frozen 5
                     have Hput := Lib.hid (Hkr.out.putW s A4 c4 ho hgr ha)
                     clear b4 ho hgr ha))
                have hwl : (st2.word ++ [s]).length = st2.word.length + 1 := by simp
                go_roundw
                case rel => exact ⟨k + 1, top, { st2 with word := st2.word ++ [s] }, Ar2, cr2, A4, c4, Ap2, cp2, rfl, by go_num, by omega, htop, m1, by show (st2.word ++ [s]).length + 6 * st2.rest.length + (right.length - (k + 1)) ≤ st.word.length + 6 * (rest.length + 1); rw [hwl]; omega, m3, Lib.hid Hput.out.1, Lib.hid (HBr.out.trans Hput.out.2), Lib.hid (by rw [Hsy.out, symsP_word Hs.out (by have := Hp0.out; omega)])⟩
                case measure => simp [intOf]; omega
              case neg =>
                have Hn0 := Lib.hid h0
                have hw1 : IntKind.i64.wrap (-1 - s) = -1 - s := IntWalk.i64_in _ (by omega)
                have CI := Lib.hid (IH.out st2 (-1 - s) wr Ar2 cr2 Aw2 cw2 Ap2 cp2 (by omega) (by omega) (by omega) (by omega) (by omega) (by omega) HB0.out Hkr.out)
                go_wp2_with fail
                (with_reducible refine CI.out.mono ?_)
                rintro e w5 ⟨Ar5, cr5, Aw5, cw5, Ap5, cp5, st5, k5, hB5, hL5, ⟨hn, rfl⟩ | ⟨n, hn, hn1, hn2, rfl⟩⟩
                · have Hfin : Hid (walkP G (q + 1) st non = none) := Lib.hid (by rw [Hgd.out, Hsy.out, symsP_none Hs.out (by have := Hn0.out; omega) hn]; rfl)
                  have Hk5 := Lib.hid k5
                  have HB5 := Lib.hid hB5
                  have L1 := hL5.rest
                  have L2 := hL5.word
                  have L3 := hL5.posts
                  clear k5 hB5 hL5 hn
                  go_wp2_with fail
                  go_ret
                  exact ⟨Ar5, cr5, Aw5, cw5, Ap5, cp5, st5, Hk5.out, HBw.out.trans HB5.out, ⟨by omega, by omega, by omega⟩, .inl ⟨Hfin.out, rfl⟩⟩
                · have Hsn := Lib.hid (symsP_some (top := top) Hs.out (by have := Hn0.out; omega) hn)
                  have Hk5 := Lib.hid k5
                  have HB5 := Lib.hid hB5
                  have L1 := hL5.rest
                  have L2 := hL5.word
                  have L3 := hL5.posts
                  have hnz : ((n : Int) == 0) = false := by rw [beq_eq_false_iff_ne]; omega
                  clear k5 hB5 hL5 hn
                  go_wp2_with fail
                  refine ⟨⟨k + 1, max top n, st5, Ar5, cr5, Aw5, cw5, Ap5, cp5, by rw [show max (top : Int) (n : Int) = ((max top n : Nat) : Int) by omega], by go_num, by omega, by omega, by omega, by omega, by omega, Hk5, Lib.hid (HBr.out.trans HB5.out), Lib.hid (by rw [Hsy.out, Hsn.out])⟩, ?_⟩
                  simp [intOf]
                  omega
end Go.Proofs.YtfdbpafenhdkbaaGreat

namespace Go.Proofs.YtfdbpafenhdkbaaGreat
open Go.RowKit
set_option linter.unusedVariables false
set_option linter.unusedSimpArgs false

/-- a tree's word, reductions, height, where rules are one -/
def readT (G : Gr) (t : List Int) : Option (List Int × List Int × Nat) :=
  if G.right && decide (t.length ≤ 300) then
    match walkP G t.length ⟨t, [], []⟩ G.start with
    | none => none
    | some (st, n) => if st.rest = [] then some (st.word, st.posts, n) else none
  else none
/-- a walker that has been through a tree -/
def WellRead (w' : World) (p : Nat) (wd ps : List Int) : Prop :=
  ∃ Aw cw Ap cp, w'.cell? ⟨p, 5, none⟩ = some (.slice Aw wd.length cw) ∧ w'.cell? ⟨p, 6, none⟩ = some (.slice Ap ps.length cp) ∧ Ints .i64 w' Aw wd.length cw wd ∧ Ints .i64 w' Ap ps.length cp ps

set_option maxRecDepth 20000 in
set_option maxHeartbeats 2000000 in
theorem tr_read (h : GH) (G : Gr) (At : Option Addr) (n c : Nat) (t : List Int) (w : World) (hg : GrAt w h G) (hs : ∀ t ∈ G.terms, t.name.size ≤ maxLen) (ht : Ints .i64 w At n c t) (hn2 : n ≤ 400) (h1 : h.n1 ≤ 100) (h2 : h.n2 ≤ 100) (h3 : h.n3 ≤ 100) :
    Calls Tryz.prog 53 #[GV h G.start, .slice At n c] w fun e w' => Below w.heap.size w w' ∧
      ((readT G t = none ∧ ∃ a, e = .returned (.tuple #[.pointer a, .int .i64 0])) ∨ (∃ wd ps k p, readT G t = some (wd, ps, k) ∧ 0 < k ∧ k ≤ 400 ∧ e = .returned (.tuple #[.pointer (some ⟨p, 0, none⟩), .int .i64 (k : Int)]) ∧ p < w'.heap.size ∧ WellRead w' p wd ps)) := by
  obtain rfl := ht.len
  have hcap := ht.cap
  obtain ⟨a1, n1, c1, a2, n2, c2, a3, n3, c3⟩ := h
  simp only [] at h1 h2 h3
  have hB0 := alloc_below w (.cells #[.slice a1 n1 c1, .slice a2 n2 c2, .slice a3 n3 c3, .int .i64 G.start] 26)
  have hbox := GBox.new w 26 ⟨a1, n1, c1, a2, n2, c2, a3, n3, c3⟩ G.start
  have Hg := Lib.hid hg
  have Ht := Lib.hid ht
  have CR := Lib.hid (cf_Right ⟨a1, n1, c1, a2, n2, c2, a3, n3, c3⟩ G _ (hg.below hB0) hs (by simp only []; omega) (by simp only []; omega))
  clear hg ht hs
  go_enter Tryz.func53, Tryz.ntmps53
  go_wp2_with fail
  generalize w.alloc (.cells #[.slice a1 n1 c1, .slice a2 n2 c2, .slice a3 n3 c3, .int .i64 G.start] 26) = W0 at *
  (with_reducible refine CR.out.mono ?_)
  rintro e W1 ⟨rfl, hb1⟩
  have hB1 := below_tail hB0 hb1
  have hbx1 := hbox.below hb1
  have ⟨y5, y0, y1, y2, y3⟩ := hbx1
  simp only [] at y0 y1 y2 y3
  rcases hrt : G.right with _ | _
  · have Hn : Hid (readT G t = none) := Lib.hid (by unfold readT; rw [hrt]; rfl)
    clear hrt
    go_wp2_with fail
    refine bodyPost_ret (results_tmp2 rfl _ _ _) rfl ?_
    exact ⟨hB1, .inl ⟨Hn.out, _, rfl⟩⟩
  by_cases h300 : (300 : Int) < (t.length : Int)
  · have Hn : Hid (readT G t = none) := Lib.hid (by unfold readT; rw [hrt, show decide (t.length ≤ 300) = false by rw [decide_eq_false_iff_not]; omega]; rfl)
    clear hrt
    go_wp2_with fail
    refine bodyPost_ret (results_tmp2 rfl _ _ _) rfl ?_
    exact ⟨hB1, .inl ⟨Hn.out, _, rfl⟩⟩
  have hfit := Gr.fits hrt
  have hst := hfit.st
  have hfn := hfit.n2
  have Hd : Hid (readT G t = match walkP G t.length ⟨t, [], []⟩ G.start with | none => none | some (st, n) => if st.rest = [] then some (st.word, st.posts, n) else none) := Lib.hid (by
    unfold readT
    rw [hrt, show decide (t.length ≤ 300) = true by rw [decide_eq_true_iff]; omega]
    rfl)
  have hk : Wr w (W1.alloc (.cells #[.slice a1 n1 c1, .slice a2 n2 c2, .slice a3 n3 c3, .int .i64 G.start, .slice At t.length c, .slice none 0 0, .slice none 0 0] 71)) W1.heap.size ⟨a1, n1, c1, a2, n2, c2, a3, n3, c3⟩ G.start At c none 0 none 0 ⟨t, [], []⟩ :=
    ⟨Blk.new _ _ _, Ht.out, World.ownsRow_nil _ _ _ _, World.ownsRow_nil _ _ _ _, fun b hb _ => by cases hb⟩
  have hB2 := below_alloc hB1 (.cells #[.slice a1 n1 c1, .slice a2 n2 c2, .slice a3 n3 c3, .int .i64 G.start, .slice At t.length c, .slice none 0 0, .slice none 0 0] 71)
  have CW := Lib.hid (tr_walk w ⟨a1, n1, c1, a2, n2, c2, a3, n3, c3⟩ G G.start Hg.out hfit W1.heap.size hB1.size t.length ⟨t, [], []⟩ G.start _ At c none 0 none 0 (by omega) (Nat.le_refl _) (by show 0 + 6 * t.length ≤ 4000; omega) (by show 0 + t.length ≤ 4000; omega) (by omega) (by omega) hB2 hk)
  have hlt1 : w.heap.size ≤ W1.heap.size := hB1.size
  clear hrt hfit hk
  go_wp2_with fail
  have HB1 := Lib.hid hB1
  have HB2 := Lib.hid hB2
  generalize W1.alloc (.cells #[.slice a1 n1 c1, .slice a2 n2 c2, .slice a3 n3 c3, .int .i64 G.start, .slice At t.length c, .slice none 0 0, .slice none 0 0] 71) = W2 at *
  generalize W1.heap.size = p at *
  clear hB1 hB2
  (with_reducible refine CW.out.mono ?_)
  rintro e w3 ⟨Ar3, cr3, Aw3, cw3, Ap3, cp3, st3, k3, hB3, hL3, hres⟩
  obtain ⟨hp3, z2, z4, z5, z6, _, _, _⟩ := k3.cells
  have HBf := Lib.hid (HB2.out.trans (hB3.mono hlt1))
  have hwr : WellRead w3 p st3.word st3.posts := ⟨Aw3, cw3, Ap3, cp3, z5, z6, own_sl k3.word, own_sl k3.posts⟩
  have Hwr := Lib.hid hwr
  clear k3 hB3 hL3 hwr
  by_cases hr0 : st3.rest = []
  · have hl0 : st3.rest.length = 0 := by rw [hr0]; rfl
    rw [hl0] at z4
    rcases hres with ⟨hn, rfl⟩ | ⟨k, hn, hk0, hkq, rfl⟩
    · have Hn : Hid (readT G t = none) := Lib.hid (by rw [Hd.out, hn])
      clear hn hr0 hl0
      go_wp2_with fail
      refine bodyPost_ret (results_tmp2 rfl _ _ _) rfl ?_
      exact ⟨HBf.out, .inl ⟨Hn.out, _, rfl⟩⟩
    · have Hn : Hid (readT G t = some (st3.word, st3.posts, k)) := Lib.hid (by rw [Hd.out, hn]; exact if_pos hr0)
      clear hn hr0 hl0
      go_wp2_with fail
      refine bodyPost_ret (results_tmp2 rfl _ _ _) rfl ?_
      exact ⟨HBf.out, .inr ⟨_, _, k, p, Hn.out, hk0, by omega, rfl, hp3, Hwr.out⟩⟩
  · have hl0 : 0 < st3.rest.length := List.length_pos_iff.2 hr0
    have Hn : Hid (readT G t = none) := Lib.hid (by
      rcases hres with ⟨hn, _⟩ | ⟨k, hn, _⟩
      · rw [Hd.out, hn]
      · rw [Hd.out, hn]; exact if_neg hr0)
    generalize st3.rest.length = rl at *
    rcases hres with ⟨_, rfl⟩ | ⟨k, _, _, _, rfl⟩
    all_goals
      clear hr0
      go_wp2_with fail
      refine bodyPost_ret (results_tmp2 rfl _ _ _) rfl ?_
      exact ⟨HBf.out, .inl ⟨Hn.out, _, rfl⟩⟩
end Go.Proofs.YtfdbpafenhdkbaaGreat

namespace Go.Proofs.YtfdbpafenhdkbaaGreat
open Go.RowKit
set_option linter.unusedVariables false
set_option linter.unusedSimpArgs false

set_option maxRecDepth 20000 in
set_option maxHeartbeats 1000000 in
theorem tr_Right (h : GH) (G : Gr) (At : Option Addr) (n c : Nat) (t : List Int) (w : World) (hg : GrAt w h G) (hs : ∀ t ∈ G.terms, t.name.size ≤ maxLen) (ht : Ints .i64 w At n c t) (hn2 : n ≤ 400) (h1 : h.n1 ≤ 100) (h2 : h.n2 ≤ 100) (h3 : h.n3 ≤ 100) :
    Calls Tryz.prog 30 #[GV h G.start, .slice At n c] w fun e w' => Below w.heap.size w w' ∧
      e = .returned (.bool (readT G t).isSome) := by
  have hB0 := alloc_below w (.cells #[.slice h.a1 h.n1 h.c1, .slice h.a2 h.n2 h.c2, .slice h.a3 h.n3 h.c3, .int .i64 G.start] 26)
  have CR := Lib.hid (tr_read h G At n c t _ (hg.below hB0) hs (ht.below hB0) hn2 h1 h2 h3)
  have hHB := Lib.hid hB0
  clear hg hs ht
  go_enter Tryz.func30, Tryz.ntmps30
  go_wp2_with fail
  generalize w.alloc (.cells #[.slice h.a1 h.n1 h.c1, .slice h.a2 h.n2 h.c2, .slice h.a3 h.n3 h.c3, .int .i64 G.start] 26) = W0 at *
  (with_reducible refine CR.out.mono ?_)
  rintro e W1 ⟨hb1, ⟨hn, a, rfl⟩ | ⟨wd, ps, k, p, hn, hk0, hk4, rfl, hp, hwr⟩⟩
  · have HB := Lib.hid (below_tail hHB.out hb1)
    have Hn := Lib.hid hn
    clear hn hb1 hB0
    go_wp2_with fail
    go_ret
    exact ⟨HB.out, by rw [Hn.out]; rfl⟩
  · have HB := Lib.hid (below_tail hHB.out hb1)
    have Hn := Lib.hid hn
    obtain ⟨Aw, cw, Ap, cp, z5, z6, hwi, hpi⟩ := hwr
    have Hwi := Lib.hid hwi
    have Hpi := Lib.hid hpi
    have hkz : ((k : Int) == 0) = false := by rw [beq_eq_false_iff_ne]; omega
    clear hn hb1 hB0 hwi hpi
    go_wp2_with fail
    go_ret
    exact ⟨HB.out, by rw [Hn.out]; simp <;> omega⟩

set_option maxRecDepth 20000 in
set_option maxHeartbeats 1000000 in
theorem tr_Word (h : GH) (G : Gr) (At : Option Addr) (n c : Nat) (t : List Int) (w : World) (hg : GrAt w h G) (hs : ∀ t ∈ G.terms, t.name.size ≤ maxLen) (ht : Ints .i64 w At n c t) (hn2 : n ≤ 400) (h1 : h.n1 ≤ 100) (h2 : h.n2 ≤ 100) (h3 : h.n3 ≤ 100) :
    Calls Tryz.prog 25 #[GV h G.start, .slice At n c] w fun e w' => Below w.heap.size w w' ∧
      ((readT G t = none ∧ e = .returned (.tuple #[.slice none 0 0, .int .i64 1])) ∨ (∃ wd ps k A c', readT G t = some (wd, ps, k) ∧ e = .returned (.tuple #[.slice A wd.length c', .int .i64 0]) ∧ Ints .i64 w' A wd.length c' wd)) := by
  have hB0 := alloc_below w (.cells #[.slice h.a1 h.n1 h.c1, .slice h.a2 h.n2 h.c2, .slice h.a3 h.n3 h.c3, .int .i64 G.start] 26)
  have CR := Lib.hid (tr_read h G At n c t _ (hg.below hB0) hs (ht.below hB0) hn2 h1 h2 h3)
  have hHB := Lib.hid hB0
  clear hg hs ht
  go_enter Tryz.func25, Tryz.ntmps25
  go_wp2_with fail
  generalize w.alloc (.cells #[.slice h.a1 h.n1 h.c1, .slice h.a2 h.n2 h.c2, .slice h.a3 h.n3 h.c3, .int .i64 G.start] 26) = W0 at *
  (with_reducible refine CR.out.mono ?_)
  rintro e W1 ⟨hb1, ⟨hn, a, rfl⟩ | ⟨wd, ps, k, p, hn, hk0, hk4, rfl, hp, hwr⟩⟩
  · have HB := Lib.hid (below_tail hHB.out hb1)
    have Hn := Lib.hid hn
    clear hn hb1 hB0
    go_wp2_with fail
    refine bodyPost_ret (results_tmp2 rfl _ _ _) rfl ?_
    exact ⟨HB.out, .inl ⟨Hn.out, rfl⟩⟩
  · have HB := Lib.hid (below_tail hHB.out hb1)
    have Hn := Lib.hid hn
    obtain ⟨Aw, cw, Ap, cp, z5, z6, hwi, hpi⟩ := hwr
    have Hwi := Lib.hid hwi
    have Hpi := Lib.hid hpi
    have hkz : ((k : Int) == 0) = false := by rw [beq_eq_false_iff_ne]; omega
    clear hn hb1 hB0 hwi hpi
    go_wp2_with fail
    refine bodyPost_ret (results_tmp2 rfl _ _ _) rfl ?_
    exact ⟨HB.out, .inr ⟨wd, ps, k, Aw, cw, Hn.out, rfl, Hwi.out⟩⟩

set_option maxRecDepth 20000 in
set_option maxHeartbeats 1000000 in
theorem tr_Height (h : GH) (G : Gr) (At : Option Addr) (n c : Nat) (t : List Int) (w : World) (hg : GrAt w h G) (hs : ∀ t ∈ G.terms, t.name.size ≤ maxLen) (ht : Ints .i64 w At n c t) (hn2 : n ≤ 400) (h1 : h.n1 ≤ 100) (h2 : h.n2 ≤ 100) (h3 : h.n3 ≤ 100) :
    Calls Tryz.prog 27 #[GV h G.start, .slice At n c] w fun e w' => Below w.heap.size w w' ∧
      ((readT G t = none ∧ e = .returned (.tuple #[.int .i64 0, .int .i64 1])) ∨ (∃ wd ps k, readT G t = some (wd, ps, k) ∧ e = .returned (.tuple #[.int .i64 ((k : Nat) : Int), .int .i64 0]))) := by
  have hB0 := alloc_below w (.cells #[.slice h.a1 h.n1 h.c1, .slice h.a2 h.n2 h.c2, .slice h.a3 h.n3 h.c3, .int .i64 G.start] 26)
  have CR := Lib.hid (tr_read h G At n c t _ (hg.below hB0) hs (ht.below hB0) hn2 h1 h2 h3)
  have hHB := Lib.hid hB0
  clear hg hs ht
  go_enter Tryz.func27, Tryz.ntmps27
  go_wp2_with fail
  generalize w.alloc (.cells #[.slice h.a1 h.n1 h.c1, .slice h.a2 h.n2 h.c2, .slice h.a3 h.n3 h.c3, .int .i64 G.start] 26) = W0 at *
  (with_reducible refine CR.out.mono ?_)
  rintro e W1 ⟨hb1, ⟨hn, a, rfl⟩ | ⟨wd, ps, k, p, hn, hk0, hk4, rfl, hp, hwr⟩⟩
  · have HB := Lib.hid (below_tail hHB.out hb1)
    have Hn := Lib.hid hn
    clear hn hb1 hB0
    go_wp2_with fail
    refine bodyPost_ret (results_tmp2 rfl _ _ _) rfl ?_
    exact ⟨HB.out, .inl ⟨Hn.out, rfl⟩⟩
  · have HB := Lib.hid (below_tail hHB.out hb1)
    have Hn := Lib.hid hn
    obtain ⟨Aw, cw, Ap, cp, z5, z6, hwi, hpi⟩ := hwr
    have Hwi := Lib.hid hwi
    have Hpi := Lib.hid hpi
    have hkz : ((k : Int) == 0) = false := by rw [beq_eq_false_iff_ne]; omega
    clear hn hb1 hB0 hwi hpi
    go_wp2_with fail
    refine bodyPost_ret (results_tmp2 rfl _ _ _) rfl ?_
    exact ⟨HB.out, .inr ⟨wd, ps, k, Hn.out, rfl⟩⟩

set_option maxRecDepth 20000 in
set_option maxHeartbeats 1000000 in
theorem tr_Reductions (h : GH) (G : Gr) (At : Option Addr) (n c : Nat) (t : List Int) (w : World) (hg : GrAt w h G) (hs : ∀ t ∈ G.terms, t.name.size ≤ maxLen) (ht : Ints .i64 w At n c t) (hn2 : n ≤ 400) (h1 : h.n1 ≤ 100) (h2 : h.n2 ≤ 100) (h3 : h.n3 ≤ 100) :
    Calls Tryz.prog 32 #[GV h G.start, .slice At n c] w fun e w' => Below w.heap.size w w' ∧
      ((readT G t = none ∧ e = .returned (.tuple #[.slice none 0 0, .int .i64 1])) ∨ (∃ wd ps k A c', readT G t = some (wd, ps, k) ∧ e = .returned (.tuple #[.slice A ps.length c', .int .i64 0]) ∧ Ints .i64 w' A ps.length c' ps)) := by
  have hB0 := alloc_below w (.cells #[.slice h.a1 h.n1 h.c1, .slice h.a2 h.n2 h.c2, .slice h.a3 h.n3 h.c3, .int .i64 G.start] 26)
  have CR := Lib.hid (tr_read h G At n c t _ (hg.below hB0) hs (ht.below hB0) hn2 h1 h2 h3)
  have hHB := Lib.hid hB0
  clear hg hs ht
  go_enter Tryz.func32, Tryz.ntmps32
  go_wp2_with fail
  generalize w.alloc (.cells #[.slice h.a1 h.n1 h.c1, .slice h.a2 h.n2 h.c2, .slice h.a3 h.n3 h.c3, .int .i64 G.start] 26) = W0 at *
  (with_reducible refine CR.out.mono ?_)
  rintro e W1 ⟨hb1, ⟨hn, a, rfl⟩ | ⟨wd, ps, k, p, hn, hk0, hk4, rfl, hp, hwr⟩⟩
  · have HB := Lib.hid (below_tail hHB.out hb1)
    have Hn := Lib.hid hn
    clear hn hb1 hB0
    go_wp2_with fail
    refine bodyPost_ret (results_tmp2 rfl _ _ _) rfl ?_
    exact ⟨HB.out, .inl ⟨Hn.out, rfl⟩⟩
  · have HB := Lib.hid (below_tail hHB.out hb1)
    have Hn := Lib.hid hn
    obtain ⟨Aw, cw, Ap, cp, z5, z6, hwi, hpi⟩ := hwr
    have Hwi := Lib.hid hwi
    have Hpi := Lib.hid hpi
    have hkz : ((k : Int) == 0) = false := by rw [beq_eq_false_iff_ne]; omega
    clear hn hb1 hB0 hwi hpi
    go_wp2_with fail
    refine bodyPost_ret (results_tmp2 rfl _ _ _) rfl ?_
    exact ⟨HB.out, .inr ⟨wd, ps, k, Ap, cp, Hn.out, rfl, Hpi.out⟩⟩
end Go.Proofs.YtfdbpafenhdkbaaGreat
