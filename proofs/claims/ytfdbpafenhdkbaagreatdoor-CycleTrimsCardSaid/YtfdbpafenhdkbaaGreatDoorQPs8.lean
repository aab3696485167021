/- the reference's reading: a source, of tokens and of a text. -/
import Derived.Test.YtfdbpafenhdkbaaGreatDoorQPs7
import Derived.Deep.RegionLaw
namespace Go.Proofs.YtfdbpafenhdkbaaGreatDoor
open Go.RowKit
set_option linter.unusedVariables false
set_option linter.unusedSimpArgs false
/-- 'append' of some elements of some cells, that lie elsewhere, as one step of a region that draws its order -/
theorem step_appendM {P : Program} {ops : Array Oper} {o : Oper} {a : Act} {w : World} {K : Act → World → Prop} {Q : Exit → Act → World → Prop} {E : Prop} (hgd : o.guard = none) (s x : Operand) (t : TypeId)
    (ho : o.op = .call { callee := .builtin .append, args := #[s, x], argTypes := #[t, t] })
    (base : Nat) (e : TypeId) (z : Value) (size bytes : Nat) (ht : P.underlying t = some (.slice e))
    (hi : (P.info? e).map (fun i => (i.zero, i.size, i.bytes)) = some (some z, size, bytes)) (hz1 : z.cells.size = size) (hsz0 : 0 < size)
    (A : Option Addr) (n c : Nat) (xs : List Value) (hs : a.eval s = .slice A n c) (hown : w.ownsRow base e size (.slice A n c) n xs)
    (ad : Addr) (m c2 : Nat) (news : List Value) (hl : news.length = m * size) (hx : a.eval x = .slice (some ad) m c2) (hcells : ∀ j u, news[j]? = some u → w.cell? (ad.add j) = some u) (h1 : ∀ u ∈ news, u.oneCell' = true)
    (h63 : n + m ≤ 9223372036854775807) (hbytes : (n + m) * bytes ≤ 140737488355328) (hbase : base ≤ w.heap.size)
    (h : ∀ A' c' w', w'.ownsRow base e size (.slice A' (n + m) c') (n + m) (xs ++ news) → w.grownBy w' (Value.slice A n c).ownBlock → (∀ b, (Value.slice A' (n + m) c').ownBlock = some b → b < w.heap.size → (Value.slice A n c).ownBlock = some b) →
      K (a.put o.dst (.slice A' (n + m) c')) w') : if Region.wanted o (yielded ops a.tmps) = true then Oper.wp P o a w K Q else E := by
  have hw : Region.wanted o (yielded ops a.tmps) = true := by simp [Region.wanted, hgd]
  rw [if_pos hw]
  obtain ⟨i, hi', hz, hsz, hby⟩ := info_parts hi
  obtain ⟨v', w', hrun, h3, h4, _, h5⟩ := run_append_own_at (P := P) w base t o.type e i z size bytes ht hi' hz hsz hby hz1 hsz0 _ n xs hown ad m c2 news hl hcells h1 (by simpa [maxLen] using h63) hbytes hbase
  obtain ⟨A', c', rfl⟩ := own_formS h3
  have h5' : ∀ b, (Value.slice A' (n + m) c').ownBlock = some b → b < w.heap.size → (Value.slice A n c).ownBlock = some b := by
    intro b hb hlt
    rcases h5 with h5 | h5
    · rw [← h5]; exact hb
    · rw [h5] at hb; injection hb with hb; omega
  unfold Oper.wp execOp
  simp only [ho, resolve, invoke, builtin, Sem.run_bind, Sem.run_pure, Result.andThen_ok, List.map_toArray, List.map_cons, List.map_nil, hs, hx, hrun]
  exact h A' c' w' h3 h4 h5'
theorem altsP_pos {L : ByteArray} {q : Nat} {us : List Tk} {more : List Prd} {rest : List Tk} (h : altsP L q us = some (more, rest)) : 0 < more.length ∧ more.length + rest.length ≤ us.length := by
  induction q generalizing us more rest with
  | zero => cases h
  | succ q ih =>
    have hl := spanS_len us
    obtain ⟨u, us3, hsp, h1 | h1⟩ := altsP_step h
    · unfold altsP at h
      by_cases h2 : headK (spanS us).2 = 11
      · rw [if_pos h2, Option.map_eq_some_iff] at h
        obtain ⟨⟨m, r⟩, h3, h4⟩ := h
        simp only [Prod.mk.injEq] at h4
        obtain ⟨rfl, rfl⟩ := h4
        have := ih h3
        rw [hsp] at hl this
        simp only [List.length_cons, List.tail_cons] at hl this ⊢
        omega
      · rw [hsp] at h2
        exact absurd h1.1 h2
    · obtain ⟨_, rfl, rfl⟩ := h1
      rw [hsp] at hl
      simp only [List.length_cons, List.length_nil] at hl ⊢
      omega
theorem groupP_pos {q : Nat} {us : List Tk} {more : List Prd} {rest : List Tk} (h : groupP q us = some (more, rest)) : 0 < more.length ∧ more.length + rest.length < us.length := by
  match us, h with
  | a :: b :: ts, h =>
    have h : (if a.1 = 1 ∧ b.1 = 10 then altsP a.2 q ts else none) = some (more, rest) := h
    split at h
    · have := altsP_pos h
      simp only [List.length_cons]
      omega
    · cases h
theorem groupsP_step {q : Nat} {us : List Tk} {more : List Prd} (h : groupsP q us = some more) :
    (us = [] ∧ more = []) ∨ (∃ u us', us = u :: us' ∧ u.1 ≠ 9 ∧ ∃ q' ps rest m2, groupP q' us = some (ps, rest) ∧ groupsP q' rest = some m2 ∧ more = ps ++ m2) := by
  cases q with
  | zero => cases h
  | succ q =>
    cases us with
    | nil =>
      injection h with h
      exact .inl ⟨rfl, h.symm⟩
    | cons u us =>
      refine .inr ⟨u, us, rfl, ?_⟩
      have h : (if u.1 = 9 then none else match groupP q (u :: us) with | none => none | some (ps, rest) => (groupsP q rest).map (ps ++ ·)) = some more := h
      by_cases h9 : u.1 = 9
      · rw [if_pos h9] at h; cases h
      · rw [if_neg h9] at h
        refine ⟨h9, ?_⟩
        split at h
        · cases h
        · rename_i ps rest hg
          rw [Option.map_eq_some_iff] at h
          obtain ⟨m2, h1, h2⟩ := h
          exact ⟨q, ps, rest, m2, hg, h1, h2.symm⟩
/-- the cells of a row of one's own, where it has some -/
theorem own_cells {w : World} {base e size n c : Nat} {A : Option Addr} {xs : List Value} (h : w.ownsRow base e size (.slice A n c) n xs) (hn : 0 < n) : ∃ g, A = some ⟨g, 0, none⟩ ∧ base ≤ g ∧ g < w.heap.size ∧ ∀ j u, xs[j]? = some u → w.cell? ((⟨g, 0, none⟩ : Addr).add j) = some u := by
  rcases h.2 with ⟨hv, rfl⟩ | ⟨g, cap, cur, hv, hb, hg, hnc, hcm, hcs, htake⟩
  · omega
  · injection hv with h1 h2 h3
    subst h1
    have hlt := h.lt g rfl
    exact ⟨g, rfl, hb, hlt.2, h.cells rfl⟩
theorem prdCs_one {w : World} {av : Nat → Prop} {cs : List Value} {ps : List Prd} (h : PrdCs w av cs ps) : ∀ u ∈ cs, u.oneCell' = true := by
  intro u hu
  obtain ⟨i, hi⟩ := List.getElem?_of_mem hu
  have hlt : i < cs.length := (List.getElem?_eq_some_iff.1 hi).1
  rw [h.1] at hlt
  have hj : i / 5 < ps.length := by omega
  obtain ⟨Ar, cr, x, y, x', y', h0, h1, h2, h3, h4, _⟩ := h.2 (i / 5) (ps[i / 5]) (List.getElem?_eq_getElem hj)
  have hm : i % 5 = 0 ∨ i % 5 = 1 ∨ i % 5 = 2 ∨ i % 5 = 3 ∨ i % 5 = 4 := by omega
  rcases hm with hm | hm | hm | hm | hm
  · rw [show i / 5 * 5 + 0 = i by omega, hi] at h0; injection h0 with h0; subst h0; rfl
  · rw [show i / 5 * 5 + 1 = i by omega, hi] at h1; injection h1 with h1; subst h1; rfl
  · rw [show i / 5 * 5 + 2 = i by omega, hi] at h2; injection h2 with h2; subst h2; rfl
  · rw [show i / 5 * 5 + 3 = i by omega, hi] at h3; injection h3 with h3; subst h3; rfl
  · rw [show i / 5 * 5 + 4 = i by omega, hi] at h4; injection h4 with h4; subst h4; rfl
end Go.Proofs.YtfdbpafenhdkbaaGreatDoor

namespace Go.Proofs.YtfdbpafenhdkbaaGreatDoor
open Go.RowKit
set_option linter.unusedVariables false
set_option linter.unusedSimpArgs false

set_option maxRecDepth 20000 in
set_option maxHeartbeats 1000000 in
theorem rd_Of (A : Option Addr) (n c q x y : Nat) (ts : List Tk) (ps : List Prd) (w : World) (h : Toks w w.heap.size A n c ts) (hl : n ≤ 4000) (hs : srcP q ts = some ps) :
    Calls Tryz.prog 72 #[.slice A n c, .complex .f64 x y] w fun e w' => ∃ A' c' cs, e = .returned (.tuple #[.agg #[.slice none 0 0, .slice A' ps.length c'], .complex .f64 0 0, .int .i64 0]) ∧ w'.ownsRow w.heap.size 101 5 (.slice A' ps.length c') ps.length cs ∧ PrdCs w' (fun b => w.heap.size ≤ b) cs ps ∧ Below w.heap.size w w' := by
  obtain rfl := h.1
  obtain ⟨m, us0, ps0, rest0, more0, rfl, hm9, hg0, hgs0, rfl⟩ : ∃ m us0 ps0 rest0 more0, ts = m :: us0 ∧ m.1 = 9 ∧ groupP q us0 = some (ps0, rest0) ∧ groupsP q rest0 = some more0 ∧ ps = ps0 ++ more0 := by
    cases ts with
    | nil => cases hs
    | cons m us =>
      have hs : (if m.1 = 9 then (match groupP q us with | none => none | some (ps, r) => (groupsP q r).map (ps ++ ·)) else none) = some ps := hs
      split at hs
      · rename_i h9
        split at hs
        · cases hs
        · rename_i p0 r0 hg
          rw [Option.map_eq_some_iff] at hs
          obtain ⟨m2, h1, h2⟩ := hs
          exact ⟨m, us, p0, r0, m2, rfl, h9, hg, h1, h2.symm⟩
      · cases hs
  have hcap := h.2.1
  have hcap2 := h.2.2.1
  have ksc : ∀ (w : World) (a : Addr) (k : FloatKind) (x y : Nat) (m : Mode), (store a (.complex k x y) m).run Tryz.prog w = stored Tryz.prog w a (.complex k x y) m := fun w a k x y m => run_store Tryz.prog w a _ m rfl
  have hi5 : (Tryz.prog.info? 101).map (fun i => (i.zero, i.size, i.bytes)) = some (some (.agg #[.string ⟨#[]⟩, .complex .f64 0 0, .slice none 0 0, .string ⟨#[]⟩, .complex .f64 0 0]), 5, 88) := by kernel_rfl
  have Hi := Lib.hid hi5
  have CD := Lib.hid fun (W : World) (p : Nat) (hW : RdAt W p (m :: us0)) => rd_decls p (m :: us0) W hW hm9
  have CT := Lib.hid fun (W : World) (p : Nat) (hW : RdAt W p (m :: us0)) => rd_take p 9 9 m us0 W hW (by simp [isP, hm9])
  have CG := Lib.hid fun (W : World) (p : Nat) (hW : RdAt W p us0) => rd_group p q us0 ps0 rest0 W hW hg0
  have H := Lib.hid h
  have Hg0 := Lib.hid hg0
  have Hgs0 := Lib.hid hgs0
  have hpos := groupP_pos hg0
  have hl2 : us0.length + 1 ≤ 4000 := hl
  clear h hm9 hg0 hgs0 hs hi5
  generalize hN : (m :: us0).length = N at *
  go_enter Tryz.func72, Tryz.ntmps72
  go_wp2_with fail
  have hB1 := below_alloc (alloc_below w (.cells #[.slice none 0 0, .slice none 0 0] 65)) (.cells #[.slice A N c, .complex .f64 x y, .complex .f64 0 0, .int .i64 0] 121)
  have hsz0 : (w.alloc (.cells #[.slice none 0 0, .slice none 0 0] 65)).heap.size = w.heap.size + 1 := alloc_size _ _
  have hbk1 := Blk.new (w.alloc (.cells #[.slice none 0 0, .slice none 0 0] 65)) 121 #[.slice A N c, .complex .f64 x y, .complex .f64 0 0, .int .i64 0]
  have hbkR : Blk (w.alloc (.cells #[.slice none 0 0, .slice none 0 0] 65)) w.heap.size 65 #[.slice none 0 0, .slice none 0 0] := Blk.new w _ _
  have hbkR1 := hbkR.ext (alloc_below _ (.cells #[.slice A N c, .complex .f64 x y, .complex .f64 0 0, .int .i64 0] 121))
  rw [hsz0] at hbk1
  have hr1 : RdAt ((w.alloc (.cells #[.slice none 0 0, .slice none 0 0] 65)).alloc (.cells #[.slice A N c, .complex .f64 x y, .complex .f64 0 0, .int .i64 0] 121)) (w.heap.size + 1) (m :: us0) := by
    have ht := (H.out.wide (Nat.le_succ w.heap.size)).below hB1
    subst hN
    exact ⟨hl, A, c, x, y, 0, 0, hbk1, ht⟩
  generalize (w.alloc (.cells #[.slice none 0 0, .slice none 0 0] 65)).alloc (.cells #[.slice A N c, .complex .f64 x y, .complex .f64 0 0, .int .i64 0] 121) = W1 at *
  generalize hp : w.heap.size + 1 = p at *
  have hpw : w.heap.size < p := by omega
  clear hbk1 hbkR hsz0 hp
  (with_reducible refine (CD.out _ _ hr1).mono ?_)
  rintro e w1 ⟨rfl, rfl⟩
  have hB2 := below_alloc hB1 (.cells #[.slice none 0 0, .slice none 0 0] 65)
  have hr2 := hr1.below (alloc_below W1 (.cells #[.slice none 0 0, .slice none 0 0] 65))
  have hbs2 := Blk.new W1 65 #[.slice none 0 0, .slice none 0 0]
  have hbr2 := hbkR1.ext (alloc_below W1 (.cells #[.slice none 0 0, .slice none 0 0] 65))
  have hp1 := hr1.lt
  have hR1 : w.heap.size < W1.heap.size := hbkR1.lt
  go_wp2_with fail
  generalize W1.alloc (.cells #[.slice none 0 0, .slice none 0 0] 65) = W2 at *
  generalize W1.heap.size = gS at *
  clear hr1 hB1 hbkR1
  (with_reducible refine (CT.out _ _ hr2).mono ?_)
  rintro e W3 ⟨⟨x3, y3, rfl⟩, hr3, hg3⟩
  have hbs3 := hbs2.grown hg3 (by intro e; injection e with e; omega)
  have hbr3 := hbr2.grown hg3 (by intro e; injection e with e; omega)
  have hB3 : Below w.heap.size w W3 := hB2.trans (grown_is_below hg3 hB2.size (by omega))
  have hp3 := hr3.lt
  have hgs3 := hbs3.lt
  clear hr2 hB2 hbs2 hbr2 hg3
  go_wp2_with fail
  (with_reducible refine (CG.out _ _ hr3).mono ?_)
  rintro e w4 ⟨A1, c1, cs1, rfl, ho4, hP4, hr4, hg4⟩
  have hbs4 := hbs3.grown hg4 (by intro e; injection e with e; omega)
  have hbr4 := hbr3.grown hg4 (by intro e; injection e with e; omega)
  have hB4 : Below w.heap.size w w4 := hB3.trans (grown_is_below hg4 hB3.size (by omega))
  have v1 := hbs4.frozen 1
  have z1 : w4.cell? ⟨gS, 1, none⟩ = some (.slice none 0 0) := hbs4.cell 1
  go_wp2_with fail
  have hr5 := hr4.keep (w' := w4.setCell ⟨gS, 1, none⟩ (.slice A1 ps0.length c1)) (by simp) fun k h1 h2 => Below.heap_setCell w4 ⟨gS, 1, none⟩ _ k (show k ≠ gS by omega)
  have ho5 : (w4.setCell ⟨gS, 1, none⟩ (.slice A1 ps0.length c1)).ownsRow W3.heap.size 101 5 (.slice A1 ps0.length c1) ps0.length cs1 := own_kept ho4 fun b hb _ _ => Below.heap_setCell w4 ⟨gS, 1, none⟩ _ b (show b ≠ gS by omega)
  have hP5 : PrdCs (w4.setCell ⟨gS, 1, none⟩ (.slice A1 ps0.length c1)) (fun b => W3.heap.size ≤ b ∧ (Value.slice A1 ps0.length c1).ownBlock ≠ some b) cs1 ps0 := hP4.keep (by simp) fun k hk hav => ⟨Below.heap_setCell w4 ⟨gS, 1, none⟩ _ k (show k ≠ gS by omega), hav⟩
  have hbs5 := hbs4.set 1 (.slice A1 ps0.length c1)
  have hbr5 := hbr4.other gS 1 (.slice A1 ps0.length c1) (by omega)
  have hs5 : W3.heap.size ≤ (w4.setCell ⟨gS, 1, none⟩ (.slice A1 ps0.length c1)).heap.size := by simpa using hg4.size
  have hB5 := below_set hB4 gS 1 (.slice A1 ps0.length c1) (by omega)
  generalize w4.setCell ⟨gS, 1, none⟩ (.slice A1 ps0.length c1) = W5 at *
  have Ho5 := Lib.hid ho5
  have HP5 := Lib.hid hP5
  have Hr5 := Lib.hid hr5
  have HB5 := Lib.hid hB5
  have hbs6 : Blk W5 gS 65 #[.slice none 0 0, .slice A1 ps0.length c1] := hbs5
  have Hbs5 := Lib.hid hbs6
  have Hbr5 := Lib.hid hbr5
  clear ho5 hP5 hr5 hB5 hbs5 hbr5 hbs6 ho4 hP4 hr4 hB4 hbs4 hbr4 hg4 v1 z1 hr3 hB3 hbs3 hbr3
  go_loopw [] (fun wr => ∃ (d c : Nat) (A : Option Addr) (done : List Prd) (us : List Tk) (cs : List Value), d + us.length ≤ 4000 ∧ W3.heap.size ≤ wr.heap.size ∧ Hid (d = done.length) ∧ Hid (∃ q' more, groupsP q' us = some more ∧ done ++ more = ps0 ++ more0) ∧
      Hid (wr.ownsRow W3.heap.size 101 5 (.slice A d c) d cs) ∧ Hid (PrdCs wr (fun b => W3.heap.size ≤ b ∧ (Value.slice A d c).ownBlock ≠ some b) cs done) ∧ Hid (RdAt wr p us) ∧ Hid (Below w.heap.size w wr) ∧
      Hid (Blk wr gS 65 #[.slice none 0 0, .slice A d c]) ∧ Hid (Blk wr w.heap.size 65 #[.slice none 0 0, .slice none 0 0])) (fun wr => remR wr p)
  case atStart => exact ⟨ps0.length, c1, A1, ps0, rest0, cs1, by omega, hs5, Lib.hid rfl, Lib.hid ⟨q, more0, Hgs0.out, rfl⟩, Ho5, HP5, Hr5, HB5, Hbs5, Hbr5⟩
  case round =>
    obtain ⟨d, c, A, done, us, cs, hdu, hsw, Hd, Hq, Ho, Hc, Hr, HB, Hbs, Hbr⟩ := hrel
    obtain ⟨q', more, hq', hdm⟩ := Hq.out
    obtain ⟨A0, c0, x0, y0, x0', y0', _, _, _, r0, r1, r2, r3⟩ := Hr.out.parts
    have k0 : wr.cell? ⟨gS, 0, none⟩ = some (.slice none 0 0) := Hbs.out.cell 0
    have k1 : wr.cell? ⟨gS, 1, none⟩ = some (.slice A d c) := Hbs.out.cell 1
    have m0 := Hbr.out.frozen 0
    have m1 := Hbr.out.frozen 1
    have j0 : wr.cell? ⟨w.heap.size, 0, none⟩ = some (.slice none 0 0) := Hbr.out.cell 0
    have j1 : wr.cell? ⟨w.heap.size, 1, none⟩ = some (.slice none 0 0) := Hbr.out.cell 1
    have hgw : gS ≠ w.heap.size := by omega
    clear Hq
    rcases groupsP_step hq' with ⟨rfl, rfl⟩ | ⟨u, us1, rfl, hu9, q2, ps2, rest2, m2, hg, hgs, rfl⟩
    · have r0' : wr.cell? ⟨p, 0, none⟩ = some (.slice A0 0 c0) := r0
      rw [List.append_nil] at hdm
      clear r0
      go_wp2_with fail
      have hF : Blk ((wr.setCell ⟨w.heap.size, 0, none⟩ (.slice none 0 0)).setCell ⟨w.heap.size, 1, none⟩ (.slice A d c)) w.heap.size 65 #[.slice none 0 0, .slice A d c] := (Hbr.out.set 0 (.slice none 0 0)).set 1 (.slice A d c)
      have hgF : wr.grownBy ((wr.setCell ⟨w.heap.size, 0, none⟩ (.slice none 0 0)).setCell ⟨w.heap.size, 1, none⟩ (.slice A d c)) (some w.heap.size) := grown_trans (grown_set _ _ _ _) (grown_set _ _ _ _)
      refine bodyPost_ret (results_cell2 (p := 4) (u := 5) (v := 6) (by kernel_rfl) _ _ w.heap.size 65 #[.slice none 0 0, .slice A d c] (0, 0) _ rfl hF Tryz.underlying65 rfl (by kernel_rfl)) rfl ?_
      have hW3 : w.heap.size < W3.heap.size := by omega
      rw [← hdm, ← Hd.out]
      refine ⟨A, c, cs, rfl, own_monoS (own_grown Ho.out hgF hW3) (Nat.le_of_lt hW3), Hc.out.keep hgF.size fun k hk hav => ⟨hgF.block k hk (by intro e; injection e with e; have := hav.1; omega), by have := hav.1; omega⟩, below_set (below_set HB.out _ _ _ (Nat.le_refl _)) _ _ _ (Nat.le_refl _)⟩
    · have CK := Lib.hid (rd_kind p (u :: us1) wr Hr.out)
      have CG2 := Lib.hid fun (W : World) (hW : RdAt W p (u :: us1)) => rd_group p q2 (u :: us1) ps2 rest2 W hW hg
      have hpos2 := groupP_pos hg
      have hrem : Hid (rest2.length < remR wr p) := Lib.hid (by rw [Hr.out.rem]; omega)
      have hub : d + ps2.length + rest2.length ≤ 4000 := by omega
      have e9 : (u.1 != 9) = true := by rw [bne_iff_ne]; exact hu9
      have hn0 : 0 < (u :: us1).length := by simp
      have hk0 : headK (u :: us1) = u.1 := rfl
      rw [hk0] at CK
      have Hhg := Lib.hid hgs
      have Hdm := Lib.hid hdm
      have hps0 := hpos2.1
      clear hg hgs hu9 hq' hk0 hdm hpos2
      generalize (u :: us1).length = nu at *
      generalize u.1 = uk at *
      go_wp2_with (go_at_call 101; (with_reducible refine CK.out.mono ?_); rintro e w2 ⟨rfl, rfl⟩)
      go_region_law (first
        | (go_simp; go_at_call 100; refine (CG2.out _ (by exact Hr.out)).mono ?_; rintro e w2 ⟨A2, c2, cs2, rfl, ho2, hP2, hr2, hg2'⟩
           have hg2 : wr.grownBy w2 (some p) := ⟨hg2'.os, hg2'.tape, hg2'.output, hg2'.size, hg2'.block⟩
           obtain ⟨g2, rfl, hge2, hlt2, hcell2⟩ := own_cells ho2 hps0
           have b2 := Hbs.out.grown hg2 (by intro e; injection e with e; omega)
           have z1 : w2.cell? ⟨gS, 1, none⟩ = some (.slice A d c) := b2.cell 1
           have Ho2 := Lib.hid (own_grown Ho.out hg2 hp3)
           have hs2 : W3.heap.size ≤ w2.heap.size := Nat.le_trans hsw hg2.size
           have hcl2 : cs2.length = ps2.length * 5 := hP2.1
           have hone2 := Lib.hid (prdCs_one hP2)
           have Hcell2 := Lib.hid hcell2
           have HP2 := Lib.hid hP2
           have Hr2 := Lib.hid hr2
           have Hb2 := Lib.hid b2
           have Hg2 := Lib.hid hg2
           have Ho22 := Lib.hid ho2
           clear hcell2 hP2 hr2 b2 hg2 hg2' ho2)
        | (refine step_appendM rfl _ _ 63 rfl W3.heap.size 101 _ 5 88 Tryz.underlying63 Hi.out (by decide) (by decide) A d c cs (by simp [Act.eval, Act.put]) Ho2.out ⟨g2, 0, none⟩ ps2.length c2 cs2 hcl2 (by simp [Act.eval, Act.put]) Hcell2.out hone2.out (by omega) (by omega) hs2 ?_; intro A4 c4 w4 ho4 hgr4 ha4
           have b4 := Hb2.out.grown hgr4 (by intro e; have := (Ho2.out.lt gS e.symm).1; omega)
           have y1 : w4.cell? ⟨gS, 1, none⟩ = some (.slice A d c) := b4.cell 1
           have v1 := b4.frozen 1
           have Hb4 := Lib.hid b4
           have Hgr4 := Lib.hid hgr4
           have Ha4 := Lib.hid ha4
           have Ho4 := Lib.hid ho4
           clear b4 hgr4 ha4 ho4))
      all_goals
        have hgX : w4.grownBy (w4.setCell ⟨gS, 1, none⟩ (.slice A4 (d + ps2.length) c4)) (some gS) := grown_set _ _ _ _
        have hAlt : ∀ b, (Value.slice A d c).ownBlock = some b → W3.heap.size ≤ b ∧ b < wr.heap.size := fun b hb => Ho.out.lt b hb
        have s2 := Hg2.out.size
        have s4 := Hgr4.out.size
        have sX := hgX.size
        have HPn : Hid (PrdCs (w4.setCell ⟨gS, 1, none⟩ (.slice A4 (d + ps2.length) c4)) (fun b => W3.heap.size ≤ b ∧ (Value.slice A4 (d + ps2.length) c4).ownBlock ≠ some b) (cs ++ cs2) (done ++ ps2)) := Lib.hid (PrdCs.app
          (Hc.out.keep (by omega) fun k hk hav => ⟨by rw [hgX.block k (by omega) (by intro e; injection e with e; have := hav.1; omega), Hgr4.out.block k (by omega) (fun e => hav.2 e.symm), Hg2.out.block k hk (by intro e; injection e with e; have := hav.1; omega)], hav.1, fun h3 => hav.2 (Ha4.out k h3 (by omega))⟩)
          (HP2.out.keep (by omega) fun k hk hav => ⟨by rw [hgX.block k (by omega) (by intro e; injection e with e; have : wr.heap.size ≤ k := hav.1; omega), Hgr4.out.block k (by omega) (fun e => by have := hAlt k e.symm; have : wr.heap.size ≤ k := hav.1; omega)], Nat.le_trans hsw hav.1, fun h3 => by have := hAlt k (Ha4.out k h3 (by omega)); have : wr.heap.size ≤ k := hav.1; omega⟩))
        have Hon : Hid ((w4.setCell ⟨gS, 1, none⟩ (.slice A4 (d + ps2.length) c4)).ownsRow W3.heap.size 101 5 (.slice A4 (d + ps2.length) c4) (d + ps2.length) (cs ++ cs2)) := Lib.hid (own_grown Ho4.out hgX (by omega))
        have Hrn : Hid (RdAt (w4.setCell ⟨gS, 1, none⟩ (.slice A4 (d + ps2.length) c4)) p rest2) := Lib.hid ((Hr2.out.app Hgr4.out Ho2.out hp3).keep sX fun k h1 h2 => hgX.block k h2 (by intro e; injection e with e; omega))
        have HBn : Hid (Below w.heap.size w (w4.setCell ⟨gS, 1, none⟩ (.slice A4 (d + ps2.length) c4))) := Lib.hid (below_set ((HB.out.trans (grown_is_below Hg2.out HB.out.size (by omega))).trans ⟨Hgr4.out.os, Hgr4.out.tape, Hgr4.out.output, s4, fun k hk => Hgr4.out.block k (by have := HB.out.size; omega) (fun e => by have := (hAlt k e.symm).1; omega)⟩) _ _ _ (by omega))
        have Hbn : Hid (Blk (w4.setCell ⟨gS, 1, none⟩ (.slice A4 (d + ps2.length) c4)) gS 65 #[.slice none 0 0, .slice A4 (d + ps2.length) c4]) := Lib.hid (Hb4.out.set 1 (.slice A4 (d + ps2.length) c4))
        have Hbrn : Hid (Blk (w4.setCell ⟨gS, 1, none⟩ (.slice A4 (d + ps2.length) c4)) w.heap.size 65 #[.slice none 0 0, .slice none 0 0]) := Lib.hid (((Hbr.out.grown Hg2.out (by intro e; injection e with e; omega)).grown Hgr4.out (by intro e; have := (Ho2.out.lt _ e.symm).1; omega)).other gS 1 _ (by omega))
        have Hdn : Hid (d + ps2.length = (done ++ ps2).length) := Lib.hid (by rw [List.length_append, ← Hd.out])
        have Hqn : Hid (∃ q' more, groupsP q' rest2 = some more ∧ (done ++ ps2) ++ more = ps0 ++ more0) := Lib.hid ⟨q2, m2, Hhg.out, by rw [← Hdm.out]; simp⟩
        have Hremn : Hid (remR (w4.setCell ⟨gS, 1, none⟩ (.slice A4 (d + ps2.length) c4)) p = rest2.length) := Lib.hid Hrn.out.rem
        have hsn : W3.heap.size ≤ (w4.setCell ⟨gS, 1, none⟩ (.slice A4 (d + ps2.length) c4)).heap.size := by omega
        clear hAlt hgX s2 s4 sX
        go_wp2_with fail
        go_roundw
        case rel => exact ⟨d + ps2.length, c4, A4, done ++ ps2, rest2, cs ++ cs2, by omega, hsn, Hdn, Hqn, Hon, HPn, Hrn, HBn, Hbn, Hbrn⟩
        case measure => rw [Hremn.out]; exact hrem.out
end Go.Proofs.YtfdbpafenhdkbaaGreatDoor

namespace Go.Proofs.YtfdbpafenhdkbaaGreatDoor
open Go.RowKit
set_option linter.unusedVariables false
set_option linter.unusedSimpArgs false

set_option maxRecDepth 20000 in
set_option maxHeartbeats 1000000 in
theorem rf_Parse (A : Option Addr) (n c q q2 : Nat) (xs : List Nat) (w : World) (h : Nums .u8 w A n c xs) (hb : ∀ x ∈ xs, x < 256) (hn : n ≤ 4000) (ts : List TokP) (hts : toksP xs q 0 = some ts) (hc : cuts ts < 2) (hl : ts.length ≤ 4000) (ps : List Prd) (hs : srcP q2 (ts.map tkOf) = some ps) :
    Calls Tryz.prog 45 #[.slice A n c] w fun e w' => ∃ A' c' cs, e = .returned (.tuple #[.agg #[.slice none 0 0, .slice A' ps.length c'], .complex .f64 0 0, .int .i64 0]) ∧ w'.ownsRow w.heap.size 101 5 (.slice A' ps.length c') ps.length cs ∧ PrdCs w' (fun b => w.heap.size ≤ b) cs ps ∧ Below w.heap.size w w' := by
  have hB0 := alloc_below w (.cells #[.slice none 0 0, .slice none 0 0] 65)
  have hb0 := Blk.new w 65 #[.slice none 0 0, .slice none 0 0]
  have CT := Lib.hid (rf_Tokens A n c q xs _ (h.below hB0) hb hn ts hts hc)
  have hml : (ts.map tkOf).length = ts.length := by simp
  have CO := Lib.hid fun (W : World) (A' : Option Addr) (c' x y : Nat) (hT : Toks W W.heap.size A' ts.length c' (ts.map tkOf)) => rd_Of A' ts.length c' q2 x y (ts.map tkOf) ps W hT hl hs
  have ksc : ∀ (w : World) (a : Addr) (k : FloatKind) (x y : Nat) (m : Mode), (store a (.complex k x y) m).run Tryz.prog w = stored Tryz.prog w a (.complex k x y) m := fun w a k x y m => run_store Tryz.prog w a _ m rfl
  clear h hb hts hc hs hml
  go_enter Tryz.func45, Tryz.ntmps45
  go_wp2_with fail
  generalize w.alloc (.cells #[.slice none 0 0, .slice none 0 0] 65) = W0 at *
  (with_reducible refine CT.out.mono ?_)
  rintro e w1 ⟨A1, c1, x, y, rfl, hT, hB1⟩
  have hb1 := hb0.ext hB1
  have HB1 := Lib.hid (below_tail hB0 hB1)
  go_wp2_with fail
  (with_reducible refine (CO.out w1 A1 c1 x y hT).mono ?_)
  rintro e w2 ⟨A2, c2, cs, rfl, hO, hP, hB2⟩
  have hb2 := hb1.ext hB2
  have HB2 := Lib.hid (below_tail HB1.out hB2)
  have v0 := hb2.frozen 0
  have v1 := hb2.frozen 1
  have z0 : w2.cell? ⟨w.heap.size, 0, none⟩ = some (.slice none 0 0) := hb2.cell 0
  have z1 : w2.cell? ⟨w.heap.size, 1, none⟩ = some (.slice none 0 0) := hb2.cell 1
  go_wp2_with fail
  have hs1 : w.heap.size < w1.heap.size := hb1.lt
  have hF : Blk ((w2.setCell ⟨w.heap.size, 0, none⟩ (.slice none 0 0)).setCell ⟨w.heap.size, 1, none⟩ (.slice A2 ps.length c2)) w.heap.size 65 #[.slice none 0 0, .slice A2 ps.length c2] := (hb2.set 0 (.slice none 0 0)).set 1 (.slice A2 ps.length c2)
  have hgF : w2.grownBy ((w2.setCell ⟨w.heap.size, 0, none⟩ (.slice none 0 0)).setCell ⟨w.heap.size, 1, none⟩ (.slice A2 ps.length c2)) (some w.heap.size) := grown_trans (grown_set _ _ _ _) (grown_set _ _ _ _)
  refine bodyPost_ret (results_cell2 (p := 2) (u := 3) (v := 4) (by kernel_rfl) _ _ w.heap.size 65 #[.slice none 0 0, .slice A2 ps.length c2] (0, 0) _ rfl hF Tryz.underlying65 rfl (by kernel_rfl)) rfl ?_
  exact ⟨A2, c2, cs, rfl, own_monoS (own_grown hO hgF hs1) (Nat.le_of_lt hs1), hP.keep hgF.size fun k hk hav => ⟨hgF.block k hk (by intro e; injection e with e; have : w1.heap.size ≤ k := hav; omega), Nat.le_trans (Nat.le_of_lt hs1) hav⟩, below_set (below_set HB2.out _ _ _ (Nat.le_refl _)) _ _ _ (Nat.le_refl _)⟩
end Go.Proofs.YtfdbpafenhdkbaaGreatDoor
