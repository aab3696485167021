/- yacc: the program's reader: source: the declarations. -/
import Derived.Test.YtdeiipbnaknedaaYQ19
namespace Go.Proofs.Ytdeiipbnaknedaa
open Go.RowKit
set_option linter.unusedVariables false
set_option linter.unusedSimpArgs false

theorem ResY.ways {α : Type} (r : ResY α) : (∃ a l, r = .ok a l) ∨ (∃ pre er, r = .bad pre er) := by
  cases r with
  | ok a l => exact .inl ⟨a, l, rfl⟩
  | bad pre er => exact .inr ⟨pre, er, rfl⟩
theorem own_keptY {w w' : World} {base e m n c : Nat} {A : Option Addr} {xs : List Value} (h : w.ownsRow base e m (.slice A n c) n xs) (hk : ∀ b, base ≤ b → (Value.slice A n c).ownBlock = some b → b < w.heap.size → w'.heap[b]? = w.heap[b]?) : w'.ownsRow base e m (.slice A n c) n xs := by
  refine ⟨h.1, ?_⟩
  rcases h.2 with hn | ⟨g, cap, cur, hv, hbg, hg, rest⟩
  · exact .inl hn
  · refine .inr ⟨g, cap, cur, hv, hbg, ?_, rest⟩
    have hlt : g < w.heap.size := by
      rcases Nat.lt_or_ge g w.heap.size with hlt | hge
      · exact hlt
      · rw [Array.getElem?_eq_none hge] at hg; cases hg
    exact (hk g hbg (by rw [hv]; rfl) hlt).trans hg
/-- declarations that are read: between blocks b0 and B3 -/
structure DclK (w : World) (b0 B3 : Nat) (A : Option Addr) (n c : Nat) (zs : List (WithY DclY)) : Prop where
  own : w.ownsRow b0 46 2 (.slice A n c) n (zs.flatMap dclCells)
  sub : InY DclY.names w (fun b => b0 ≤ b ∧ b < B3) zs
  top : ∀ b, (Value.slice A n c).ownBlock = some b → b < B3
theorem DclK.keep {w w' : World} {b0 B3 n c : Nat} {A : Option Addr} {zs : List (WithY DclY)} (h : DclK w b0 B3 A n c zs) (hs : w.heap.size ≤ w'.heap.size) (hk : ∀ b, b0 ≤ b → b < B3 → b < w.heap.size → w'.heap[b]? = w.heap[b]?) : DclK w' b0 B3 A n c zs :=
  ⟨own_keptY h.own fun b h1 h2 h3 => hk b h1 (h.top b h2) h3, h.sub.keep hs fun b h1 h2 => ⟨hk b h2.1 h2.2 h1, h2⟩, h.top⟩
theorem DclK.grown {w w' : World} {b0 B3 n c p : Nat} {A : Option Addr} {zs : List (WithY DclY)} (h : DclK w b0 B3 A n c zs) (hg : w.grownBy w' (some p)) (hp : p < b0) : DclK w' b0 B3 A n c zs :=
  h.keep hg.size fun b h1 _ h3 => hg.block b h3 (by intro e; injection e with e; omega)
/-- the declarations, one more: it has been laid in a block of its own, and appended -/
theorem dcl_more {W0 wr w2 w4 : World} {p d c n cd c4 b0 : Nat} {A Ad A4 : Option Addr} {e : TypeId} {cs : List Value} {zs : List (WithY DclY)} {en : List Nat} {us : List Tok} (D : DclY) (hD : D.names.length = n)
    (hp : p < b0) (hb0 : b0 ≤ wr.heap.size) (Hg : W0.grownBy wr (some p)) (hW0 : W0.heap.size ≤ b0) (Ho : wr.ownsRow b0 e 2 (.slice A d c) d cs) (Hc : InY DclY.names wr (fun b => b0 ≤ b ∧ (Value.slice A d c).ownBlock ≠ some b) zs)
    (hg2 : wr.grownBy w2 (some p)) (hr2 : YrAt w2 p en us) (ho2 : w2.ownsRow wr.heap.size 40 2 (.slice Ad n cd) n (refsCells D.names)) (o : Obj) (hg4 : (w2.alloc o).grownBy w4 (Value.slice A d c).ownBlock) (ha : ∀ b, (Value.slice A4 (d + 1) c4).ownBlock = some b → b < (w2.alloc o).heap.size → (Value.slice A d c).ownBlock = some b) :
    InY DclY.names w4 (fun b => b0 ≤ b ∧ (Value.slice A4 (d + 1) c4).ownBlock ≠ some b) (zs ++ [⟨D, Ad, cd⟩]) ∧ W0.grownBy w4 (some p) ∧ YrAt w4 p en us := by
  have hga : wr.grownBy (w2.alloc o) (some p) := grown_trans hg2 (grown_below _ (alloc_below w2 o))
  have s1 := Hg.size
  have s2 := hga.size
  have s4 := hg4.size
  have sa : (w2.alloc o).heap.size = w2.heap.size + 1 := alloc_size w2 o
  have hA : ∀ b, (Value.slice A d c).ownBlock = some b → b0 ≤ b ∧ b < wr.heap.size := fun b h => Ho.lt b h
  subst hD
  refine ⟨InY.app (Hc.keep (by omega) fun k hk hav => ?_) (InY.one D ?_ fun b off hb => ?_), ?_, ?_⟩
  · obtain ⟨h1, h2⟩ := hav
    refine ⟨?_, h1, fun h3 => h2 (ha k h3 (by omega))⟩
    rw [hg4.block k (by omega) (fun h => h2 h.symm), hga.block k hk (fun h => by injection h with h; omega)]
  · refine (own_refs rfl ho2).keep (by omega) fun b off hb hlt => ?_
    have h1 := own_at0 ho2 hb
    rw [hg4.block b (by omega) (fun h => by have := (hA b h.symm).2; omega)]
    exact (alloc_below w2 o).block b hlt
  · have h1 := own_at0 ho2 hb
    refine ⟨by omega, by omega, fun h3 => ?_⟩
    have := (hA b (ha b h3 (by omega))).2
    omega
  · refine ⟨hg4.os.trans (hga.os.trans Hg.os), hg4.tape.trans (hga.tape.trans Hg.tape), hg4.output.trans (hga.output.trans Hg.output), by omega, fun k hk hne => ?_⟩
    rw [hg4.block k (by omega) (fun h => by have := (hA k h.symm).1; omega), hga.block k (by omega) hne, Hg.block k hk hne]
  · refine (hr2.below (alloc_below w2 o)).keep s4 fun k h1 h2 => hg4.block k h2 fun h => by have := (hA k h.symm).1; omega
/-- a group's rules are appended -/
theorem prds_more {W0 wr w2 w4 : World} {p d c m c2 c4 B3 : Nat} {A A2 A4 : Option Addr} {e : TypeId} {cs : List Value} {zs zs2 : List (WithY PrdY)} {en : List Nat} {us : List Tok}
    (hp : p < B3) (hb0 : B3 ≤ wr.heap.size) (Hg : W0.grownBy wr (some p)) (hW0 : W0.heap.size ≤ B3) (Ho : wr.ownsRow B3 e 5 (.slice A d c) d cs) (Hc : InY PrdY.right wr (fun b => B3 ≤ b ∧ (Value.slice A d c).ownBlock ≠ some b) zs)
    (hg2 : wr.grownBy w2 (some p)) (hr2 : YrAt w2 p en us) (hP2 : InY PrdY.right w2 (fun b => wr.heap.size ≤ b ∧ (Value.slice A2 m c2).ownBlock ≠ some b) zs2) (hg4 : w2.grownBy w4 (Value.slice A d c).ownBlock) (ha : ∀ b, (Value.slice A4 (d + m) c4).ownBlock = some b → b < w2.heap.size → (Value.slice A d c).ownBlock = some b) :
    InY PrdY.right w4 (fun b => B3 ≤ b ∧ (Value.slice A4 (d + m) c4).ownBlock ≠ some b) (zs ++ zs2) ∧ W0.grownBy w4 (some p) ∧ YrAt w4 p en us := by
  have s1 := Hg.size
  have s2 := hg2.size
  have s4 := hg4.size
  have hA : ∀ b, (Value.slice A d c).ownBlock = some b → B3 ≤ b ∧ b < wr.heap.size := fun b h => Ho.lt b h
  refine ⟨InY.app (Hc.keep (by omega) fun k hk hav => ?_) (hP2.keep s4 fun k hk hav => ?_), ?_, ?_⟩
  · obtain ⟨h1, h2⟩ := hav
    refine ⟨?_, h1, fun h3 => h2 (ha k h3 (by omega))⟩
    rw [hg4.block k (by omega) (fun h => h2 h.symm), hg2.block k hk (fun h => by injection h with h; omega)]
  · obtain ⟨h1, h2⟩ := hav
    refine ⟨hg4.block k hk (fun h => by have := (hA k h.symm).2; omega), by omega, fun h3 => ?_⟩
    have := (hA k (ha k h3 hk)).2
    omega
  · refine ⟨hg4.os.trans (hg2.os.trans Hg.os), hg4.tape.trans (hg2.tape.trans Hg.tape), hg4.output.trans (hg2.output.trans Hg.output), by omega, fun k hk hne => ?_⟩
    rw [hg4.block k (by omega) (fun h => by have := (hA k h.symm).1; omega), hg2.block k (by omega) hne, Hg.block k hk hne]
  · exact hr2.keep s4 fun k h1 h2 => hg4.block k h2 fun h => by have := (hA k h.symm).1; omega
theorem prdCells_one (zs : List (WithY PrdY)) : ∀ u ∈ zs.flatMap prdCells, u.oneCell' = true := fun u hu => by
  obtain ⟨z, _, hu⟩ := List.mem_flatMap.1 hu
  obtain ⟨x, y, hx⟩ := PA_form z.val.left.2
  obtain ⟨s, x2, y2, hs⟩ := precCells_form z.val.prec
  unfold prdCells at hu
  rw [hx, hs] at hu
  simp only [List.mem_cons, List.not_mem_nil, or_false] at hu
  rcases hu with rfl | rfl | rfl | rfl | rfl <;> rfl
theorem takeY_len {e ks : List Nat} {l r : List Tok} {v : RefY} (h : takeY e ks l = .ok v r) : r.length + 1 = l.length := by
  obtain ⟨t, rfl, _⟩ := takeY_ok h
  rfl
theorem altsY_len {e : List Nat} {left : RefY} : ∀ {q : Nat} {l r : List Tok} {acc ps : List PrdY}, altsY e left q l acc = .ok ps r → ps.length + r.length ≤ acc.length + l.length
  | 0, l, r, acc, ps, h => by cases h
  | q + 1, l, r, acc, ps, h => by
    unfold altsY at h
    obtain ⟨pr, r1, h1, h2⟩ := ResY.bind_ok h
    have t1 := ((precY_ok h1).2.trans (refsY_tail l)).len
    split at h2
    · obtain ⟨_, r2, h3, h4⟩ := ResY.bind_ok h2
      have := takeY_len h3
      have h5 := altsY_len h4
      rw [List.length_append, List.length_singleton] at h5
      omega
    · obtain ⟨_, r2, h3, h4⟩ := ResY.bind_ok h2
      injection h4 with h4 h5
      subst h4 h5
      have := takeY_len h3
      rw [List.length_append, List.length_singleton]
      omega
theorem groupY_len {e : List Nat} {l r : List Tok} {ps : List PrdY} (h : groupY e l = .ok ps r) : ps.length + r.length + 2 ≤ l.length := by
  unfold groupY at h
  obtain ⟨left, r1, h1, h2⟩ := ResY.bind_ok h
  obtain ⟨_, r2, h3, h4⟩ := ResY.bind_ok h2
  have := takeY_len h1
  have := takeY_len h3
  have h5 := altsY_len h4
  simp only [List.length_nil] at h5
  omega
/-- what is behind the declarations; behind the groups -/
def contG (en : List Nat) (ds : List DclY) (ps : List PrdY) (r3 : List Tok) : ResY (List DclY × List PrdY) := (endY en r3).bind fun _ r4 => .ok (ds, ps) r4
def contD (en : List Nat) (ds : List DclY) (r : List Tok) : ResY (List DclY × List PrdY) := (takeY en [9] r).bind fun _ r1 => (groupY en r1).bind fun g r2 => (groupsY en (r2.length + 1) r2 g).bind (contG en ds)
theorem srcY_cont (en : List Nat) (l : List Tok) : srcY en l = (declsY en (l.length + 1) l []).bind (contD en) := rfl
/-- what is behind the last mark -/
def endR (ds : List DclY) (ps : List PrdY) : List Tok → ResY (List DclY × List PrdY)
  | [] => .ok (ds, ps) []
  | u :: _ => .bad u.2.2 3
theorem contG_mark {en : List Nat} {ds : List DclY} {ps : List PrdY} {t : Tok} {r3 : List Tok} (hb : nextY [9] (t :: r3) = true) (hT : takeY en [9] (t :: r3) = .ok t.2 r3) : contG en ds ps (t :: r3) = endR ds ps r3 := by
  unfold contG endY
  rw [hb, if_pos rfl, hT]
  cases r3 <;> rfl
/-- what 'source' hands back -/
def SrcV (w : World) (s : List DclY × List PrdY) (e : Ending) (w' : World) : Prop := ∃ A1 c1 A2 c2 zs1 zs2, e = .returned (.agg #[.slice A1 s.1.length c1, .slice A2 s.2.length c2]) ∧ zs1.map WithY.val = s.1 ∧ zs2.map WithY.val = s.2 ∧
  Flat 2 dclCells w' w'.heap.size A1 s.1.length c1 zs1 ∧ InY DclY.names w' (fun b => w.heap.size ≤ b) zs1 ∧ Flat 5 prdCells w' w'.heap.size A2 s.2.length c2 zs2 ∧ InY PrdY.right w' (fun b => w.heap.size ≤ b) zs2 ∧
  (∀ b off, A1 = some ⟨b, off, none⟩ → w.heap.size ≤ b) ∧ (∀ b off, A2 = some ⟨b, off, none⟩ → w.heap.size ≤ b)
theorem src_end {w wr wF : World} {p gS B3 d c d2 c3 : Nat} {A A3 : Option Addr} {zs : List (WithY DclY)} {zs3 : List (WithY PrdY)} {en : List Nat} {us : List Tok} {ds : List DclY} (hgs : w.heap.size = gS) (hpS : p < gS) (hB : gS + 1 ≤ B3) (HK : DclK wr (gS + 1) B3 A d c zs)
    (Ho : wr.ownsRow B3 44 5 (.slice A3 d2 c3) d2 (zs3.flatMap prdCells)) (Hc : InY PrdY.right wr (fun b => B3 ≤ b ∧ (Value.slice A3 d2 c3).ownBlock ≠ some b) zs3) (hr : YrAt wr p en us) (hg : w.grownBy wr (some p)) (hF : wr.grownBy wF (some gS)) (hd : d = zs.length) (hd2 : d2 = zs3.length) (hds : zs.map WithY.val = ds) :
    SrcV w (ds, zs3.map WithY.val) (.returned (.agg #[.slice A d c, .slice A3 d2 c3])) wF ∧ YrAt wF p en us ∧ w.grownBy wF (some p) := by
  subst hds
  have k1 : DclK wF (gS + 1) B3 A d c zs := HK.keep hF.size fun b h1 _ h3 => hF.block b h3 (by intro e; injection e with e; omega)
  have k2 : wF.ownsRow B3 44 5 (.slice A3 d2 c3) d2 (zs3.flatMap prdCells) := own_keepY Ho fun b h1 h2 => hF.block b h2 (by intro e; injection e with e; omega)
  have k3 : InY PrdY.right wF (fun b => w.heap.size ≤ b) zs3 := Hc.keep hF.size fun k hk hav => ⟨hF.block k hk (by intro e; injection e with e; have := hav.1; omega), by have := hav.1; omega⟩
  have e1 : (zs.map WithY.val).length = d := by rw [List.length_map]; exact hd.symm
  have e2 : (zs3.map WithY.val).length = d2 := by rw [List.length_map]; exact hd2.symm
  refine ⟨⟨A, c, A3, c3, zs, zs3, ?_, rfl, rfl, ?_, k1.sub.keep (Nat.le_refl _) fun k _ hav => ⟨rfl, by have := hav.1; omega⟩, ?_, k3, fun b off e => by have := (own_at0 k1.own e).1; omega, fun b off e => by have := (own_at0 k2 e).1; omega⟩, hr.keep hF.size fun k h1 h2 => hF.block k h2 (by intro e; injection e with e; omega), ?_⟩
  · show _ = Ending.returned (.agg #[.slice A (zs.map WithY.val).length c, .slice A3 (zs3.map WithY.val).length c3])
    rw [e1, e2]
  · show Flat 2 dclCells wF wF.heap.size A (zs.map WithY.val).length c zs
    rw [e1]
    exact own_flat dclCells_len hd.symm k1.own
  · show Flat 5 prdCells wF wF.heap.size A3 (zs3.map WithY.val).length c3 zs3
    rw [e2]
    exact own_flat prdCells_len hd2.symm k2
  · exact grown_late hg (grown_is_below hF hg.size (by omega))
end Go.Proofs.Ytdeiipbnaknedaa
