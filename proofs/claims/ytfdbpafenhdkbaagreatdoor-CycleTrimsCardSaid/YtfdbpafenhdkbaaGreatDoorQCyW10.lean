/- the program's steps: what its closure answers; the copy; what is struck out. -/
import Derived.Test.YtfdbpafenhdkbaaGreatDoorQCyW9
import Derived.Test.YtfdbpafenhdkbaaGreatDoorQStp
namespace Go.Proofs.YtfdbpafenhdkbaaGreatDoor
open Go.RowKit
set_option linter.unusedVariables false
set_option linter.unusedSimpArgs false

/-- a symbol that is within a grammar's range -/
abbrev Sb (n : Nat) : Type := {s : Int // -(n : Int) ≤ s ∧ s ≤ 1000}
instance (n : Nat) : Inhabited (Sb n) := ⟨⟨0, by omega, by omega⟩⟩
def encB (n : Nat) : Sb n → Value := fun s => .int .i64 s.1
/-- the closure's world: where it finds the table -/
def BareW (W : World) (pb g n : Nat) (N : List Bool) : Prop := W.cell? ⟨pb, 0, none⟩ = some (.slice (some ⟨g, 0, none⟩) n n) ∧ ∀ i, i < n → W.cell? ⟨g, i, none⟩ = some (.bool (N.getD i false))

set_option maxHeartbeats 1000000 in
theorem tr_bareS (pb g n : Nat) (N : List Bool) (s : Int) (W : World) (h : BareW W pb g n N) (hn : n ≤ 1000) (h1 : -(n : Int) ≤ s) (h2 : s ≤ 1000) :
    FnGives Tryz.prog 35 #[.pointer (some ⟨pb, 0, none⟩)] #[.int .i64 s] (.bool (nulB N s)) W := by
  show Calls Tryz.prog 35 #[.int .i64 s, .pointer (some ⟨pb, 0, none⟩)] W _
  obtain ⟨hp, hc⟩ := h
  have Hc := Lib.hid hc
  clear hc
  have hnl : nulB N s = (decide (s < 0) && N.getD (nonI s) false) := rfl
  have Hnl := Lib.hid hnl
  clear hnl
  go_enter Tryz.func35, Tryz.ntmps35
  by_cases h0 : s < 0
  · obtain ⟨j, hj, hnj, hw⟩ := non_place (s := s) (n := n) h0 h1 hn
    have c0 := Hc.out j hj
    rw [← hnj] at c0
    have hd : decide (s < 0) = true := decide_eq_true h0
    generalize N.getD (nonI s) false = b at *
    rw [hnj] at c0
    go_wp2_with fail
    go_ret
    exact ⟨by rw [Hnl.out, hd]; rfl, 0, rfl⟩
  · have hd : decide (s < 0) = false := decide_eq_false h0
    generalize N.getD (nonI s) false = b at *
    go_wp2_with fail
    go_ret
    exact ⟨by rw [Hnl.out, hd]; rfl, 0, rfl⟩

theorem BareW.ext {w W : World} {pb g n : Nat} {N : List Bool} (h : BareW w pb g n N) (hp : pb < w.heap.size) (hg : g < w.heap.size) (hb : Below w.heap.size w W) : BareW W pb g n N :=
  ⟨(hb.cell (p := ⟨pb, 0, none⟩) hp).trans h.1, fun i hi => (hb.cell (p := ⟨g, i, none⟩) hg).trans (h.2 i hi)⟩
theorem pred_bare {w : World} {pb g n : Nat} {N : List Bool} (h : BareW w pb g n N) (hp : pb < w.heap.size) (hg : g < w.heap.size) (hn : n ≤ 1000) :
    PredAt Tryz.prog 35 #[.pointer (some ⟨pb, 0, none⟩)] (encB n) (fun s => nulB N s.1) w :=
  fun W x hb => tr_bareS pb g n N x.1 W (h.ext hp hg hb) hn x.2.1 x.2.2
open Go.Lib Go.Sort in
theorem over_bare {w : World} {pb g n : Nat} {N : List Bool} (h : BareW w pb g n N) (hp : pb < w.heap.size) (hg : g < w.heap.size) (hn : n ≤ 1000) {blk : Nat} (off size : Nat) (hpb : pb ≠ blk) (hgb : g ≠ blk) :
    PredOver Tryz.prog 35 #[.pointer (some ⟨pb, 0, none⟩)] (encB n) (fun s => nulB N s.1) blk off size w :=
  fun k os dk x _ => tr_bareS pb g n N x.1 _ ⟨by
    unfold sortWorld
    rw [cell?_grow _ _ _ (by show pb < (putRow _ _ _ _ _).heap.size; rw [size_putRow]; exact hp), cell?_putRow_other _ _ blk off _ _ (Or.inl hpb)]
    exact h.1, fun i hi => by
    unfold sortWorld
    rw [cell?_grow _ _ _ (by show g < (putRow _ _ _ _ _).heap.size; rw [size_putRow]; exact hg), cell?_putRow_other _ _ blk off _ _ (Or.inl hgb)]
    exact h.2 i hi⟩ hn x.2.1 x.2.2
end Go.Proofs.YtfdbpafenhdkbaaGreatDoor

namespace Go.Proofs.YtfdbpafenhdkbaaGreatDoor
open Go.RowKit
set_option linter.unusedVariables false
set_option linter.unusedSimpArgs false

theorem tr_Clone (A : Option Addr) (n c : Nat) (l : List Int) (w : World) (h : Ints .i64 w A n c l) (hn : n ≤ 100000) :
    Calls Tryz.prog 34 #[.slice A n c] w fun e w' => ∃ v', e = .returned v' ∧ w'.ownsRow w.heap.size 3 1 v' n (ints .i64 l) ∧ Below w.heap.size w w' := by
  obtain rfl := h.len
  rcases A with _ | a
  · have hl : l = [] := by
      rcases l with _ | ⟨x, l⟩
      · rfl
      · obtain ⟨bb, off, s, he, _⟩ := h.get (j := 0) (by simp)
        cases he
    subst hl
    refine (Tryz.slices_Clone_int_nil 0 c w).mono ?_
    rintro e w' ⟨rfl, rfl⟩
    exact ⟨_, rfl, World.ownsRow_nil _ _ _ _, Below.refl _ _⟩
  · by_cases hl : l = []
    · subst hl
      refine (Tryz.slices_Clone_int_zero a c w).mono ?_
      rintro e w' ⟨v', rfl, ho, _, hb⟩
      exact ⟨_, rfl, ho, hb⟩
    · have hl0 : 0 < l.length := List.length_pos_iff.2 hl
      obtain ⟨bb, off, s, he, _⟩ := h.get hl0
      injection he with he
      subst he
      have hc : ∀ j, j < l.length → w.cell? ⟨bb, off + j, none⟩ = some (.int .i64 (l.getD j 0)) := fun j hj => by
        obtain ⟨b2, o2, s2, he2, _, Hs2, q2⟩ := h.get hj
        injection he2 with he2
        injection he2 with e1 e2 e3
        subst e1
        subst e2
        rw [List.getD_eq_getElem?_getD, Hs2.out]
        exact q2
      refine (Tryz.slices_Clone_int bb off l.length c l w (Nat.le_refl _) (by omega) hc).mono ?_
      rintro e w' ⟨v', rfl, ho, _, hb⟩
      rw [List.take_of_length_le (Nat.le_refl _)] at ho
      exact ⟨_, rfl, ho, hb⟩

/-- the world behind: only the copy's own block is another -/
theorem put_grown {n : Nat} (w : World) (q g off : Nat) (d : Array (Sb n)) : w.grownBy (Sort.putRow (encB n) (Sort.ahead w q) g off d) (some g) := by
  refine ⟨rfl, rfl, rfl, by simp, fun k hk hne => ?_⟩
  have : g ≠ k := fun e => hne (by rw [e])
  simp [Sort.putRow, Sort.mapBlock, Sort.ahead, Array.getElem?_modify, this]
end Go.Proofs.YtfdbpafenhdkbaaGreatDoor

namespace Go.Proofs.YtfdbpafenhdkbaaGreatDoor
open Go.RowKit
set_option linter.unusedVariables false
set_option linter.unusedSimpArgs false

theorem enters_bare : ∀ args w, (callFunc 35 args).run Tryz.prog w = .ok (.enter 35 args) w := enters_of Tryz.func35 (by kernel_rfl) rfl
theorem sb_list {n : Nat} : ∀ (ss : List Int), (∀ s ∈ ss, -(n : Int) ≤ s ∧ s ≤ 1000) → ∃ ds : List (Sb n), ds.map (fun s => s.1) = ss
  | [], _ => ⟨[], rfl⟩
  | s :: ss, h => by
    obtain ⟨ds, hd⟩ := sb_list ss fun s hs => h s (List.mem_cons_of_mem _ hs)
    exact ⟨⟨s, h s (List.mem_cons_self ..)⟩ :: ds, by rw [List.map_cons, hd]⟩
theorem bare_map {n : Nat} (N : List Bool) (ds : List (Sb n)) : (ds.filter fun x => !nulB N x.1).map (fun s => s.1) = bareL N (ds.map fun s => s.1) := by
  unfold bareL
  rw [List.filter_map]
  rfl
set_option maxRecDepth 20000 in
set_option maxHeartbeats 1000000 in
theorem tr_Del_nil (fv : Value) (w : World) : Calls Tryz.prog 33 #[.slice none 0 0, fv] w fun e w' => e = .returned (.slice none 0 0) ∧ w = w' := by
  have cI := Tryz.slices_IndexFunc_empty_f64 (α := Int) none 0 fv w
  have CI := Lib.hid cI
  clear cI
  go_enter Tryz.func33, Tryz.ntmps33
  go_wp2_with (go_at_call 64; (with_reducible refine CI.out.mono ?_); rintro e w' ⟨rfl, rfl⟩)
  go_ret
  exact ⟨rfl, rfl⟩
open Go.Lib Go.Sort in
theorem tr_Del (B pb g nn n : Nat) (N : List Bool) (ss : List Int) (v : Value) (w : World) (hown : w.ownsRow B 3 1 v n (ints .i64 ss)) (hw : BareW w pb g nn N) (hp : pb < B) (hg : g < B) (hB : B ≤ w.heap.size) (hnn : nn ≤ 1000) (hs : ∀ s ∈ ss, -(nn : Int) ≤ s ∧ s ≤ 1000) :
    Calls Tryz.prog 33 #[v, .func (.func 35) #[] #[.pointer (some ⟨pb, 0, none⟩)]] w fun e w' => (∃ A c, e = .returned (.slice A (bareL N ss).length c) ∧ Ints .i64 w' A (bareL N ss).length c (bareL N ss)) ∧ Below B w w' := by
  obtain ⟨hlen, ⟨rfl, rfl⟩ | ⟨g', cap, cur, rfl, hg', hheap, hcap, hmax, hsz, htake⟩⟩ := hown
  · have hss : ss = [] := by
      rw [ints_length] at hlen
      exact List.length_eq_zero_iff.1 (by omega)
    subst hss
    refine (tr_Del_nil _ w).mono ?_
    rintro e w' ⟨rfl, rfl⟩
    exact ⟨⟨none, 0, rfl, Ints.nil _ _ _ _ (by decide)⟩, Below.refl _ _⟩
  · obtain ⟨ds, hds⟩ := sb_list ss hs
    have hblk : Blk w g' 3 cur := hheap
    have hln : ds.length = n := by
      rw [ints_length] at hlen
      rw [← List.length_map (fun s : Sb nn => s.1), hds]
      omega
    have hH : Holds (encB nn) w g' 0 ds.toArray := fun j hj => by
      have hj' : j < ds.length := by simpa using hj
      refine ⟨?_, Blk.frozen hblk _⟩
      rw [Nat.zero_add, Blk.cell hblk j]
      have h1 : cur[j]? = (ints .i64 ss)[j]? := by
        rw [← htake, Nat.mul_one, List.getElem?_take_of_lt (by omega), Array.getElem?_toList]
      rw [h1, ← hds]
      rw [getElem!_pos ds.toArray j hj]
      simp [ints, encB, hj']
    have hn' : ds.toArray.size = n := by simpa using hln
    have hfil := bare_map N ds
    rw [hds] at hfil
    have hc := Tryz.slices_DeleteFunc (encB nn) (fun _ => rfl) (fun s => nulB N s.1) 35 #[.pointer (some ⟨pb, 0, none⟩)] enters_bare (⟨0, by omega, by omega⟩ : Sb nn) (fun w => by kernel_rfl) g' 0 cap ds.toArray w
      (pred_bare hw (by omega) (by omega) hnn) (over_bare hw (by omega) (by omega) hnn 0 ds.toArray.size (by omega) (by omega)) hH (by simp [maxLen] at hmax; omega) (by omega)
    rw [hn'] at hc
    refine hc.mono ?_
    clear hc
    have hfl : (bareL N ss).length = (ds.filter fun x => !nulB N x.1).length := by rw [← hfil, List.length_map]
    have hle : (ds.filter fun x => !nulB N x.1).length ≤ n := by rw [← hln]; exact List.length_filter_le _ _
    have hgl := hblk.lt
    simp only [List.toList_toArray]
    rw [hfl, ← hfil]
    generalize (ds.filter fun x => !nulB N x.1) = F at *
    rintro e w' ⟨rfl, q, rfl⟩
    refine ⟨⟨_, _, rfl, ?_⟩, grown_is_below (put_grown w q g' 0 _) hB hg'⟩
    have hh := holds_putRow (encB nn) (Sort.ahead w q) g' 0 ds.toArray (F ++ List.replicate (n - F.length) (⟨0, by omega, by omega⟩ : Sb nn)).toArray hH (by simp; omega)
    refine ⟨by simp [ints], by omega, by simp [maxLen] at hmax; omega, fun _ => ⟨g', 0, rfl, by simpa using hgl, fun j hj => ?_⟩⟩
    have hjF : j < F.length := by simpa [ints] using hj
    rw [(hh j (by simp; omega)).1]
    rw [getElem!_pos _ j (by simp; omega)]
    simp [ints, encB, hjF]
end Go.Proofs.YtfdbpafenhdkbaaGreatDoor
