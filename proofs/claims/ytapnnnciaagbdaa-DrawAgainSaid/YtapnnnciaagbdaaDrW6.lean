/- draw: slices.Chunk: a range over a function. -/
import Derived.Test.YtapnnnciaagbdaaDrW5
import Derived.RangeFuncNested
import Derived.RangeFuncBound
import Derived.RangeFuncCalls
import Derived.RangeFuncLeaves
import Derived.RangeFuncBox
import Derived.Shelf.Abstract
import Derived.Shelf.RegionOpen
import Derived.OwnWalkIn
import Derived.TacticsInMore
import Derived.LoopNIn
import Derived.LoopIn
import Derived.Sort.QuietIn
namespace Go.Proofs.Ytapnnnciaagbdaa
open Go.RowKit Go.Shelf
set_option linter.unusedVariables false
set_option linter.unusedSimpArgs false
attribute [local go_sem] Oper.semAt_some

/-- the pieces of a row: where one begins, how long it is -/
abbrev Piece (L N : Nat) := { p : Nat × Nat // p.1 + p.2 ≤ L ∧ p.2 ≤ N }
def piece (L N j : Nat) : Piece L N := ⟨(min (N * j) L, min N (L - N * j)), by omega⟩
def pieces (L N k : Nat) : List (Piece L N) := (List.range k).map (piece L N)
theorem pieces_succ (L N k : Nat) : pieces L N (k + 1) = pieces L N k ++ [piece L N k] := by simp [pieces, List.range_succ]
theorem pieces_length (L N k : Nat) : (pieces L N k).length = k := by simp [pieces]
def encP (b off : Nat) {L N : Nat} (x : Piece L N) : Array Value := #[.slice (some ⟨b, off + x.1.1, none⟩) x.1.2 x.1.2]
/-- two blocks lie as they lay -/
def Keep2 (a b : Nat) (W W' : World) : Prop := W'.heap[a]? = W.heap[a]? ∧ W'.heap[b]? = W.heap[b]?
theorem Keep2.t {a b : Nat} {A B C : World} (h : Keep2 a b A B) (k : Keep2 a b B C) : Keep2 a b A C := ⟨k.1.trans h.1, k.2.trans h.2⟩
theorem Keep2.b {a b : Nat} {w : World} (ha : a < w.heap.size) (hb : b < w.heap.size) (W : World) (l : Nat) (o o' : Obj) (hl : w.heap.size ≤ l) (h : W.heap[l]? = some o) (_ : o.isCells = false) (_ : o.isWalk = false) : Keep2 a b W (W.putObj l o') :=
  ⟨World.putObj_heap_other (by omega), World.putObj_heap_other (by omega)⟩
theorem cell_of_block {W W' : World} {b o : Nat} (h : W'.heap[b]? = W.heap[b]?) : W'.cell? ⟨b, o, none⟩ = W.cell? ⟨b, o, none⟩ := World.cell?_of_block h

set_option maxRecDepth 100000 in
set_option maxHeartbeats 2000000 in
theorem chunk1_in (n : Nat) (hn : 1 ≤ n) (l Bs Bn b off L cap N : Nat) (hN : 0 < N) (hN2 : N ≤ 1000) (hL : L ≤ 1000) (hcap : L ≤ cap) (hcap2 : cap ≤ 9223372036854775807)
    (J Jx : List (Piece L N) → World → Prop)
    (hY : ∀ pre (x : Piece L N) W, J pre W → pre.length < L → YieldAt Fence.wide (n - 1) Try.prog l (encP b off x) W fun e W' =>
      (e = .returned (.bool true) ∧ J (pre ++ [x]) W' ∧ Keep2 Bs Bn W W') ∨ (e = .returned (.bool false) ∧ Jx (pre ++ [x]) W'))
    (hJd : ∀ s W m, J s W → J s (W.drewN m)) (W : World) (hBs : W.cell? ⟨Bs, 0, none⟩ = some (.slice (some ⟨b, off, none⟩) L cap)) (hBn : W.cell? ⟨Bn, 0, none⟩ = some (.int .i64 (N : Int))) (h0 : J [] W) :
    CallsIn Fence.wide n Try.prog 67 #[.func (.yield l) #[] #[], .pointer (some ⟨Bs, 0, none⟩), .pointer (some ⟨Bn, 0, none⟩)] W fun e W' => (∃ v, e = .returned v) ∧
      ((∃ ys, (∃ k, L ≤ N * k ∧ ys = pieces L N k) ∧ J ys W') ∨ (∃ pre, (∃ k, pre = pieces L N k) ∧ Jx pre W')) := by
  refine callsIn_of_wp Try.func67 rfl trivial ?_ rfl
  simp only [Try.ntmps67, List.size_toArray, List.length_cons, List.length_nil, Nat.reduceAdd, Nat.reduceSub, Array.replicate_succ, Array.replicate_zero, List.push_toArray, List.append_toArray, List.nil_append, List.cons_append]
  gi_wp2
  gi_loopw [4] (fun i wr => ∃ k m : Nat, Hid (m = N * k) ∧ m < L + N ∧ k ≤ L ∧ i = .int .i64 (m : Int) ∧ J (pieces L N k) wr ∧ Keep2 Bs Bn W wr)
    (fun i _ => L + N - (intOf i).toNat)
  case atStart => exact ⟨0, 0, Lib.hid (by simp), by omega, Nat.zero_le _, rfl, h0, rfl, rfl⟩
  case round =>
    obtain ⟨k, m, Hm, hmL, hk, rfl, hJs, hnx⟩ := hrel
    have hBs1 := (cell_of_block (o := 0) hnx.1).trans hBs
    have hBn1 := (cell_of_block (o := 0) hnx.2).trans hBn
    by_cases hlt : m < L
    · have hpc : (piece L N k).1 = (m, min N (L - m)) := by
        have := Hm.out
        subst this
        show (min (N * k) L, min N (L - N * k)) = _
        rw [Nat.min_eq_left (by omega)]
      obtain ⟨e, He⟩ : ∃ e, Hid (min N (L - m) = e) := ⟨_, Lib.hid rfl⟩
      rw [He.out] at hpc
      have he : m + e ≤ L := by have := He.out; omega
      have he2 : e ≤ N := by have := He.out; omega
      have he0 : 0 < e := by have := He.out; omega
      have he3 : min (N : Int) ((L - m : Nat) : Int) = (e : Int) := by have := He.out; omega
      have hkL : k < L := by
        have := Hm.out
        have : k * 1 ≤ N * k := by rw [Nat.mul_comm N k]; exact Nat.mul_le_mul_left k hN
        omega
      have b1 : (0 : Int) ≤ (m : Int) := by omega
      have b2 : (m : Int) ≤ (L : Int) := by omega
      have b3 : (m : Int) ≤ (cap : Int) := by omega
      gi_wp2
      gi_quiet (fail)
      have hJ4 := hJd _ _ nq hJs
      clear he3
      have h5 : ((m : Int) + (e : Int)).toNat - m = e := by omega
      have h6 : (m : Int) ≤ (m : Int) + (e : Int) := by omega
      have h7 : (m : Int) + (e : Int) ≤ (cap : Int) := by omega
      obtain ⟨fn, tmps, assign, body, hy, hR⟩ := hY _ (piece L N k) (wr.drewN nq) hJ4 (by rw [pieces_length]; exact hkL)
      simp only [encP, hpc] at hy
      clear hpc
      gi_wp2
      refine hR.mono ?_
      rintro e W3 (⟨rfl, hJ3, hk3⟩ | ⟨rfl, hJx3⟩)
      · have hnx3 : Keep2 Bs Bn W W3 := Keep2.t (C := W3) ⟨hnx.1, hnx.2⟩ hk3
        have hBn3 := (cell_of_block (o := 0) hnx3.2).trans hBn
        gi_wp2
        go_roundw
        case rel => exact ⟨k + 1, m + N, Lib.hid (by rw [Hm.out, Nat.mul_add, Nat.mul_one]), by omega, by omega, by go_num, by rw [pieces_succ]; exact hJ3, hnx3⟩
        case measure => simp [intOf]; omega
      · gi_wp2
        refine bodyPost_ret (results_none rfl _ _ _) rfl ?_
        exact ⟨⟨_, rfl⟩, .inr ⟨_, ⟨k + 1, (pieces_succ _ _ _).symm⟩, hJx3⟩⟩
    · gi_wp2
      go_end0
      exact ⟨⟨_, rfl⟩, .inl ⟨_, ⟨k, by have := Hm.out; omega, rfl⟩, hJs⟩⟩

set_option maxRecDepth 100000 in
set_option maxHeartbeats 1000000 in
theorem chunk1_none (n : Nat) (l Bs Bn cap N : Nat) (A : Option Addr) {L : Nat}
    (J : List (Piece L N) → World → Prop) (W : World) (hBs : W.cell? ⟨Bs, 0, none⟩ = some (.slice A 0 cap)) (h0 : J [] W) :
    CallsIn Fence.wide n Try.prog 67 #[.func (.yield l) #[] #[], .pointer (some ⟨Bs, 0, none⟩), .pointer (some ⟨Bn, 0, none⟩)] W fun e W' => (∃ v, e = .returned v) ∧ J [] W' := by
  refine callsIn_of_wp Try.func67 rfl trivial ?_ rfl
  simp only [Try.ntmps67, List.size_toArray, List.length_cons, List.length_nil, Nat.reduceAdd, Nat.reduceSub, Array.replicate_succ, Array.replicate_zero, List.push_toArray, List.append_toArray, List.nil_append, List.cons_append]
  gi_wp2
  gi_loopw [4] (fun i wr => i = .int .i64 0 ∧ wr = W) (fun _ _ => 0)
  case atStart => exact ⟨rfl, rfl⟩
  case round =>
    obtain ⟨rfl, rfl⟩ := hrel
    gi_wp2
    go_end0
    exact ⟨⟨_, rfl⟩, h0⟩

theorem drewN_grownBy (w : World) (m : Nat) : w.grownBy (w.drewN m) none := ⟨rfl, rfl, rfl, Nat.le_refl _, fun _ _ _ => rfl⟩

theorem chunk_stops (n : Nat) (hn : 1 ≤ n) (Bs Bn b off L cap N : Nat) (A : Option Addr) (hA : 0 < L → A = some ⟨b, off, none⟩) (hN : 0 < N) (hN2 : N ≤ 1000) (hL : L ≤ 1000) (hcap : L ≤ cap) (hcap2 : cap ≤ 9223372036854775807) (w : World)
    (hs : Bs < w.heap.size) (hn2 : Bn < w.heap.size) (hBs : w.cell? ⟨Bs, 0, none⟩ = some (.slice A L cap)) (hBn : w.cell? ⟨Bn, 0, none⟩ = some (.int .i64 (N : Int))) :
    SeqStopsK Fence.wide n Try.prog 67 #[.pointer (some ⟨Bs, 0, none⟩), .pointer (some ⟨Bn, 0, none⟩)] (encP b off (L := L) (N := N)) (Keep2 Bs Bn)
      (fun ys => ∃ k, L ≤ N * k ∧ ys = pieces L N k) (fun pre => ∃ k, pre = pieces L N k) L w := fun l J Jx W hW hJ _ hY h0 => by
  have hs' := (hW.cell (p := ⟨Bs, 0, none⟩) hs).trans hBs
  have hn' := (hW.cell (p := ⟨Bn, 0, none⟩) hn2).trans hBn
  rcases Nat.eq_zero_or_pos L with h | h
  · subst h
    exact (chunk1_none n l Bs Bn cap N A J W hs' h0).mono fun e W' ⟨he, hj⟩ => ⟨he, .inl ⟨[], ⟨0, Nat.zero_le _, rfl⟩, hj⟩⟩
  · obtain rfl := hA h
    exact chunk1_in n hn l Bs Bn b off L cap N hN hN2 hL hcap hcap2 J Jx hY (fun s W m hs => hJ s W _ none hs (drewN_grownBy W m) (fun _ e => by cases e)) W hs' hn' h0

set_option maxHeartbeats 1000000 in
/-- the piece-maker: slice and length are boxed -/
theorem chunk_in (A : Option Addr) (L cap N : Nat) (hN : 0 < N) (w : World) :
    Calls Try.prog 45 #[.slice A L cap, .int .i64 (N : Int)] w fun e w' =>
      e = .returned (.func (.func 67) #[] #[.pointer (some ⟨w.heap.size, 0, none⟩), .pointer (some ⟨w.heap.size + 1, 0, none⟩)]) ∧
      w' = (w.alloc (.cells #[.slice A L cap] 22)).alloc (.cells #[.int .i64 (N : Int)] 3) := by
  go_enter Try.func45, Try.ntmps45
  go_wp2
  go_ret
  exact ⟨rfl, rfl⟩
end Go.Proofs.Ytapnnnciaagbdaa
