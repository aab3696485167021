/- lex: nothing is passed; what is carried over worlds. -/
import Derived.Test.YtcmfflfgegadjaaLxW12
namespace Go.Proofs.Ytcmfflfgegadjaa
open Go.RowKit
set_option linter.unusedVariables false
set_option linter.unusedSimpArgs false

set_option maxHeartbeats 1000000 in
theorem lx_pass0 (g c : Nat) (A : Option Addr) (pre : List Nat) (w : World) (hg : Blk w g 53 #[.slice A 0 c, PA pre]) (hA : A = none → c = 0) (hc : c ≤ 9223372036854775807) :
    Calls Try.prog 26 #[.pointer (some ⟨g, 0, none⟩), .int .i64 0] w fun e w' => e = .returned undef ∧
      (∃ v, Blk w' g 53 #[v, PA pre]) ∧ Only g w w' := by
  have k0 := hg.cell 0
  simp only [List.getElem?_toArray, List.getElem?_cons_zero] at k0
  have fz0 := hg.frozen 0
  have Hset := Lib.hid (fun v => hg.set 0 v)
  have gc : (0 : Int) ≤ (c : Int) := by omega
  clear hg
  rcases A with _ | ⟨b, off, sp⟩
  · obtain rfl := hA rfl
    go_enter Try.func26, Try.ntmps26
    go_wp2
    go_loop [13] (fun i => i = .int .i64 0) (fun _ => 0)
    case atStart => rfl
    case round =>
      subst hrel
      go_wp2
      go_end0
      exact ⟨rfl, ⟨_, Hset.out _⟩, Only.set _ _ _ _⟩
  · have hw : c = 0 ∨ c ≠ 0 := by omega
    rcases hw with hc0 | hc0
    all_goals
      go_enter Try.func26, Try.ntmps26
      go_wp2
      go_loop [13] (fun i => i = .int .i64 0) (fun _ => 0)
      case atStart => rfl
      case round =>
        subst hrel
        go_wp2
        go_end0
        exact ⟨rfl, ⟨_, Hset.out _⟩, Only.set _ _ _ _⟩

theorem own_belowS {w w' : World} {base e size : Nat} {v : Value} {n : Nat} {xs : List Value} (h : w.ownsRow base e size v n xs) (hb : Below w.heap.size w w') :
    w'.ownsRow base e size v n xs := by
  refine ⟨h.1, ?_⟩
  rcases h.2 with hn | ⟨g, cap, cur, hv, hbg, hg, rest⟩
  · exact .inl hn
  · refine .inr ⟨g, cap, cur, hv, hbg, ?_, rest⟩
    have hlt : g < w.heap.size := by
      rcases Nat.lt_or_ge g w.heap.size with hlt | hge
      · exact hlt
      · rw [Array.getElem?_eq_none hge] at hg; cases hg
    exact (hb.block g hlt).trans hg
theorem own_ne {w : World} {base e t size n c g : Nat} {A : Option Addr} {xs : List Value} {cs : Array Value} (h : w.ownsRow base e size (.slice A n c) n xs) (hg : Blk w g t cs) (ht : t ≠ e) : ∀ a, A = some a → a.block ≠ g := by
  intro a ha he
  subst ha
  rcases h.2 with ⟨hv, _⟩ | ⟨g', cap, cur, hv, _, hg', _⟩
  · cases hv
  · injection hv with h1 h2 h3
    injection h1 with h1
    subst h1
    simp only [] at he
    subst he
    unfold Blk at hg
    rw [hg] at hg'
    injection hg' with hg'
    injection hg' with h1 h2
    exact ht h2
theorem own_only {w w' : World} {base e t size n c g : Nat} {A : Option Addr} {xs : List Value} {cs : Array Value} (h : w.ownsRow base e size (.slice A n c) n xs) (hg : Blk w g t cs) (ht : t ≠ e) (ho : Only g w w') :
    w'.ownsRow base e size (.slice A n c) n xs := by
  have hne := own_ne h hg ht
  refine ⟨h.1, ?_⟩
  rcases h.2 with hn | ⟨g', cap, cur, hv, hbg, hg', rest⟩
  · exact .inl hn
  · refine .inr ⟨g', cap, cur, hv, hbg, ?_, rest⟩
    injection hv with h1 h2 h3
    exact (ho.block g' (hne _ h1)).trans hg'
theorem Blk.grown {w w' : World} {base e t size n c g : Nat} {A : Option Addr} {xs : List Value} {cs : Array Value} (hg : Blk w g t cs) (h : w.ownsRow base e size (.slice A n c) n xs) (ht : t ≠ e) (hgr : w.grownBy w' (Value.slice A n c).ownBlock) : Blk w' g t cs := by
  have hne := own_ne h hg ht
  refine (hgr.block g hg.lt ?_).trans hg
  rcases A with _ | a
  · intro h; cases h
  · intro h
    injection h with h
    exact hne a rfl h.symm
theorem below_appendS {w wr w' : World} {base e size : Nat} {A : Option Addr} {n c : Nat} {xs : List Value} (hb : Below base w wr) (hg : wr.grownBy w' (Value.slice A n c).ownBlock)
    (hown : wr.ownsRow base e size (.slice A n c) n xs) (hbase : base ≤ wr.heap.size) : Below base w w' :=
  hb.grown hg hbase fun k hk => (hown.lt k hk).1
end Go.Proofs.Ytcmfflfgegadjaa
