/- set: more walks. -/
import Derived.Test.YtapnnnciaagbdaaDoorSetW1
namespace Go.Proofs.YtapnnnciaagbdaaDoor
open Go.RowKit
set_option linter.unusedVariables false
set_option linter.unusedSimpArgs false

theorem pop_le (n : Nat) (h : n < 256) : 0 ≤ Lib.pop8 (n : Int) ∧ Lib.pop8 (n : Int) ≤ 8 := by
  have e := pop8_mems ⟨n, h⟩
  simp only at e
  rw [e]
  have := List.length_filter_le (fun i => n.testBit i) (List.range 8)
  simp at this
  omega

set_option maxRecDepth 100000 in
theorem pop_str : ({ data := (([0, 1, 1, 2, 1, 2, 2, 3, 1, 2, 2, 3, 2, 3, 3, 4, 1, 2, 2, 3, 2, 3, 3, 4, 2, 3, 3, 4, 3, 4, 4, 5, 1, 2, 2, 3, 2, 3, 3, 4, 2, 3, 3, 4, 3, 4, 4, 5, 2, 3, 3, 4, 3, 4, 4, 5, 3, 4, 4, 5, 4, 5, 5, 6].append [1, 2, 2, 3, 2, 3, 3, 4, 2, 3, 3, 4, 3, 4, 4, 5, 2, 3, 3, 4, 3, 4, 4, 5, 3, 4, 4, 5, 4, 5, 5, 6, 2, 3, 3, 4, 3, 4, 4, 5, 3, 4, 4, 5, 4, 5, 5, 6, 3, 4, 4, 5, 4, 5, 5, 6, 4, 5, 5, 6, 5, 6, 6, 7]).append ([1, 2, 2, 3, 2, 3, 3, 4, 2, 3, 3, 4, 3, 4, 4, 5, 2, 3, 3, 4, 3, 4, 4, 5, 3, 4, 4, 5, 4, 5, 5, 6, 2, 3, 3, 4, 3, 4, 4, 5, 3, 4, 4, 5, 4, 5, 5, 6, 3, 4, 4, 5, 4, 5, 5, 6, 4, 5, 5, 6, 5, 6, 6, 7].append [2, 3, 3, 4, 3, 4, 4, 5, 3, 4, 4, 5, 4, 5, 5, 6, 3, 4, 4, 5, 4, 5, 5, 6, 4, 5, 5, 6, 5, 6, 6, 7, 3, 4, 4, 5, 4, 5, 5, 6, 4, 5, 5, 6, 5, 6, 6, 7, 4, 5, 5, 6, 5, 6, 6, 7, 5, 6, 6, 7, 6, 7, 7, 8])).toArray } : ByteArray) = Lib.pop8tab := by rfl

set_option maxRecDepth 100000 in
set_option maxHeartbeats 1000000 in
theorem ones32 (s : Nat) (w : World) (hs : s < 4294967296) :
    Calls Tryd.prog 23 #[.int .u32 (s : Int)] w fun e w' => e = .returned (.int .i64 ((countN s : Nat) : Int)) ∧ ∃ m, w' = w.drewN m := by
  have hc := count_bytes s hs
  have a1 : bits .and .u32 ((s / 65536 : Nat) : Int) 255 = ((s / 65536 &&& 255 : Nat) : Int) := and32 (s / 65536) 255 (by omega) (by decide)
  have a2 : bits .and .u32 ((s / 256 : Nat) : Int) 255 = ((s / 256 &&& 255 : Nat) : Int) := and32 (s / 256) 255 (by omega) (by decide)
  have a3 : bits .and .u32 (s : Int) 255 = ((s &&& 255 : Nat) : Int) := and32 s 255 hs (by decide)
  have e1 : ∀ x : Nat, x &&& 255 = x % 256 := fun x => Nat.and_two_pow_sub_one_eq_mod x 8
  rw [e1] at a1 a2 a3
  clear e1
  obtain ⟨x0, h0⟩ : ∃ x, x = s / 16777216 := ⟨_, rfl⟩
  obtain ⟨x1, h1⟩ : ∃ x, x = s / 65536 % 256 := ⟨_, rfl⟩
  obtain ⟨x2, h2⟩ : ∃ x, x = s / 256 % 256 := ⟨_, rfl⟩
  obtain ⟨x3, h3⟩ : ∃ x, x = s % 256 := ⟨_, rfl⟩
  rw [← h0, ← h1, ← h2, ← h3] at hc
  rw [← h1] at a1
  rw [← h2] at a2
  rw [← h3] at a3
  have q0 := pop_le x0 (by omega)
  have q1 := pop_le x1 (by omega)
  have q2 := pop_le x2 (by omega)
  have q3 := pop_le x3 (by omega)
  have d0 : (s : Int) / 16777216 = (x0 : Int) := by omega
  have d1 : (s : Int) / 65536 = ((s / 65536 : Nat) : Int) := by omega
  have d2 : (s : Int) / 256 = ((s / 256 : Nat) : Int) := by omega
  have b0 : (0 : Int) ≤ (x0 : Int) := by omega
  have c0 : (x0 : Int) ≤ 255 := by omega
  have b1 : (0 : Int) ≤ (x1 : Int) := by omega
  have c1 : (x1 : Int) ≤ 255 := by omega
  have b2 : (0 : Int) ≤ (x2 : Int) := by omega
  have c2 : (x2 : Int) ≤ 255 := by omega
  have b3 : (0 : Int) ≤ (x3 : Int) := by omega
  have c3 : (x3 : Int) ≤ 255 := by omega
  have Hc := Lib.hid hc
  clear hc h0 h1 h2 h3
  generalize s / 65536 = y1 at *
  generalize s / 256 = y2 at *
  have s1 : IntKind.u8.wrap (Lib.pop8 (x0 : Int) + Lib.pop8 (x1 : Int)) = Lib.pop8 (x0 : Int) + Lib.pop8 (x1 : Int) := by rw [IntKind.wrap_u8]; omega
  have s2 : IntKind.u8.wrap (Lib.pop8 (x0 : Int) + Lib.pop8 (x1 : Int) + Lib.pop8 (x2 : Int)) = Lib.pop8 (x0 : Int) + Lib.pop8 (x1 : Int) + Lib.pop8 (x2 : Int) := by rw [IntKind.wrap_u8]; omega
  have s3 : IntKind.u8.wrap (Lib.pop8 (x0 : Int) + Lib.pop8 (x1 : Int) + Lib.pop8 (x2 : Int) + Lib.pop8 (x3 : Int)) = Lib.pop8 (x0 : Int) + Lib.pop8 (x1 : Int) + Lib.pop8 (x2 : Int) + Lib.pop8 (x3 : Int) := by rw [IntKind.wrap_u8]; omega
  have s4 : IntKind.i64.wrap (Lib.pop8 (x0 : Int) + Lib.pop8 (x1 : Int) + Lib.pop8 (x2 : Int) + Lib.pop8 (x3 : Int)) = Lib.pop8 (x0 : Int) + Lib.pop8 (x1 : Int) + Lib.pop8 (x2 : Int) + Lib.pop8 (x3 : Int) := IntWalk.i64_in _ (by omega)
  go_enter Tryd.func23, Tryd.ntmps23
  simp only [pop_str]
  go_wp2
  go_quiet (fail)
  go_wp2
  go_ret
  exact ⟨by rw [Hc.out]; rfl, nq, rfl⟩

set_option maxHeartbeats 400000 in
theorem set_count (s : Nat) (w : World) (hs : s < 4294967296) :
    Calls Tryd.prog 14 #[.int .u32 (s : Int)] w fun e w' => e = .returned (.int .i64 ((countN s : Nat) : Int)) ∧ Same w w' := by
  have hc := ones32 s w hs
  generalize countN s = c at *
  have Hc := Lib.hid hc
  clear hc
  go_enter Tryd.func14, Tryd.ntmps14
  go_wp2_with (go_at_call 23; (with_reducible refine Hc.out.mono ?_); rintro e w' ⟨rfl, m, rfl⟩)
  go_ret
  exact ⟨rfl, m, rfl⟩

theorem TabAt.below {w w' : World} (h : TabAt w) (hb : Below w.heap.size w w') : TabAt w' := fun j hj => by
  have hlt : 0 < w.heap.size := by
    have h0 := h 0 (by decide)
    rcases Nat.lt_or_ge 0 w.heap.size with h' | h'
    · exact h'
    · simp [World.cell?, Array.getElem?_eq_none h'] at h0
  exact (hb.cell (p := ⟨0, j, none⟩) hlt).trans (h j hj)

theorem mems_len (s : Nat) : (memsN s).length ≤ 32 := by
  have := List.length_filter_le (fun n => s.testBit n) (List.range 32)
  simpa [memsN] using this

/-- natural numbers as integers -/
def intsOf (l : List Nat) : List Int := l.map fun (n : Nat) => (n : Int)
theorem intsOf_length (l : List Nat) : (intsOf l).length = l.length := by simp [intsOf]

set_option maxHeartbeats 1000000 in
theorem set_members (s : Nat) (w : World) (hs : s < 4294967296) (hT : TabAt w) :
    Calls Tryd.prog 12 #[.int .u32 (s : Int)] w (RetInts .i64 w (intsOf (memsN s))) := by
  have Hlen := Lib.hid (mems_len s)
  go_enter Tryd.func12, Tryd.ntmps12
  go_wp2
  go_loopw [0, 3] (fun t o wr => ∃ (r : Nat) (A : Option Addr) (cp : Nat) (pre : List Nat), t = .int .u32 (r : Int) ∧ r < 4294967296 ∧ Hid (memsN s = pre ++ memsN r) ∧ o = .slice A pre.length cp ∧
      wr.ownsRow w.heap.size 3 1 (.slice A pre.length cp) pre.length (ints .i64 (intsOf pre)) ∧ Below w.heap.size w wr) (fun t _ _ => (intOf t).toNat)
  case atStart => exact ⟨s, none, 0, [], rfl, hs, Lib.hid rfl, rfl, World.ownsRow_nil _ _ _ _, Below.refl _ _⟩
  case round =>
    obtain ⟨r, A, cp, pre, rfl, hr, Hm, rfl, hown, hbel⟩ := hrel
    have hbs := hbel.size
    by_cases h0 : r = 0
    · subst h0
      have hm : memsN s = pre := by rw [Hm.out, mems_zero, List.append_nil]
      have Hm2 := Lib.hid hm
      clear hm
      go_wp2
      go_ret
      have e : intsOf (memsN s) = intsOf pre := by rw [Hm2.out]
      rw [e]
      refine ⟨A, cp, by rw [intsOf_length]; rfl, ?_, hbel⟩
      rw [intsOf_length]
      exact own_sl hown
    · have hst := mems_step r h0 hr
      obtain ⟨hk, _, _, _, hlt⟩ := low_bits r h0 hr
      have hz : ((r : Int) != 0) = true := by rw [bne_iff_ne]; omega
      have hc := tz32 r wr h0 hr (hT.below hbel)
      have hand : bits .and .u32 (r : Int) ((r : Int) - 1) = ((r &&& (r - 1) : Nat) : Int) := by
        rw [show (r : Int) - 1 = ((r - 1 : Nat) : Int) from by omega]
        exact and32 r (r - 1) hr (by omega)
      have hr0 : 0 < r := by omega
      have hpl : pre.length < 32 := by
        have := Hlen.out
        rw [Hm.out, hst, List.length_append, List.length_cons] at this
        omega
      have Hst := Lib.hid hst
      have Hc := Lib.hid hc
      clear hst hc
      generalize Lib.ctz 32 r = k at *
      generalize r &&& (r - 1) = r2 at *
      go_wp2_with (first
        | (go_at_call 22; (with_reducible refine Hc.out.mono ?_); rintro e w' ⟨rfl, rfl⟩)
        | (at_builtin; refine wpl_append1 (w := wr) rfl _ _ 23 rfl w.heap.size 3 (.int .i64 0) 8 Tryd.underlying23 Tryd.infoInt rfl _ pre.length _ _ rfl hown (.int .i64 ((k : Int))) rfl rfl (by omega) (by omega) (by omega) ?_; intro A4 c4 w2 ho hg))
      go_roundw
      case rel =>
        have e : ints .i64 (intsOf (pre ++ [k])) = ints .i64 (intsOf pre) ++ [.int .i64 (k : Int)] := by simp [ints, intsOf]
        have e2 : (pre ++ [k]).length = pre.length + 1 := by simp
        refine ⟨r2, A4, c4, pre ++ [k], rfl, by omega, Lib.hid (by rw [Hm.out, Hst.out]; simp), by rw [e2], ?_, below_append hbel hg hown hbs⟩
        rw [e, e2]
        exact ho
      case measure => simp [intOf]; omega
end Go.Proofs.YtapnnnciaagbdaaDoor
