/- lex: the law of words that are parted, walked. -/
import Derived.Test.YtcmfflfgegadjaaLxA
import Derived.Test.YtcmfflfgegadjaaLxL3
import Derived.Test.YtcmfflfgegadjaaKit5
namespace Go.Proofs.Ytcmfflfgegadjaa
open Go.RowKit
set_option linter.unusedVariables false
set_option linter.unusedSimpArgs false

/-- the words' bytes -/
abbrev wordsOf (ss : List ByteArray) : List (List Nat) := ss.map bytesOf
theorem flat_take (ss : List ByteArray) (k : Nat) (s : ByteArray) (h : ss[k]? = some s) : flatB (wordsOf (ss.take (k + 1))) = flatB (wordsOf (ss.take k)) ++ bytesOf s ++ [32] := by
  rw [List.take_add_one, h]
  simp [flatB]

set_option maxRecDepth 100000 in
set_option maxHeartbeats 4000000 in
theorem lexApart_walk (a0 : Option Addr) (len0 cap0 : Nat) (ss : List ByteArray) (W : World) (h0 : Strs W a0 len0 cap0 ss) (hM : MaxAt W) :
    Calls Try.prog 5 #[.slice a0 len0 cap0] W fun e w' => e = .returned (.bool true) ∧ Below W.heap.size W w' := by
  obtain rfl := h0.len
  have A0 := Lib.hid (alive07 W hM)
  by_cases hlen : ss.length ≤ 100
  case neg =>
    have hg : (100 : Int) < (ss.length : Int) := by omega
    go_enter Try.func5, Try.ntmps5
    go_wp2_with fail
    (with_reducible refine A0.out.mono ?_)
    rintro e w1 ⟨rfl, hB⟩
    go_wp2_with fail
    go_ret
    exact ⟨rfl, hB⟩
  have hg : ¬ (100 : Int) < (ss.length : Int) := by omega
  have H0 := Lib.hid h0
  clear h0
  go_enter Try.func5, Try.ntmps5
  go_wp2_with fail
  (with_reducible refine A0.out.mono ?_)
  rintro e w1 ⟨rfl, hB⟩
  have H1 := Lib.hid (H0.out.below hB)
  have HM := Lib.hid (hM.below hB)
  have HB := Lib.hid hB
  clear hB hM
  have hi8 : (Try.prog.info? 5).map (fun i => (i.zero, i.size, i.bytes)) = some (some (.int .u8 0), 1, 1) := by kernel_rfl
  have Hi8 := Lib.hid hi8
  clear hi8
  go_wp2_with fail
  go_loopw [3, 4] (fun b i wr => ∃ k BA bc, k ≤ ss.length ∧ i = .int .i64 ((k : Nat) : Int) ∧ b = .slice BA (flatB (wordsOf (ss.take k))).length bc ∧ wr.ownsRow w1.heap.size 5 1 (.slice BA (flatB (wordsOf (ss.take k))).length bc) (flatB (wordsOf (ss.take k))).length (nums .u8 (flatB (wordsOf (ss.take k)))) ∧ Below w1.heap.size w1 wr ∧ Hid (∀ x ∈ wordsOf (ss.take k), wordB x = true)) (fun _ i _ => ss.length - (intOf i).toNat)
  case atStart => exact ⟨0, none, 0, Nat.zero_le _, rfl, rfl, ⟨rfl, .inl ⟨rfl, rfl⟩⟩, Below.refl _ _, Lib.hid fun x hx => by simp at hx⟩
  case round =>
    obtain ⟨k, BA, bc, hk, rfl, rfl, ho, hBe, Hw⟩ := hrel
    have hfl := flatB_len _ Hw.out
    have hkl : (wordsOf (ss.take k)).length ≤ 100 := by rw [List.length_map, List.length_take]; omega
    have Ho := Lib.hid ho
    clear ho
    by_cases hkk : k < ss.length
    · obtain ⟨b, off, s, rfl, hb, Hs, hc⟩ := (H1.out.below hBe).get hkk
      have hft := flat_take ss k s Hs.out
      have c1 := fun w => ref_name s w
      have c2 := fun w => ref_Literal s w
      have hwb : wordB (bytesOf s) = (nameB (bytesOf s) || litB (bytesOf s)) := rfl
      have hbl := bytesOf_len s
      have Hwn : Hid (wordB (bytesOf s) = true → ∀ x ∈ wordsOf (ss.take (k + 1)), wordB x = true) := Lib.hid fun h x hx => by
        rw [wordsOf, List.take_add_one, Hs.out] at hx
        simp only [Option.toList_some, List.map_append, List.map_cons, List.map_nil, List.mem_append, List.mem_singleton] at hx
        rcases hx with hx | rfl
        · exact Hw.out x hx
        · exact h
      have hsz : wordB (bytesOf s) = true → s.size ≤ 20 := fun h => by rw [← hbl]; exact (wordB_len h).2
      generalize wordB (bytesOf s) = q at *
      generalize nameB (bytesOf s) = q1 at *
      generalize litB (bytesOf s) = q2 at *
      have C1 := Lib.hid c1
      have C2 := Lib.hid c2
      have Hft := Lib.hid hft
      have Hbl := Lib.hid hbl
      clear c1 c2 hft hbl
      generalize flatB (wordsOf (ss.take k)) = F at *
      cases q1 <;> cases q2
      · go_wp2_with fail
        (with_reducible refine (C1.out _).mono ?_)
        rintro e w2 ⟨rfl, rfl⟩
        go_wp2_with fail
        (with_reducible refine (C2.out _).mono ?_)
        rintro e w2 ⟨rfl, rfl⟩
        go_wp2_with fail
        go_ret
        exact ⟨rfl, below_tail HB.out hBe⟩
      all_goals
        simp only [Bool.or_true, Bool.true_or] at hwb
        subst hwb
        have hs20 := hsz rfl
        clear hsz
        have hbase := hBe.size
        have hn1 : F.length + s.size ≤ 140737488355328 := by omega
        have hn2 : (F.length + s.size + 1) * 1 ≤ 140737488355328 := by omega
        go_wp2_with (first
          | (go_at_call 9; (with_reducible refine (C1.out _).mono ?_); rintro e w2 ⟨rfl, rfl⟩)
          | (go_at_call 11; (with_reducible refine (C2.out _).mono ?_); rintro e w2 ⟨rfl, rfl⟩)
          | (at_builtin; refine wpl_append_str rfl _ _ 24 9 rfl w1.heap.size 5 Try.underlying24 Try.underlying9 Hi8.out BA F.length bc F rfl Ho.out s rfl hn1 hbase ?_; intro A' c' w' ho hg1)
          | (at_builtin; refine wpl_append1 rfl _ _ 24 rfl w1.heap.size 5 _ 1 Try.underlying24 Hi8.out (by decide) _ _ _ _ rfl (by assumption) (.int .u8 32) rfl rfl (by omega) hn2 ?_ ?_))
        · exact Nat.le_trans hbase hg1.size
        intro A2 c2 w2 ho2 hg2
        have hB1 : Below w1.heap.size w1 w' := below_append hBe hg1 Ho.out hbase
        have hB2 : Below w1.heap.size w1 w2 := below_append hB1 hg2 ho (Nat.le_trans hbase hg1.size)
        have hl2 : F.length + s.size + 1 = (flatB (wordsOf (ss.take (k + 1)))).length := by
          rw [Hft.out, List.length_append, List.length_append, Hbl.out]; rfl
        have ho3 : w2.ownsRow w1.heap.size 5 1 (.slice A2 (flatB (wordsOf (ss.take (k + 1)))).length c2) (flatB (wordsOf (ss.take (k + 1)))).length (nums .u8 (flatB (wordsOf (ss.take (k + 1))))) := by
          rw [← hl2, Hft.out, nums_snoc]; exact ho2
        have Ho3 := Lib.hid ho3
        have Hl2 := Lib.hid hl2
        have HB2 := Lib.hid hB2
        clear ho ho2 ho3 hl2 hB1 hB2 hg1 hg2 hBe
        go_wp2_with fail
        go_roundw
        case rel => exact ⟨k + 1, A2, c2, by omega, by go_num, by rw [Hl2.out], Ho3.out, HB2.out, Lib.hid (Hwn.out trivial)⟩
        case measure => simp [intOf]; omega
    · obtain rfl : k = ss.length := by omega
      have hT : ss.take ss.length = ss := List.take_of_length_le (Nat.le_refl _)
      rw [hT] at Ho Hw hfl hkl ⊢
      clear hT
      obtain ⟨ts, hlx, htx⟩ := lexN_words _ Hw.out
      have hlt : ∀ y ∈ flatB (wordsOf ss), y < 256 := fun y hy => by
        simp only [flatB, wordsOf, List.mem_flatMap, List.mem_map] at hy
        obtain ⟨w, ⟨s, _, rfl⟩, hy⟩ := hy
        rw [List.mem_append, List.mem_singleton] at hy
        rcases hy with hy | rfl
        · exact bytesOf_lt s y hy
        · decide
      have hc := lx_tokens BA _ bc (flatB (wordsOf ss)) wr (own_sl Ho.out) (own_nil Ho.out) hlt (by omega) (HM.out.below hBe)
      rw [hlx] at hc
      have htl : ts.length = ss.length := by
        have := congrArg List.length htx
        simpa using this
      have Htx := Lib.hid htx
      have Hc := Lib.hid hc
      have Htl := Lib.hid htl
      clear hlx htx hc hlt htl
      generalize flatB (wordsOf ss) = F at *
      have hbig : ¬ (4000 : Int) < (F.length : Int) := by omega
      have htn : ((ts.length : Int) != (ss.length : Int)) = false := by rw [bne_eq_false_iff_eq, Htl.out]
      go_wp2_with (go_at_call 12; (with_reducible refine Hc.out.mono ?_); rintro e w2 ⟨LA, lc, rfl, ho, hb2⟩)
      have Ho2 := Lib.hid ho
      have hB2 : Below w1.heap.size w1 w2 := below_tail hBe hb2
      have HB2 := Lib.hid (below_tail HB.out hB2)
      have H2 := Lib.hid (H1.out.below hB2)
      clear ho hb2 hBe hB2 hbig htn hfl hkl hkk hk
      go_loopw [8] (fun i wr => ∃ k : Nat, k ≤ ss.length ∧ i = .int .i64 (k : Int) ∧ Same w2 wr) (fun i _ => ss.length - (intOf i).toNat)
      case atStart => exact ⟨0, Nat.zero_le _, rfl, Same.refl _⟩
      case round =>
        obtain ⟨k, hk, rfl, hS⟩ := hrel
        by_cases hkk : k < ss.length
        · obtain ⟨g, rfl, _, hgl, hnc, hcells⟩ := own_cellsS Ho2.out (by have := Htl.out; omega)
          have hcap := own_capS Ho2.out
          obtain ⟨b, off, s, rfl, hb, Hs, hc⟩ := H2.out.get hkk
          have htk : k < ts.length := by have := Htl.out; omega
          obtain ⟨_, t1, _⟩ := toksCells_get ts k htk
          have hts : ts[k].2.1 = bytesOf s := by
            have h1 := congrArg (fun l => l[k]?) Htx.out
            simp only [List.getElem?_map, List.getElem?_eq_getElem htk, Hs.out, Option.map_some] at h1
            injection h1
          rw [hts, str_bytesOf] at t1
          have d1 : wr.cell? ⟨g, k * 3 + 1, none⟩ = some (.string s) := ((hS.below w2.heap.size).cell hgl).trans ((hcells (k * 3 + 1) (by omega)).trans t1)
          have d2 : wr.cell? ⟨b, off + k, none⟩ = some (.string s) := ((hS.below w2.heap.size).cell hb).trans hc
          clear hcells t1 hts hc
          go_wp2_with fail
          go_quiet (fail)
          go_wp2_with fail
          go_roundw
          case rel => exact ⟨k + 1, by omega, by go_num, hS.drewN _⟩
          case measure => simp [intOf]; omega
        · go_wp2_with fail
          go_ret
          exact ⟨rfl, HB2.out.trans (hS.below _)⟩
end Go.Proofs.Ytcmfflfgegadjaa
