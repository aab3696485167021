/- lex: the law of the order, walked. -/
import Derived.Test.YtcmfflfgegadjaaLxO
import Derived.Test.YtcmfflfgegadjaaLxQ
import Derived.Test.YtcmfflfgegadjaaEntryB
namespace Go.Proofs.Ytcmfflfgegadjaa
open Go.RowKit
set_option linter.unusedVariables false
set_option linter.unusedSimpArgs false

theorem toksCells_get : ∀ (ts : List Tok) (i : Nat) (h : i < ts.length), (toksCells ts)[i * 3]? = some (.int .i64 (ts[i].1 : Int)) ∧ (toksCells ts)[i * 3 + 1]? = some (.string (str ts[i].2.1)) ∧ (toksCells ts)[i * 3 + 2]? = some (PA ts[i].2.2)
  | [], i, h => by simp at h
  | t :: ts, 0, _ => ⟨rfl, rfl, rfl⟩
  | t :: ts, i + 1, h => by
    have ih := toksCells_get ts i (by simpa using h)
    have e : toksCells (t :: ts) = tokCells t ++ toksCells ts := by simp [toksCells]
    have hl : (tokCells t).length = 3 := rfl
    rw [e]
    refine ⟨?_, ?_, ?_⟩
    · rw [List.getElem?_append_right (by rw [hl]; omega), hl, show (i + 1) * 3 - 3 = i * 3 from by omega]; exact ih.1
    · rw [List.getElem?_append_right (by rw [hl]; omega), hl, show (i + 1) * 3 + 1 - 3 = i * 3 + 1 from by omega]; exact ih.2.1
    · rw [List.getElem?_append_right (by rw [hl]; omega), hl, show (i + 1) * 3 + 2 - 3 = i * 3 + 2 from by omega]; exact ih.2.2
theorem quiet_eq {P : Program} {f : FuncId} {args : Array Value} {w : World} {n : Nat} {v : Value}
    (h : Calls P f args (w.drewN n) fun e w' => e = .returned v ∧ w.drewN n = w') : Calls P f args (w.drewN n) fun e w'' => e = .returned v ∧ ∃ m, w'' = w.drewN m :=
  h.mono fun _ _ ⟨he, hm⟩ => ⟨he, n, hm.symm⟩
theorem atP_PA (bs : List Nat) (x : Nat) (h : x ≤ bs.length) : atP bs (x : Int) = PA (bs.take x) := by
  unfold atP
  rw [if_pos (by omega), Int.toNat_natCast]
  rfl
theorem own_capS {w : World} {base e size n c : Nat} {A : Option Addr} {xs : List Value} (h : w.ownsRow base e size (.slice A n c) n xs) : n ≤ 9223372036854775807 := by
  rcases h.2 with ⟨h0, h1⟩ | ⟨g, cap, cur, hv, hb, hg, hnc, hcm, hcs, htake⟩
  · injection h0 with _ h2 _
    omega
  · have : maxLen = 9223372036854775807 := by simp [maxLen]
    omega
/-- the place at which the k-th round of the law begins -/
def posN (ts : List Tok) (k : Nat) : Nat := if k = 0 then 0 else ((ts[k - 1]?).map fun t => t.2.2.length).getD 0
theorem posN_le (bs : List Nat) (ts : List Tok) (h : ∀ t ∈ ts, TokOK bs t) (hr : Rising ts) (k : Nat) (hk : k < ts.length) : posN ts k ≤ ts[k].2.2.length := by
  unfold posN
  split
  · exact Nat.zero_le _
  · rw [List.getElem?_eq_getElem (by omega)]
    have := List.pairwise_iff_getElem.1 hr (k - 1) k (by omega) hk (by omega)
    simp only [Option.map_some, Option.getD_some]
    omega
theorem posN_succ (ts : List Tok) (k : Nat) (hk : k < ts.length) : posN ts (k + 1) = ts[k].2.2.length := by
  unfold posN
  rw [if_neg (by omega), Nat.add_sub_cancel, List.getElem?_eq_getElem hk]
  rfl

set_option maxRecDepth 100000 in
set_option maxHeartbeats 4000000 in
theorem lexOrder_walk (a0 : Option Addr) (len0 cap0 : Nat) (z0 : List Int) (W : World) (w0 : IsRow .u8 W a0 len0 cap0 z0) (hM : MaxAt W) :
    Calls Try.prog 4 #[.slice a0 len0 cap0] W fun e w' => e = .returned (.bool true) ∧ Below W.heap.size W w' := by
  obtain ⟨bs, hb, hlt, hcap⟩ := row_bytes w0
  clear w0
  obtain rfl := hb.len
  have A0 := Lib.hid (alive07 W hM)
  by_cases hlen : bs.length ≤ 2000
  case neg =>
    have hg : (2000 : Int) < (bs.length : Int) := by omega
    clear hb
    go_enter Try.func4, Try.ntmps4
    go_wp2_with fail
    (with_reducible refine A0.out.mono ?_)
    rintro e w1 ⟨rfl, hB⟩
    go_wp2_with fail
    go_ret
    exact ⟨rfl, hB⟩
  have hg : ¬ (2000 : Int) < (bs.length : Int) := by omega
  have Hok := Lib.hid (lex_ok bs)
  have Hlt := Lib.hid hlt
  have Hcap := Lib.hid hcap
  have Hb := Lib.hid hb
  clear hlt hcap hb
  go_enter Try.func4, Try.ntmps4
  go_wp2_with fail
  (with_reducible refine A0.out.mono ?_)
  rintro e w1 ⟨rfl, hB⟩
  have Hb1 := Lib.hid (Hb.out.below hB)
  have hc := lx_tokens a0 bs.length cap0 bs w1 Hb1.out Hcap.out Hlt.out (by omega) (hM.below hB)
  generalize lexN bs = r at *
  obtain ⟨ts, pr, er⟩ := r
  simp only [] at hc Hok
  have Hc := Lib.hid hc
  clear hc hM
  go_wp2_with fail
  (with_reducible refine Hc.out.mono ?_)
  rintro e w2 ⟨LA, lc, rfl, ho, hB2⟩
  have hB' := below_tail hB hB2
  have Hb2 := Lib.hid (Hb1.out.below hB2)
  clear hB hB2
  simp only [] at ho
  by_cases he : er = 0
  case neg =>
    have q : ((er : Int) != 0) = true := by rw [bne_iff_ne]; omega
    have hts : ts = [] := Hok.out.1 he
    subst hts
    clear he
    go_wp2_with fail
    go_ret
    exact ⟨rfl, hB'⟩
  subst he
  obtain ⟨hts, hris, rfl⟩ := Hok.out.2 rfl
  clear Hok Hc
  have Hts := Lib.hid hts
  have Hris := Lib.hid hris
  have Ho := Lib.hid ho
  have HB := Lib.hid hB'
  clear hts hris ho hB'
  generalize pr = bs at *
  have hneg0 : decide ((bs.length : Int) < 0) = false := by simp
  go_wp2_with fail
  go_loopw [6, 7, 8] (fun a i s wr => ∃ k : Nat, k ≤ ts.length ∧ i = .int .i64 (k : Int) ∧ a = .int .i64 (posN ts k : Int) ∧ Same w2 wr) (fun a i s wr => ts.length - (intOf i).toNat)
  case atStart => exact ⟨0, Nat.zero_le _, rfl, rfl, Same.refl _⟩
  case round =>
    obtain ⟨wo, rfl⟩ : ∃ wo : World, wo = wr := ⟨_, rfl⟩
    obtain ⟨k, hk, rfl, rfl, hS⟩ := hrel
    by_cases hkl : k < ts.length
    case neg =>
      obtain rfl : k = ts.length := by omega
      obtain ⟨u, v, u2, v2, e1, e2, _, e3⟩ := two_places bs bs.length bs.length (Nat.le_refl _) (Nat.le_refl _) (by omega)
      rw [e1] at e2
      injection e2 with _ e4 e5
      subst e4
      subst e5
      rw [List.take_of_length_le (Nat.le_refl _)] at e1
      have hc := ref_at a0 bs.length cap0 bs (bs.length : Int) wo (Hb2.out.same hS) (by omega)
      rw [atP_PA bs bs.length (Nat.le_refl _), List.take_of_length_le (Nat.le_refl _), e1] at hc
      have heq : ∀ w, (binOp .eql 26 (.complex .f64 u v) (.complex .f64 u v)).run Try.prog w = .ok (.bool true) w := fun w => by rw [run_eql_complex, e3]; simp
      rw [e1]
      have Hc := Lib.hid hc
      clear hc e1 e3
      go_wp2_with fail
      (with_reducible refine Hc.out.mono ?_)
      rintro e w3 ⟨rfl, rfl⟩
      go_wp2_with fail
      go_ret
      exact ⟨rfl, HB.out.trans (hS.below _)⟩
    have hT := Hts.out _ (List.getElem_mem hkl)
    obtain ⟨g, rfl, _, hgl, hnc, hcells⟩ := own_cellsS Ho.out (by omega)
    obtain ⟨t0, t1, t2⟩ := toksCells_get ts k hkl
    have d0 : ∀ w', Same w2 w' → w'.cell? ⟨g, k * 3, none⟩ = some (.int .i64 (ts[k].1 : Int)) := fun w' h => ((h.below w2.heap.size).cell hgl).trans ((hcells (k * 3) (by omega)).trans t0)
    have d1 : ∀ w', Same w2 w' → w'.cell? ⟨g, k * 3 + 1, none⟩ = some (.string (str ts[k].2.1)) := fun w' h => ((h.below w2.heap.size).cell hgl).trans ((hcells (k * 3 + 1) (by omega)).trans t1)
    have d2 : ∀ w', Same w2 w' → w'.cell? ⟨g, k * 3 + 2, none⟩ = some (PA ts[k].2.2) := fun w' h => ((h.below w2.heap.size).cell hgl).trans ((hcells (k * 3 + 2) (by omega)).trans t2)
    have htl := own_capS Ho.out
    have hp := posN_le bs ts Hts.out Hris.out k hkl
    have hps := posN_succ ts k hkl
    have hrk : ∀ j (hj : j + 1 = k), ts[j].2.2.length < ts[k].2.2.length := fun j hj => List.pairwise_iff_getElem.1 Hris.out j k (by omega) hkl (by omega)
    clear t0 t1 t2
    have Hcells := Lib.hid hcells
    have Hrk := Lib.hid hrk
    clear hcells hrk
    generalize ts[k] = t at *
    obtain ⟨kd, tx, pre⟩ := t
    obtain ⟨hpre, hplt, hple, htx, hnm, hlit, _⟩ := hT
    simp only [] at d0 d1 d2 hp hps hpre hplt hple htx hnm hlit
    generalize pre.length = p at *
    subst hpre
    have Htx := Lib.hid htx
    have Hnm := Lib.hid hnm
    have Hlit := Lib.hid hlit
    have Hps := Lib.hid hps
    have D0 := Lib.hid d0
    have D1 := Lib.hid d1
    have D2 := Lib.hid d2
    clear htx hnm hlit hps d0 d1 d2
    go_wp2_with fail
    go_loopw [6] (fun a wr => ∃ x : Nat, x ≤ p ∧ a = .int .i64 (x : Int) ∧ Same w2 wr) (fun a wr => p - (intOf a).toNat)
    case atStart => exact ⟨posN ts k, hp, rfl, hS⟩
    case round =>
      clear hS
      obtain ⟨x, hx, rfl, hS⟩ := hrel
      obtain ⟨u, v, u2, v2, e1, e2, hbf, heq⟩ := two_places bs x p (by omega) (by omega) (by omega)
      have cAt : ∀ j, Calls Try.prog 13 #[.slice a0 bs.length cap0, .int .i64 (x : Int)] (wr.drewN j) fun e w' => e = .returned (.complex .f64 u v) ∧ wr.drewN j = w' := fun j => by
        have := ref_at a0 bs.length cap0 bs (x : Int) (wr.drewN j) ((Hb2.out.same hS).drewN j) (by omega)
        rwa [atP_PA bs x (by omega), e1] at this
      have hn : ∀ w, (binOp .neq 26 (.complex .f64 u v) (.complex .f64 u2 v2)).run Try.prog w = .ok (.bool (!decide (x = p))) w := fun w => by
        rw [run_neq_complex, heq]
      have d2 := D2.out wr hS
      rw [e2] at d2
      have CAt := Lib.hid cAt
      have hxl : decide (x < bs.length) = true := by simp; omega
      clear cAt heq e1 e2 hbf
      by_cases hxp : x = p
      · rw [decide_eq_true hxp] at hn
        subst hxp
        go_wp2_with fail
        go_quiet ((go_at_call 13; with_reducible exact quiet_eq (CAt.out _)))
        clear hxl hn d2
        have hS2 := hS.drewN nq
        generalize wr.drewN nq = wy at *
        clear hS
        have hw : ∃ wz, wz = wy := ⟨_, rfl⟩
        have d1 := D1.out wy hS2
        go_wp2_with fail
        obtain ⟨b, off, rfl, hbl, hc0⟩ := Hb2.out.at_ (by omega)
        clear hc0
        have hcp := Hb2.out.cap
        have hlen1 : decide (bs.length ≤ x) = false := by simp; omega
        have hlen2 : decide (bs.length - x < tx.length) = false := by simp; omega
        have hpart : Nums .u8 wy (some ⟨b, off + x, none⟩) tx.length (cap0 - x) tx := by
          have := (Hb2.out.same hS2).part x tx.length (cap0 - x) (by omega) (by omega) (by omega)
          rwa [Htx.out] at this
        have hconv : ∀ m, (convert 24 9 (.slice (some ⟨b, off + x, none⟩) tx.length (cap0 - x))).run Try.prog (wy.drewN m) = .ok (.string (str tx)) (wy.drewN m) := fun m =>
          run_bytes_str _ 24 5 9 Try.underlying24 Try.underlying5 Try.underlying9 _ _ tx (hpart.drewN m)
        have hsz := str_size tx
        have s1 : IntKind.i64.wrap ((bs.length : Int) - (x : Int)) = ((bs.length - x : Nat) : Int) := by rw [IntWalk.i64_in _ (by omega)]; omega
        have s2 : IntKind.i64.wrap ((x : Int) + (tx.length : Int)) = ((x + tx.length : Nat) : Int) := by rw [IntWalk.i64_in _ (by omega)]; omega
        have hb2 : ∀ y ∈ tx, y < 256 := fun y hy => by
          have h1 := Htx.out
          rw [← h1] at hy
          exact Hlt.out y (List.mem_of_mem_drop (List.mem_of_mem_take hy))
        have cN : ∀ w, Calls Try.prog 9 #[.string (str tx)] w fun e w' => e = .returned (.bool (kd == 1)) ∧ w = w' := fun w => by
          have := ref_name (str tx) w
          rwa [bytesOf_str tx hb2, ← Hnm.out] at this
        have cL : ∀ w, Calls Try.prog 11 #[.string (str tx)] w fun e w' => e = .returned (.bool (kd == 2)) ∧ w = w' := fun w => by
          have := ref_Literal (str tx) w
          rwa [bytesOf_str tx hb2, ← Hlit.out] at this
        have CN := Lib.hid cN
        have CL := Lib.hid cL
        have Hk1 : Hid (((kd : Int) == 1) = (kd == 1)) := Lib.hid (by rw [Bool.eq_iff_iff]; simp; omega)
        have Hk2 : Hid (((kd : Int) == 2) = (kd == 2)) := Lib.hid (by rw [Bool.eq_iff_iff]; simp; omega)
        generalize (kd == 1) = q1 at *
        generalize (kd == 2) = q2 at *
        clear cN cL hb2
        rcases Nat.eq_zero_or_pos k with hk0 | hk0
        · subst hk0
          have hz : decide ((0 : Int) < ((0 : Nat) : Int)) = false := by decide
          go_quiet (fail)
          have hS3 := hS2.drewN nq
          generalize wy.drewN nq = wz at *
          clear hconv hpart hS2 hsz s1 s2 d1
          have d0 : ∀ j, (wz.drewN j).cell? ⟨g, 0 * 3, none⟩ = some (.int .i64 (kd : Int)) := fun j => D0.out _ (hS3.drewN j)
          have k1 := Hk1.out
          have k2 := Hk2.out
          go_wp2_with fail
          go_quiet (first
            | (go_at_call 9; with_reducible exact quiet_eq (CN.out _))
            | (go_at_call 11; with_reducible exact quiet_eq (CL.out _)))
          go_wp2_with fail
          go_roundw
          case rel => exact ⟨1, by omega, by go_num, by rw [Hps.out], hS3.drewN nq⟩
          case measure => simp [intOf]; omega
        · obtain ⟨j, rfl⟩ : ∃ j, k = j + 1 := ⟨k - 1, by omega⟩
          have hj : j < ts.length := by omega
          have hlj := Hrk.out j rfl
          have hTj := Hts.out _ (List.getElem_mem hj)
          obtain ⟨hjp, hjl, _, _, _, _, _⟩ := hTj
          have hpj := posN_succ ts j hj
          obtain ⟨_, _, t2⟩ := toksCells_get ts j hj
          have hcj : ∀ w', Same w2 w' → w'.cell? ⟨g, j * 3 + 2, none⟩ = some (PA ts[j].2.2) := fun w' h => ((h.below w2.heap.size).cell hgl).trans (((Hcells.out (j * 3 + 2) (by omega))).trans t2)
          generalize ts[j] = t' at *
          obtain ⟨kd', tx', pre'⟩ := t'
          simp only [] at hjp hjl hpj hcj hlj
          generalize pre'.length = p' at *
          subst hjp
          obtain ⟨u3, v3, u4, v4, f1, f2, hbf, _⟩ := two_places bs p' x (by omega) (by omega) (by omega)
          rw [decide_eq_true hlj] at hbf
          have Hbf := Lib.hid hbf
          have dj : ∀ m, (wy.drewN m).cell? ⟨g, j * 3 + 2, none⟩ = some (.complex .f64 u3 v3) := fun m => by rw [← f1]; exact hcj _ (hS2.drewN m)
          have d2 : ∀ m, (wy.drewN m).cell? ⟨g, (j + 1) * 3 + 2, none⟩ = some (.complex .f64 u4 v4) := fun m => by rw [← f2]; exact D2.out _ (hS2.drewN m)
          have s3 : IntKind.i64.wrap (((j + 1 : Nat) : Int) - 1) = (j : Int) := by rw [IntWalk.i64_in _ (by omega)]; omega
          have hz : decide ((0 : Int) < ((j + 1 : Nat) : Int)) = true := by simp
          clear hcj hbf f1 f2 t2 hpj d1
          go_quiet ((go_at_call 14; with_reducible exact quiet_eq (Hbf.out _)))
          have hS3 := hS2.drewN nq
          generalize wy.drewN nq = wz at *
          clear hconv hpart hS2 hsz s1 s2 s3 dj d2 hz
          have d0 : ∀ m, (wz.drewN m).cell? ⟨g, (j + 1) * 3, none⟩ = some (.int .i64 (kd : Int)) := fun m => D0.out _ (hS3.drewN m)
          have k1 := Hk1.out
          have k2 := Hk2.out
          go_wp2_with fail
          go_quiet (first
            | (go_at_call 9; with_reducible exact quiet_eq (CN.out _))
            | (go_at_call 11; with_reducible exact quiet_eq (CL.out _)))
          go_wp2_with fail
          go_roundw
          case rel => exact ⟨j + 1 + 1, by omega, by go_num, by rw [Hps.out], hS3.drewN nq⟩
          case measure => simp [intOf]; omega
      · rw [decide_eq_false hxp] at hn
        have Hxp := Lib.hid hxp
        clear hxp
        go_wp2_with fail
        go_quiet ((go_at_call 13; with_reducible exact quiet_eq (CAt.out _)))
        go_wp2_with fail
        go_roundw
        case rel => exact ⟨x + 1, by have := Hxp.out; omega, by go_num, hS.drewN _⟩
        case measure => have := Hxp.out; simp [intOf]; omega
end Go.Proofs.Ytcmfflfgegadjaa
