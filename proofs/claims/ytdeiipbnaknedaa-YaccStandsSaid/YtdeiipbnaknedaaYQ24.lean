/- yacc: Parse: of a text. -/
import Derived.Test.YtdeiipbnaknedaaYQ22
import Derived.Test.YtdeiipbnaknedaaYQ23
import Derived.Test.YtdeiipbnaknedaaYQ16
import Derived.Laws.StructEq
namespace Go.Proofs.Ytdeiipbnaknedaa
open Go.RowKit
set_option linter.unusedVariables false
set_option linter.unusedSimpArgs false

theorem lexGo_len : ∀ (f : Nat) (l pre : List Nat) (mk : Nat) (acc : List Tok), (lexGo f l pre mk acc).1.length ≤ acc.length + l.length
  | 0, l, pre, mk, acc => by simp [lexGo]
  | f + 1, l, pre, mk, acc => by
    unfold lexGo
    split
    · simp
    · rename_i h0
      split
      · split
        · simp
        · have h1 := lexGo_len f (l.drop (skipN l).1) (pre ++ l.take (skipN l).1) mk acc
          rw [List.length_drop] at h1
          omega
      · split
        · rename_i hz
          have h2 := tokN_le l (by omega) hz
          have h1 := lexGo_len f (l.drop (tokN l).2.2.1) (pre ++ l.take (tokN l).2.2.1) (if (tokN l).1 = 9 then mk + 1 else mk) (acc ++ [((tokN l).1, (tokN l).2.1, pre)])
          rw [List.length_drop, List.length_append, List.length_singleton] at h1
          omega
        · simp
/-- a text's source, or where and why there is none -/
def parseY (bs : List Nat) : ResY (List DclY × List PrdY) := if (lexN bs).2.2 = 0 then srcY (lexN bs).2.1 (lexN bs).1 else .bad (lexN bs).2.1 (lexN bs).2.2
set_option maxRecDepth 20000 in
set_option maxHeartbeats 1000000 in
theorem yc_Parse (A : Option Addr) (n c : Nat) (bs : List Nat) (W : World) (h : Nums .u8 W A n c bs) (hA : A = none → c = 0) (hb : ∀ y ∈ bs, y < 256) (hn : n ≤ 4000) (hM : MaxAt W) :
    Calls Try.prog 5 #[.slice A n c] W (RetOf W (parseY bs)) := by
  have hl := h.len
  have CL := Lib.hid fun (W2 : World) (hB : Below W.heap.size W W2) => lx_tokens A n c bs W2 (h.below hB) hA hb hn (hM.below hB)
  have hB0 := alloc_below W (.cells #[.slice none 0 0, .slice none 0 0] 27)
  have b0 := Blk.new W 27 #[.slice none 0 0, .slice none 0 0]
  have hz0 : (W.alloc (.cells #[.slice none 0 0, .slice none 0 0] 27)).heap.size = W.heap.size + 1 := alloc_size _ _
  have hlen : (lexN bs).1.length ≤ 4000 := by
    have := lexGo_len (bs.length + 1) bs [] 0 []
    unfold lexN
    simp only [List.length_nil] at this
    omega
  unfold parseY
  unfold RetTok at CL
  generalize lexN bs = r at *
  obtain ⟨x, y, hxy⟩ := PA_form r.2.1
  have Hlen := Lib.hid hlen
  by_cases h0 : r.2.2 = 0
  · rw [if_pos h0]
    have e0 : ((r.2.2 : Int) != 0) = false := by rw [h0]; rfl
    have CO := Lib.hid fun (W2 : World) (A2 : Option Addr) (c2 : Nat) (hF : Flat 3 tokCells W2 W2.heap.size A2 r.1.length c2 r.1) => yc_Of A2 r.1.length c2 r.2.1 r.1 W2 hF hlen
    rw [hxy] at CL CO
    clear h hA hb hM hl h0 hlen
    obtain ⟨s, r0, hS⟩ | ⟨pre, er, hS⟩ := ResY.ways (srcY r.2.1 r.1)
    · rw [hS] at CO ⊢
      unfold RetOf at CO
      go_enter Try.func5, Try.ntmps5
      go_wp2_with (first
        | (go_at_call 10; (with_reducible refine (CL.out _ hB0).mono ?_); rintro e w2 ⟨LA, lc, rfl, ho, hB⟩)
        | (go_at_call 11; (with_reducible refine (CO.out _ _ _ (own_flat tokCells_len rfl ho)).mono ?_); rintro e w3 ⟨A1, c1, A2, c2, zs1, zs2, rfl, m1, m2, F1, I1, F2, I2, L1, L2, hB3⟩
           have b2 := b0.ext hB
           have b3 := b2.ext hB3
           have f0 := b3.frozen 0
           have f1 := b3.frozen 1
           have c0 : w3.cell? ⟨W.heap.size, 0, none⟩ = some (.slice none 0 0) := b3.cell 0
           have c1' : w3.cell? ⟨W.heap.size, 1, none⟩ = some (.slice none 0 0) := b3.cell 1
           have l2 := b2.lt
           have l3 := b3.lt))
      have hsame : ∀ b, w2.heap.size ≤ b → ((w3.setCell ⟨W.heap.size, 0, none⟩ (.slice A1 s.1.length c1)).setCell ⟨W.heap.size, 1, none⟩ (.slice A2 s.2.length c2)).heap[b]? = w3.heap[b]? := fun b hb => by
        rw [Below.heap_setCell _ ⟨W.heap.size, 1, none⟩ _ b (show b ≠ W.heap.size by omega), Below.heap_setCell _ ⟨W.heap.size, 0, none⟩ _ b (show b ≠ W.heap.size by omega)]
      have hsz : ((w3.setCell ⟨W.heap.size, 0, none⟩ (.slice A1 s.1.length c1)).setCell ⟨W.heap.size, 1, none⟩ (.slice A2 s.2.length c2)).heap.size = w3.heap.size := by simp
      have hBw : Below W.heap.size W ((w3.setCell ⟨W.heap.size, 0, none⟩ (.slice A1 s.1.length c1)).setCell ⟨W.heap.size, 1, none⟩ (.slice A2 s.2.length c2)) :=
        below_set (below_set (below_tail (below_tail hB0 hB) hB3) _ _ _ (Nat.le_refl _)) _ _ _ (Nat.le_refl _)
      refine bodyPost_ret (results_cell2 (p := 2) (u := 3) (v := 4) (by kernel_rfl) _ _ W.heap.size 27 #[.slice A1 s.1.length c1, .slice A2 s.2.length c2] (0, 0) _ rfl ((b3.set 0 (.slice A1 s.1.length c1)).set 1 (.slice A2 s.2.length c2)) Try.underlying27 rfl (by kernel_rfl)) rfl ?_
      refine ⟨A1, c1, A2, c2, zs1, zs2, rfl, m1, m2, ?_, ?_, ?_, ?_, fun b off e => by have := L1 b off e; omega, fun b off e => by have := L2 b off e; omega, hBw⟩
      · have F1' := F1.keep (w' := (w3.setCell ⟨W.heap.size, 0, none⟩ (.slice A1 s.1.length c1)).setCell ⟨W.heap.size, 1, none⟩ (.slice A2 s.2.length c2)) (by rw [hsz]; exact Nat.le_refl _) fun b off e _ _ => hsame b (L1 b off e)
        rw [hsz]
        exact F1'
      · exact I1.keep (by rw [hsz]; exact Nat.le_refl _) fun k _ hav => ⟨hsame k hav, by omega⟩
      · have F2' := F2.keep (w' := (w3.setCell ⟨W.heap.size, 0, none⟩ (.slice A1 s.1.length c1)).setCell ⟨W.heap.size, 1, none⟩ (.slice A2 s.2.length c2)) (by rw [hsz]; exact Nat.le_refl _) fun b off e _ _ => hsame b (L2 b off e)
        rw [hsz]
        exact F2'
      · exact I2.keep (by rw [hsz]; exact Nat.le_refl _) fun k _ hav => ⟨hsame k hav, by omega⟩
    · rw [hS] at CO ⊢
      obtain ⟨x2, y2, hxy2⟩ := PA_form pre
      unfold RetOf at CO ⊢
      simp only [] at CO ⊢
      rw [hxy2] at CO ⊢
      go_enter Try.func5, Try.ntmps5
      go_wp2_with (first
        | (go_at_call 10; (with_reducible refine (CL.out _ hB0).mono ?_); rintro e w2 ⟨LA, lc, rfl, ho, hB⟩)
        | (go_at_call 11; (with_reducible refine (CO.out _ _ _ (own_flat tokCells_len rfl ho)).mono ?_); rintro e w3 ⟨rfl, hB3⟩
           have b2 := b0.ext hB
           have b3 := b2.ext hB3
           have f0 := b3.frozen 0
           have f1 := b3.frozen 1
           have c0 : w3.cell? ⟨W.heap.size, 0, none⟩ = some (.slice none 0 0) := b3.cell 0
           have c1' : w3.cell? ⟨W.heap.size, 1, none⟩ = some (.slice none 0 0) := b3.cell 1))
      have hBw := below_set (below_set (below_tail (below_tail hB0 hB) hB3) W.heap.size 0 (.slice none 0 0) (Nat.le_refl _)) W.heap.size 1 (.slice none 0 0) (Nat.le_refl _)
      refine bodyPost_ret (results_cell2 (p := 2) (u := 3) (v := 4) (by kernel_rfl) _ _ W.heap.size 27 #[.slice none 0 0, .slice none 0 0] (0, 0) _ rfl ((b3.set 0 (.slice none 0 0)).set 1 (.slice none 0 0)) Try.underlying27 rfl (by kernel_rfl)) rfl ?_
      exact ⟨rfl, hBw⟩
  · rw [if_neg h0]
    have e0 : ((r.2.2 : Int) != 0) = true := by rw [bne_iff_ne]; omega
    show Calls _ _ _ _ fun e w' => e = .returned (.tuple #[.agg #[.slice none 0 0, .slice none 0 0], PA r.2.1, .int .i64 (r.2.2 : Int)]) ∧ Below W.heap.size W w'
    rw [hxy] at CL ⊢
    clear h hA hb hM hl h0 hlen
    go_enter Try.func5, Try.ntmps5
    go_wp2_with (first
      | (go_at_call 10; (with_reducible refine (CL.out _ hB0).mono ?_); rintro e w2 ⟨LA, lc, rfl, ho, hB⟩
         have b2 := b0.ext hB
         have f0 := b2.frozen 0
         have f1 := b2.frozen 1
         have c0 : w2.cell? ⟨W.heap.size, 0, none⟩ = some (.slice none 0 0) := b2.cell 0
         have c1' : w2.cell? ⟨W.heap.size, 1, none⟩ = some (.slice none 0 0) := b2.cell 1))
    have hBw := below_set (below_set (below_tail hB0 hB) W.heap.size 0 (.slice none 0 0) (Nat.le_refl _)) W.heap.size 1 (.slice none 0 0) (Nat.le_refl _)
    refine bodyPost_ret (results_cell2 (p := 2) (u := 3) (v := 4) (by kernel_rfl) _ _ W.heap.size 27 #[.slice none 0 0, .slice none 0 0] (0, 0) _ rfl ((b2.set 0 (.slice none 0 0)).set 1 (.slice none 0 0)) Try.underlying27 rfl (by kernel_rfl)) rfl ?_
    exact ⟨rfl, hBw⟩
end Go.Proofs.Ytdeiipbnaknedaa
/- yacc: what the law lists of a source. -/
namespace Go.Proofs.Ytdeiipbnaknedaa
open Go.RowKit
set_option linter.unusedVariables false
set_option linter.unusedSimpArgs false

section
variable {P : Program} {w : World}
theorem flat_cells {α : Type} {m : Nat} {f : α → List Value} (hf : ∀ x, (f x).length = m) {B : Nat} {ad : Addr} {n c : Nat} {xs : List α} (h : Flat m f w B (some ad) n c xs) : ∀ j u, (xs.flatMap f)[j]? = some u → w.cell? (ad.add j) = some u := by
  intro j u hu
  have hlen := flat_len hf xs
  have hj : j < xs.length * m := by rw [← hlen]; exact (List.getElem?_eq_some_iff.1 hu).1
  have hm : 0 < m := by
    rcases Nat.eq_zero_or_pos m with h0 | h0
    · rw [h0, Nat.mul_zero] at hj; omega
    · exact h0
  have hq : j / m < xs.length := Nat.div_lt_of_lt_mul (by rw [Nat.mul_comm]; exact hj)
  have hn : 0 < n := by rw [← h.1]; exact Nat.lt_of_le_of_lt (Nat.zero_le _) hq
  obtain ⟨b, off, e, _, _, hc⟩ := h.2.2.2 hn
  injection e with e
  subst e
  have hx : xs[j / m]? = some (xs[j / m]'hq) := List.getElem?_eq_getElem hq
  have hi : j % m < (f (xs[j / m]'hq)).length := by rw [hf]; exact Nat.mod_lt _ hm
  have hv : (f (xs[j / m]'hq))[j % m]? = some ((f (xs[j / m]'hq))[j % m]'hi) := List.getElem?_eq_getElem hi
  have h1 := flat_at hf xs (j / m) _ hx (j % m) _ hv
  have h2 := hc (j / m) _ hx (j % m) _ hv
  have hjm : j / m * m + j % m = j := by rw [Nat.mul_comm]; exact Nat.div_add_mod j m
  rw [hjm] at h1
  rw [hu] at h1
  injection h1 with h1
  rw [h1]
  have ea : (⟨b, off, none⟩ : Addr).add j = ⟨b, off + j / m * m + j % m, none⟩ := by
    rw [Nat.add_assoc, hjm]
    unfold Addr.add
    split
    · rename_i h0; subst h0; simp
    · rfl
  rw [ea]
  exact h2
/-- 'append' of a slice that lies somewhere -/
theorem wpl_appendF {α : Type} {ops : Array Oper} {rest : List Oper} {o : Oper} {a : Act} {Q : Exit → Act → World → Prop} (hgd : o.guard = none) (s x : Operand) (t : TypeId)
    (ho : o.op = .call { callee := .builtin .append, args := #[s, x], argTypes := #[t, t] })
    (base : Nat) (e : TypeId) (z : Value) (size bytes : Nat) (ht : P.underlying t = some (.slice e))
    (hi : (P.info? e).map (fun i => (i.zero, i.size, i.bytes)) = some (some z, size, bytes)) (hz1 : z.cells.size = size) (hsz0 : 0 < size)
    (A : Option Addr) (n c : Nat) (xs : List Value) (hs : a.eval s = .slice A n c) (hown : w.ownsRow base e size (.slice A n c) n xs)
    (f : α → List Value) (hf : ∀ x, (f x).length = size) (B : Nat) (A2 : Option Addr) (m c2 : Nat) (ys : List α) (hx : a.eval x = .slice A2 m c2) (hF : Flat size f w B A2 m c2 ys) (h1 : ∀ u ∈ ys.flatMap f, u.oneCell' = true)
    (h63 : n + m ≤ 9223372036854775807) (hbytes : (n + m) * bytes ≤ 140737488355328) (hbase : base ≤ w.heap.size)
    (h : ∀ A' c' w', w'.ownsRow base e size (.slice A' (n + m) c') (n + m) (xs ++ ys.flatMap f) → w.grownBy w' (Value.slice A n c).ownBlock → wpList P ops Q rest (a.put o.dst (.slice A' (n + m) c')) w') : wpList P ops Q (o :: rest) a w := by
  obtain ⟨i, hi', hz, hsz, hby⟩ := info_parts hi
  have key : ∃ A' c' w', (Builtin.append_ #[t, t] o.type #[.slice A n c, .slice A2 m c2]).run P w = .ok (.slice A' (n + m) c') w' ∧ w'.ownsRow base e size (.slice A' (n + m) c') (n + m) (xs ++ ys.flatMap f) ∧ w.grownBy w' (Value.slice A n c).ownBlock := by
    rcases A2 with _ | ad
    · have hm : m = 0 := by
        rcases Nat.eq_zero_or_pos m with h0 | h0
        · exact h0
        · obtain ⟨b, off, e, _⟩ := hF.2.2.2 h0
          cases e
      subst hm
      have hn : ys = [] := List.eq_nil_of_length_eq_zero hF.1
      subst hn
      exact ⟨A, c, w, run_append_nilM base t o.type e i size ht hi' A n c xs hown c2, by simpa using hown, ⟨rfl, rfl, rfl, Nat.le_refl _, fun _ _ _ => rfl⟩⟩
    · obtain ⟨v', w', hrun, h3, h4, _, h5⟩ := run_append_own_at (P := P) w base t o.type e i z size bytes ht hi' hz hsz hby hz1 hsz0 _ n xs hown ad m c2 (ys.flatMap f) (by rw [flat_len hf, hF.1]) (flat_cells hf hF) h1 (by simpa [maxLen] using h63) hbytes hbase
      obtain ⟨A', c', rfl⟩ := own_formS h3
      exact ⟨A', c', w', hrun, h3, h4⟩
  obtain ⟨A', c', w', hrun, h3, h4⟩ := key
  refine wpList_plain hgd fun K hK => ?_
  unfold Oper.wp execOp
  simp only [ho, resolve, invoke, builtin, Sem.run_bind, Sem.run_pure, Result.andThen_ok, List.map_toArray, List.map_cons, List.map_nil, hs, hx, hrun]
  exact hK _ _ (h A' c' w' h3 h4)
end
theorem refsCells_one (rs : List RefY) : ∀ u ∈ rs.flatMap refCells, u.oneCell' = true := fun u hu => by
  obtain ⟨rr, _, hu⟩ := List.mem_flatMap.1 hu
  obtain ⟨x, y, hx⟩ := PA_form rr.2
  unfold refCells at hu
  rw [hx] at hu
  rcases List.mem_cons.1 hu with rfl | hu
  · rfl
  · rw [List.mem_singleton.1 hu]; rfl
end Go.Proofs.Ytdeiipbnaknedaa
/- yacc: references compared. -/
namespace Go.Proofs.Ytdeiipbnaknedaa
open Go.RowKit
set_option linter.unusedVariables false
set_option linter.unusedSimpArgs false

theorem Try.fieldsRef : (Try.prog.fieldsOf 40).toList.map (fun f => (f.name, f.type, f.offset)) = [("Text", 9, 0), ("At", 28, 1)] := by kernel_rfl
theorem Try.structRef : Try.prog.underlying 40 = some (.struct (Try.prog.fieldsOf 40)) := by kernel_rfl
theorem Try.heldRef : Try.prog.stoodInHeld 40 = false := by kernel_rfl
theorem Try.guardRef : Try.prog.eqGuardType Try.prog.depth 40 = false := by kernel_rfl
theorem fields2Y {fs : List Field} {n1 n2 : String} {t1 t2 o1 o2 : Nat} (h : fs.map (fun f => (f.name, f.type, f.offset)) = [(n1, t1, o1), (n2, t2, o2)]) :
    ∃ f1 f2, fs = [f1, f2] ∧ (f1.name = n1 ∧ f1.type = t1 ∧ f1.offset = o1) ∧ (f2.name = n2 ∧ f2.type = t2 ∧ f2.offset = o2) := by
  match fs, h with
  | [f1, f2], h =>
    simp at h
    exact ⟨f1, f2, rfl, h.1, h.2⟩
theorem run_equalIn_cpx {P : Program} (w : World) (d : Nat) (t : TypeId) (k k' : FloatKind) (a b c e : Nat) (h : P.underlying t = some (.complex k')) : (Op.equalIn (d + 1) t (.complex k a b) (.complex k c e)).run P w = .ok ((k.format.order a c == some .eq) && (k.format.order b e == some .eq)) w := by
  simp [Op.equalIn, run_underlying h, Op.floatEq]
theorem str_beq (s t : ByteArray) : (s.toList == t.toList) = decide (s = t) := by
  rw [Bool.eq_iff_iff, beq_iff_eq, decide_eq_true_iff, ByteArray.toList_eq, ByteArray.toList_eq]
  constructor
  · intro h
    obtain ⟨s⟩ := s
    obtain ⟨t⟩ := t
    exact congrArg ByteArray.mk (Array.toList_inj.1 h)
  · rintro rfl
    rfl
/-- two references, as values -/
theorem eq_ref (s s' : ByteArray) (a b c d : Nat) (w : World) : (Op.equalIn 10000 40 (.agg #[.string s, .complex .f64 a b]) (.agg #[.string s', .complex .f64 c d])).run Try.prog w = .ok (decide (s = s') && ((FloatKind.f64.format.order a c == some .eq) && (FloatKind.f64.format.order b d == some .eq))) w := by
  rw [run_equalIn_agg (d := 9999) w 40 _ _ Try.structRef Try.heldRef]
  obtain ⟨f1, f2, hfs, ⟨n1, t1, o1⟩, ⟨n2, t2, o2⟩⟩ := fields2Y Try.fieldsRef
  rw [hfs]
  have u9 := Try.underlying9
  have u3 := Try.underlying28
  have e9 : ∀ x y : ByteArray, (Op.equalIn 9999 9 (.string x) (.string y)).run Try.prog w = .ok (x.toList == y.toList) w := fun x y => run_equalIn_string (d := 9998) w _ x y u9
  have e3 : ∀ x y x' y' : Nat, (Op.equalIn 9999 28 (.complex .f64 x y) (.complex .f64 x' y')).run Try.prog w = .ok ((FloatKind.f64.format.order x x' == some .eq) && (FloatKind.f64.format.order y y' == some .eq)) w := fun x y x' y' => run_equalIn_cpx (d := 9998) w _ .f64 .f64 x y x' y' u3
  have pa0 : ∀ (t : ByteArray) (x y : Nat), (part 9 #[.string t, .complex .f64 x y] 0).run Try.prog w = .ok (.string t) w := fun t x y => by go_simp
  have pa1 : ∀ (t : ByteArray) (x y : Nat), (part 28 #[.string t, .complex .f64 x y] 1).run Try.prog w = .ok (.complex .f64 x y) w := fun t x y => by go_simp
  simp only [Op.eqFields, n1, t1, o1, n2, t2, o2]
  rw [if_pos (by decide), if_pos (by decide)]
  simp only [Sem.run_bind, pa0, pa1, e9, e3, Result.andThen_ok, Sem.run_ite, Sem.run_pure, str_beq]
  cases decide (s = s') <;> cases (FloatKind.f64.format.order a c == some .eq) && (FloatKind.f64.format.order b d == some .eq) <;> simp
/-- two references of a text -/
theorem eq_good {bs : List Nat} {a b : RefY} (ha : GoodR bs a) (hb : GoodR bs b) (hn : bs.length ≤ 100000) {u v u2 v2 : Nat} (h1 : PA a.2 = .complex .f64 u v) (h2 : PA b.2 = .complex .f64 u2 v2) (w : World) :
    (Op.equalIn 10000 40 (.agg #[.string (str a.1), .complex .f64 u v]) (.agg #[.string (str b.1), .complex .f64 u2 v2])).run Try.prog w = .ok (decide (a = b)) w := by
  rw [eq_ref, good_order ha hb hn h1 h2]
  congr 1
  rw [Bool.eq_iff_iff, Bool.and_eq_true, decide_eq_true_iff, decide_eq_true_iff, decide_eq_true_iff]
  constructor
  · rintro ⟨h3, h4⟩
    exact Prod.ext (str_inj ha.byte hb.byte h3) h4
  · rintro rfl
    exact ⟨rfl, rfl⟩
end Go.Proofs.Ytdeiipbnaknedaa
