/- Words for slices that read as strings; a string's bytes appended. -/
import Derived.Test.YtcmfflfgegadjaaLxP
import Derived.Lib.AppendStr
namespace Go.Proofs.Ytcmfflfgegadjaa
open Go.RowKit
set_option linter.unusedVariables false
set_option linter.unusedSimpArgs false

/-- a slice that reads as strings -/
def Strs (w : World) (A : Option Addr) (n c : Nat) (ss : List ByteArray) : Prop := Sl w A n c (ss.map Value.string)
theorem Strs.len {w : World} {A : Option Addr} {n c : Nat} {ss : List ByteArray} (h : Strs w A n c ss) : ss.length = n := by have := h.1; simpa using this
theorem Strs.cap {w : World} {A : Option Addr} {n c : Nat} {ss : List ByteArray} (h : Strs w A n c ss) : n ≤ c ∧ c ≤ 9223372036854775807 := ⟨h.2.1, h.2.2.1⟩
theorem Strs.below {w w' : World} {A : Option Addr} {n c : Nat} {ss : List ByteArray} (h : Strs w A n c ss) (hb : Below w.heap.size w w') : Strs w' A n c ss := Sl.below h hb
theorem Strs.ext {w w' : World} {A : Option Addr} {n c : Nat} {ss : List ByteArray} (h : Strs w A n c ss) {B : Nat} (hB : w.heap.size ≤ B) (hb : Below B w w') : Strs w' A n c ss := h.below (hb.mono hB)
theorem Strs.get {w : World} {A : Option Addr} {n c : Nat} {ss : List ByteArray} (h : Strs w A n c ss) {j : Nat} (hj : j < n) :
    ∃ b off s, A = some ⟨b, off, none⟩ ∧ b < w.heap.size ∧ Hid (ss[j]? = some s) ∧ w.cell? ⟨b, off + j, none⟩ = some (.string s) := by
  have hl := h.len
  obtain ⟨b, off, e, hb, hc⟩ := h.2.2.2 (by rw [List.length_map]; omega)
  refine ⟨b, off, ss[j]'(by omega), e, hb, Lib.hid (List.getElem?_eq_getElem (by omega)), ?_⟩
  rw [hc j (by rw [List.length_map]; omega)]
  simp [List.getElem?_eq_getElem (show j < ss.length by omega)]

theorem strCells_nums (s : ByteArray) : Lib.strCells s = nums .u8 (bytesOf s) := by simp [Lib.strCells, nums, bytesOf, Function.comp_def]

section
variable {P : Program} {w : World}
/-- 'append' of a string's bytes -/
theorem wpl_append_str {ops : Array Oper} {rest : List Oper} {o : Oper} {a : Act} {Q : Exit → Act → World → Prop} (hgd : o.guard = none) (s x : Operand) (t u : TypeId)
    (ho : o.op = .call { callee := .builtin .append, args := #[s, x], argTypes := #[t, u] })
    (base : Nat) (e : TypeId) (ht : P.underlying t = some (.slice e)) (hu : P.underlying u = some .string)
    (hi : (P.info? e).map (fun i => (i.zero, i.size, i.bytes)) = some (some (.int .u8 0), 1, 1))
    (A : Option Addr) (n c : Nat) (xs : List Nat) (hs : a.eval s = .slice A n c) (hown : w.ownsRow base e 1 (.slice A n c) n (nums .u8 xs))
    (z : ByteArray) (hx : a.eval x = .string z)
    (hbytes : n + z.size ≤ 140737488355328) (hbase : base ≤ w.heap.size)
    (h : ∀ A' c' w', w'.ownsRow base e 1 (.slice A' (n + z.size) c') (n + z.size) (nums .u8 (xs ++ bytesOf z)) → w.grownBy w' (Value.slice A n c).ownBlock →
      wpList P ops Q rest (a.put o.dst (.slice A' (n + z.size) c')) w') : wpList P ops Q (o :: rest) a w := by
  obtain ⟨i, hi', hz, hsz, hby⟩ := info_parts hi
  refine Lib.wpList_append_own_string w hgd s x t u ho base e i ht hu hi' hz hsz hby _ n _ hs hown z hx (by simp only [maxLen]; omega) hbytes hbase fun v' w' h1 h2 _ => ?_
  obtain ⟨A', c', rfl⟩ := own_form h1
  rw [strCells_nums, ← nums_append] at h1
  exact h A' c' w' h1 h2
end
theorem own_nil {w : World} {base e size n c : Nat} {A : Option Addr} {xs : List Value} (h : w.ownsRow base e size (.slice A n c) n xs) : A = none → c = 0 := by
  intro hA
  rcases h.2 with ⟨h0, h1⟩ | ⟨g, cap, cur, hv, hb, hg, hnc, hcm, hcs, htake⟩
  · injection h0
  · injection hv with h1 h2 h3
    rw [hA] at h1; cases h1
end Go.Proofs.Ytcmfflfgegadjaa
