/- first: parts, and what stands at the end (no program in sight). -/
import Derived.Test.YtfdbpafenhdkbaaGreatQGrB5
namespace Go.Proofs.YtfdbpafenhdkbaaGreat
set_option linter.unusedVariables false
set_option linter.unusedSimpArgs false

theorem begin_acc (N : List Bool) (F : List Nat) (rest : Nat) : ∀ ss acc, beginGo N F rest ss acc = acc ||| beginGo N F rest ss 0
  | [], acc => by simp [beginGo]
  | s :: ss, acc => by
    rw [beginGo, beginGo]
    split
    · simp
    · split
      · rw [begin_acc N F rest ss (acc ||| F.getD (nonI s) 0), begin_acc N F rest ss (0 ||| F.getD (nonI s) 0), Nat.zero_or, Nat.or_assoc]
      · simp
theorem begin_parts (N : List Bool) (F : List Nat) (rest : Nat) (ys : List Int) : ∀ xs acc, beginGo N F rest (xs ++ ys) acc = beginGo N F (beginGo N F rest ys 0) xs acc
  | [], acc => by rw [List.nil_append, begin_acc, beginGo]
  | s :: xs, acc => by
    rw [List.cons_append, beginGo, beginGo]
    split
    · rfl
    · split
      · exact begin_parts N F rest ys xs _
      · rfl
/-- what many symbols begin with, of two parts -/
theorem beginP_parts (N : List Bool) (F : List Nat) (rest : Nat) (xs ys : List Int) : beginP N F (xs ++ ys) rest = beginP N F xs (beginP N F ys rest) := begin_parts N F rest ys xs 0

/-- no set of a row has the number n -/
def Off (n : Nat) (F : List Nat) : Prop := ∀ x ∈ F, x.testBit n = false
theorem Off.get {n : Nat} {F : List Nat} (h : Off n F) (i : Nat) : (F.getD i 0).testBit n = false := by
  rw [List.getD_eq_getElem?_getD]
  cases hx : F[i]? with
  | none => simp
  | some x => exact h x (List.mem_of_getElem? hx)
theorem bitN_off {n : Nat} {s : Int} (h : s ≠ (n : Int)) : (bitN s).testBit n = false := by
  unfold bitN
  split
  · rename_i hs
    rw [Nat.testBit_two_pow]
    simp
    omega
  · simp
theorem begin_off {n : Nat} (N : List Bool) {F : List Nat} (hF : Off n F) {rest : Nat} : ∀ (ss : List Int) (acc : Nat), (∀ s ∈ ss, s < (n : Int)) →
    (beginGo N F rest ss acc).testBit n = (acc.testBit n || (allP false N ss && rest.testBit n))
  | [], acc, _ => by simp [beginGo, allP]
  | s :: ss, acc, h => by
    have hs := h s (by simp)
    rw [beginGo]
    have hall : allP false N (s :: ss) = ((if 0 ≤ s then false else N.getD (nonI s) false) && allP false N ss) := by simp [allP]
    rw [hall]
    split
    · rw [Nat.testBit_or, bitN_off (by omega)]; simp
    · split
      · rename_i hn
        rw [begin_off N hF ss _ fun s hs => h s (by simp [hs]), Nat.testBit_or, hF.get, hn]; simp
      · rename_i hn
        rw [Nat.testBit_or, hF.get]
        simp at hn
        simp [hn]
theorem Off.addAt {n : Nat} {F : List Nat} (h : Off n F) (i : Nat) {x : Nat} (hx : x.testBit n = false) : Off n (addAt i x F) := by
  intro y hy
  unfold Go.Proofs.YtfdbpafenhdkbaaGreat.addAt at hy
  rcases List.mem_or_eq_of_mem_set hy with hy | rfl
  · exact h y hy
  · rw [Nat.testBit_or, h.get, hx]; rfl
theorem passF_off {n : Nat} (N : List Bool) : ∀ (rs : List Rul) {F : List Nat}, Off n F → (∀ r ∈ rs, ∀ s ∈ r.right, s < (n : Int)) → Off n (passF N rs F)
  | [], F, h, _ => h
  | r :: rs, F, h, hs => passF_off N rs (F := growF N r F) (h.addAt _ (by unfold beginP; rw [begin_off N h _ _ (hs r (by simp))]; simp)) fun q hq => hs q (by simp [hq])
theorem iterF_off {n : Nat} (N : List Bool) (rs : List Rul) {F : List Nat} (h : Off n F) (hs : ∀ r ∈ rs, ∀ s ∈ r.right, s < (n : Int)) : ∀ k, Off n (iter (passF N rs) k F)
  | 0 => h
  | k + 1 => passF_off N rs (iterF_off N rs h hs k) hs
theorem firstN_off {G : Gr} (hf : G.Fits) : Off G.terms.length (firstN G) :=
  iterF_off _ _ (fun x hx => by rw [List.eq_of_mem_replicate hx]; simp) (fun r hr s hs => (hf.sym r hr s hs).2) _
/-- the end is begun with if, and only if, all symbols are nullable -/
theorem beginP_end {G : Gr} (hf : G.Fits) (ss : List Int) (hs : ∀ s ∈ ss, s < (G.terms.length : Int)) : (beginP (nullN G) (firstN G) ss (bitN G.terms.length)).testBit G.terms.length = allP false (nullN G) ss := by
  unfold beginP
  rw [begin_off _ (firstN_off hf) _ _ hs]
  have : (bitN (G.terms.length : Int)).testBit G.terms.length = true := by
    have := hf.n1
    unfold bitN
    rw [if_pos (by omega), Nat.testBit_two_pow]
    simp
  rw [this]; simp

/-! ### fixed points: what each rule says of first and of follow -/
theorem firstN_fix (G : Gr) : passF (nullN G) G.rules (firstN G) = firstN G := by
  have := (passF_grows (nullN G) G.rules).fix (List.replicate G.nons.length 0)
  rwa [List.length_replicate] at this
theorem followN_fix (G : Gr) : passW (nullN G) (firstN G) G.rules (followN G) = followN G := by
  have := (passW_grows (nullN G) (firstN G) G.rules).fix (startW G)
  rwa [show (startW G).length = G.nons.length by simp [startW]] at this
end Go.Proofs.YtfdbpafenhdkbaaGreat
