/- lex: what the library's searches give, in plain words. -/
import Derived.Test.YtdeiipbnaknedaaYQ03
import Derived.Test.YtdeiipbnaknedaaYQ04
import Derived.Scope
import Derived.WalkMore
import Derived.ScopeJumps
namespace Go.Proofs.Ytdeiipbnaknedaa
open Go.RowKit
set_option linter.unusedVariables false
set_option linter.unusedSimpArgs false

def ixB : List Nat → Nat → Option Nat
  | [], _ => none
  | b :: l, x => if b = x then some 0 else (ixB l x).map (· + 1)
def ixS : List Nat → List Nat → Option Nat
  | [], s => if s.isEmpty then some 0 else none
  | b :: l, s => if s.isPrefixOf (b :: l) then some 0 else (ixS l s).map (· + 1)
def oInt : Option Nat → Int
  | none => -1
  | some n => (n : Int)
def lifts (bs : List Nat) : List Int := bs.map fun (x : Nat) => (x : Int)
theorem lifts_len (bs : List Nat) : (lifts bs).length = bs.length := by simp [lifts]
theorem lifts_bytes (bs : List Nat) : Lib.bytesOf (lifts bs) = bs.map UInt8.ofNat := by simp [Lib.bytesOf, lifts, Function.comp_def]
theorem lifts_get (bs : List Nat) (i : Nat) : (lifts bs).getD i 0 = ((bs.getD i 0 : Nat) : Int) := by
  rw [List.getD_eq_getElem?_getD, List.getD_eq_getElem?_getD]
  simp only [lifts, List.getElem?_map]
  cases bs[i]? <;> rfl
theorem lifts_range (bs : List Nat) (h : ∀ x ∈ bs, x < 256) : ∀ x ∈ lifts bs, 0 ≤ x ∧ x < 256 := by
  intro x hx
  simp only [lifts, List.mem_map] at hx
  obtain ⟨y, hy, rfl⟩ := hx
  have := h y hy
  omega
theorem u8_inj (a b : Nat) (ha : a < 256) (hb : b < 256) : (UInt8.ofNat a == UInt8.ofNat b) = decide (a = b) := by
  rw [Bool.eq_iff_iff, beq_iff_eq, decide_eq_true_eq]
  constructor
  · intro h
    have := congrArg UInt8.toNat h
    simp only [UInt8.toNat_ofNat'] at this
    omega
  · intro h; rw [h]
theorem oInt_succ (o : Option Nat) : (if oInt o == -1 then -1 else oInt o + 1) = oInt (o.map (· + 1)) := by
  cases o with
  | none => rfl
  | some n =>
    have : (oInt (some n) == -1) = false := by rw [beq_eq_false_iff_ne]; show (n : Int) ≠ -1; omega
    rw [this]
    show (n : Int) + 1 = ((n + 1 : Nat) : Int)
    omega
theorem indexByte_ix (x : Nat) (hx : x < 256) : ∀ bs : List Nat, (∀ y ∈ bs, y < 256) → Lib.indexByte (bs.map UInt8.ofNat) (UInt8.ofNat x) = oInt (ixB bs x)
  | [], _ => rfl
  | b :: l, h => by
    have ih := indexByte_ix x hx l (fun y hy => h y (by simp [hy]))
    unfold ixB
    rw [List.map_cons]
    unfold Lib.indexByte
    rw [u8_inj b x (h b (by simp)) hx, ih, oInt_succ]
    by_cases hb : b = x
    · simp [hb, oInt]
    · simp [hb]
theorem prefix_map : ∀ (s bs : List Nat), (∀ y ∈ s, y < 256) → (∀ y ∈ bs, y < 256) → (s.map UInt8.ofNat).isPrefixOf (bs.map UInt8.ofNat) = s.isPrefixOf bs
  | [], _, _, _ => by simp
  | a :: s, [], _, _ => by simp
  | a :: s, b :: bs, h, k => by
    have ih := prefix_map s bs (fun y hy => h y (by simp [hy])) (fun y hy => k y (by simp [hy]))
    simp only [List.map_cons, List.isPrefixOf]
    rw [ih, u8_inj a b (h a (by simp)) (k b (by simp))]
    rfl
theorem index_ix (s : List Nat) (hs : ∀ y ∈ s, y < 256) : ∀ bs : List Nat, (∀ y ∈ bs, y < 256) → Lib.index (bs.map UInt8.ofNat) (s.map UInt8.ofNat) = oInt (ixS bs s)
  | [], _ => by
    unfold ixS Lib.index
    cases s <;> rfl
  | b :: l, h => by
    have ih := index_ix s hs l (fun y hy => h y (by simp [hy]))
    unfold ixS
    rw [List.map_cons]
    unfold Lib.index
    rw [ih, oInt_succ, ← List.map_cons, prefix_map s (b :: l) hs h]
    cases s.isPrefixOf (b :: l) <;> rfl

theorem lx_indexByte (A : Option Addr) (n c : Nat) (bs : List Nat) (x : Nat) (w : World) (h : Nums .u8 w A n c bs) (hb : ∀ y ∈ bs, y < 256) (hx : x < 256) (h0 : 0 < n) :
    Calls Try.prog 41 #[.slice A n c, .int .u8 (x : Int)] w fun e w' => e = .returned (.int .i64 (oInt (ixB bs x))) ∧ w = w' := by
  have hl := h.len
  have e : Lib.indexByte (Lib.bytesOf (lifts bs)) ((x : Int).toNat.toUInt8) = oInt (ixB bs x) := by
    rw [lifts_bytes, Int.toNat_natCast]
    exact indexByte_ix x hx bs hb
  obtain ⟨b, off, rfl, hbl, hc⟩ := h.at_ h0
  have := Go.Proofs.Try.bytes_IndexByte b off n c (lifts bs) (x : Int) w (by rw [lifts_len, hl]) (fun i hi => by rw [hc i hi, lifts_get])
  refine this.mono fun e' w' ⟨h1, h2⟩ => ⟨by rw [h1, ← e], h2.symm⟩

theorem lx_prefix (A : Option Addr) (n c : Nat) (bs : List Nat) (B : Option Addr) (m d : Nat) (s : List Nat) (w : World) (h : Nums .u8 w A n c bs) (k : Nums .u8 w B m d s) (hb : ∀ y ∈ bs, y < 256) (hs : ∀ y ∈ s, y < 256) (h0 : 0 < n) (k0 : 0 < m) :
    Calls Try.prog 42 #[.slice A n c, .slice B m d] w fun e w' => e = .returned (.bool (s.isPrefixOf bs)) ∧ w = w' := by
  obtain ⟨b, off, rfl, hbl, hc⟩ := h.at_ h0
  obtain ⟨b2, off2, rfl, hbl2, hc2⟩ := k.at_ k0
  have := Go.Proofs.Try.bytes_HasPrefix b off n c b2 off2 m d (lifts bs) (lifts s) w (by rw [lifts_len, h.len]) (by rw [lifts_len, k.len]) h.cap.1 (fun i hi => by rw [hc i hi, lifts_get]) (fun i hi => by rw [hc2 i hi, lifts_get])
  refine this.mono fun e' w' ⟨h1, h2⟩ => ⟨?_, h2.symm⟩
  rw [h1, lifts_bytes, lifts_bytes]
  unfold Lib.hasPrefix
  rw [prefix_map s bs hs hb]

/-- the one variable of the library's that is read -/
def MaxAt (w : World) : Prop := ∃ m : Int, w.cell? ⟨0, 0, none⟩ = some (.int .i64 m) ∧ 0 < w.heap.size
theorem MaxAt.below {w w' : World} (h : MaxAt w) (hb : Below w.heap.size w w') : MaxAt w' := by
  obtain ⟨m, h1, h2⟩ := h
  exact ⟨m, by rw [hb.cell h2]; exact h1, Nat.lt_of_lt_of_le h2 hb.size⟩

theorem lx_index (A : Option Addr) (n c : Nat) (bs : List Nat) (B : Option Addr) (m d : Nat) (s : List Nat) (w : World) (h : Nums .u8 w A n c bs) (k : Nums .u8 w B m d s) (hb : ∀ y ∈ bs, y < 256) (hs : ∀ y ∈ s, y < 256) (k0 : 0 < m)
    (hn : n < 4294967281) (hA : A = none → c = 0) (hM : MaxAt w) :
    Calls Try.prog 60 #[.slice A n c, .slice B m d] w fun e w' => e = .returned (.int .i64 (oInt (ixS bs s))) ∧ Same w w' := by
  obtain ⟨b2, off2, rfl, hbl2, hc2⟩ := k.at_ k0
  obtain ⟨mm, hm1, hm2⟩ := hM
  have hl := h.len
  rcases A with _ | ⟨b, off, sp⟩
  · have h0 : n = 0 := by
      rcases Nat.eq_zero_or_pos n with h0 | h0
      · exact h0
      · obtain ⟨b, off, he, _⟩ := h.at_ h0
        cases he
    subst h0
    obtain rfl := hA rfl
    obtain rfl := List.eq_nil_of_length_eq_zero hl
    have := Go.Proofs.Try.bytes_Index_nil (some ⟨b2, off2, none⟩) m d w (by have := k.cap; omega) (fun _ => ⟨b2, off2, _, rfl, hc2 0 k0⟩)
    refine this.mono fun e' w' ⟨h1, h2⟩ => ⟨?_, 0, h2⟩
    rw [h1, if_neg (by omega)]
    have : s ≠ [] := by intro h; rw [h] at k; have := k.len; simp at this; omega
    cases s with
    | nil => exact absurd rfl this
    | cons a s => rfl
  · have hadd : ∀ (b off i : Nat), (⟨b, off, none⟩ : Addr).add i = ⟨b, off + i, none⟩ := fun b off i => by
      unfold Addr.add
      split
      · rename_i h0; subst h0; rfl
      · rfl
    have hc1 : ∀ i, i < n → w.cell? ((⟨b, off, sp⟩ : Addr).add i) = some (.int .u8 ((lifts bs).getD i 0)) := fun i hi => by
      obtain ⟨b', off', he, _, hc⟩ := h.at_ (by omega)
      injection he with he
      injection he with e1 e2 e3
      subst e1; subst e2; subst e3
      rw [hadd, hc i hi, lifts_get]
    have := Go.Proofs.Try.bytes_Index_at ⟨b, off, sp⟩ ⟨b2, off2, none⟩ n c m d (lifts bs) (lifts s) mm w (by rw [lifts_len, hl]) (by rw [lifts_len, k.len]) (lifts_range bs hb) (lifts_range s hs) hc1
      (fun i hi => by rw [hadd, hc2 i hi, lifts_get]) h.cap.1 hn (by have := k.cap; omega) hm1
    refine this.mono fun e' w' ⟨h1, h2⟩ => ⟨?_, h2⟩
    rw [h1, lifts_bytes, lifts_bytes, index_ix s hs bs hb]
end Go.Proofs.Ytdeiipbnaknedaa
/- A scope with labels that the run jumps to: what holds at each jump, and a measure. -/
namespace Go.Proofs.Ytdeiipbnaknedaa
open Go

/-- as Q; by a goto to label l: J l -/
def Exit.jumps (J : Nat → Act → World → Prop) (Q : Exit → Act → World → Prop) : Exit → Act → World → Prop
  | .goto l, a, w => J l a w
  | e, a, w => Q e a w
section
variable {P : Program} {a : Act} {w : World} {Q : Exit → Act → World → Prop}
theorem jumps_ret {J : Nat → Act → World → Prop} : Exit.jumps J Q .ret a w = Q .ret a w := rfl
theorem jumps_normal {J : Nat → Act → World → Prop} : Exit.jumps J Q .normal a w = Q .normal a w := rfl
theorem jumps_goto {J : Nat → Act → World → Prop} {l : Nat} : Exit.jumps J Q (.goto l) a w = J l a w := rfl

theorem wp_scope_all {c : Code} (J : Nat → Act → World → Prop) (μ : Nat → Act → World → Nat)
    (pass : ∀ l a w, J l a w → ∃ rest, findLabel c l = some rest ∧ rest.wp P (Exit.jumps (fun l' a' w' => J l' a' w' ∧ μ l' a' w' < μ l a w) Q) a w)
    (first : c.wp P (Exit.jumps J Q) a w) : (Code.scope c).wp P Q a w := by
  intro b k cs
  have hg : ∀ l rest, findLabel c l = some rest → gotoIn l (.inScope c :: k) = some (.code rest :: .inScope c :: k) := fun l rest hf => by simp [gotoIn, hf]
  have key : ∀ n l a w rest, μ l a w = n → J l a w → findLabel c l = some rest → ∃ e a' w', Q e a' w' ∧ Arrives P (lone (b.at a (.code rest :: .inScope c :: k)) cs w) b k cs e a' w' := by
    intro n
    induction n using Nat.strongRecOn with
    | _ n ih =>
      intro l a w rest hn hJ hrest
      obtain ⟨rest', hf', hpass⟩ := pass l a w hJ
      obtain rfl := Option.some.inj (hf'.symm.trans hrest)
      obtain ⟨e, a₁, w₁, hq, harr⟩ := hpass b (.inScope c :: k) cs
      cases e with
      | normal => exact ⟨.normal, a₁, w₁, hq, Steps.trans harr (.one step_inScope)⟩
      | exit id => exact ⟨.exit id, a₁, w₁, hq, fun k' hk => harr k' (by simp [exitTo, hk])⟩
      | goto l' =>
        obtain ⟨hJ', hlt⟩ := hq
        obtain ⟨rest2, hf2, _⟩ := pass l' a₁ w₁ hJ'
        obtain ⟨e₂, a₂, w₂, hq₂, harr₂⟩ := ih _ (by omega) l' a₁ w₁ rest2 rfl hJ' hf2
        exact ⟨e₂, a₂, w₂, hq₂, .of_steps (harr _ (hg l' rest2 hf2)) harr₂⟩
      | ret => exact ⟨_, a₁, w₁, hq, harr⟩
      | panic ch => exact ⟨_, a₁, w₁, hq, harr⟩
      | outgrown => exact ⟨_, a₁, w₁, hq, harr⟩
  obtain ⟨e, a₁, w₁, hq, harr⟩ := first b (.inScope c :: k) cs
  cases e with
  | normal => exact ⟨.normal, a₁, w₁, hq, .head step_scope (Steps.trans harr (.one step_inScope))⟩
  | exit id => exact ⟨.exit id, a₁, w₁, hq, fun k' hk => .head step_scope (harr k' (by simp [exitTo, hk]))⟩
  | goto l' =>
    obtain ⟨rest2, hf2, _⟩ := pass l' a₁ w₁ hq
    obtain ⟨e₂, a₂, w₂, hq₂, harr₂⟩ := key _ l' a₁ w₁ rest2 rfl hq hf2
    exact ⟨e₂, a₂, w₂, hq₂, .of_steps (.head step_scope (harr _ (hg l' rest2 hf2))) harr₂⟩
  | ret => exact ⟨_, a₁, w₁, hq, .of_steps (.one step_scope) harr⟩
  | panic ch => exact ⟨_, a₁, w₁, hq, .of_steps (.one step_scope) harr⟩
  | outgrown => exact ⟨_, a₁, w₁, hq, .of_steps (.one step_scope) harr⟩

theorem jumps_weak {c : Code} {J J' : Nat → Act → World → Prop} (h : c.wp P (Exit.jumps J Q) a w) (hj : ∀ l a w, J l a w → J' l a w) : c.wp P (Exit.jumps J' Q) a w :=
  wp_mono h fun e a w q => by
    cases e with
    | goto l => exact hj l a w q
    | _ => exact q

/-- one label, behind some code that makes what holds there -/
theorem wp_scope_loop {pre X : Code} (l : Nat) (J : Act → World → Prop) (μ : Act → World → Nat) (hf : findLabel pre l = none)
    (h0 : pre.wp P (Exit.then J (fun _ _ _ => False)) a w)
    (pass : ∀ a w, J a w → X.wp P (Exit.jumps (fun l' a' w' => l' = l ∧ J a' w' ∧ μ a' w' < μ a w) Q) a w) :
    (Code.scope (pre.seq ((Code.label l).seq X))).wp P Q a w := by
  refine wp_scope_all (fun l' a w => l' = l ∧ J a w) (fun _ => μ) ?_ ?_
  · rintro l' a w ⟨rfl, hJ⟩
    refine ⟨.seq .skip X, by simp [findLabel, hf], wp_seq (wp_skip ?_)⟩
    exact jumps_weak (pass a w hJ) fun l' a' w' ⟨h1, h2, h3⟩ => ⟨⟨h1, h2⟩, h3⟩
  · refine wp_seq (wp_mono h0 fun e a' w' hq => ?_)
    cases e with
    | normal => exact wp_seq (wp_label (jumps_weak (pass a' w' hq) fun l' a' w' ⟨h1, h2, h3⟩ => ⟨h1, h2⟩))
    | _ => exact hq.elim
end
end Go.Proofs.Ytdeiipbnaknedaa
