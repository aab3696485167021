/- A scope with two labels: one that the run comes back to, and one at its end. -/
import Derived.Test.YtcmfflfgegadjaaScope
namespace Go.Proofs.Ytcmfflfgegadjaa
open Go

/-- as Q; by no goto -/
def Exit.nogo (Q : Exit → Act → World → Prop) : Exit → Act → World → Prop
  | .goto _, _, _ => False
  | e, a, w => Q e a w
section
variable {P : Program} {a : Act} {w : World} {Q : Exit → Act → World → Prop}
theorem nogo_ret : Exit.nogo Q .ret a w = Q .ret a w := rfl
theorem nogo_jumps {c : Code} {J : Nat → Act → World → Prop} (h : c.wp P (Exit.nogo Q) a w) : c.wp P (Exit.jumps J Q) a w :=
  wp_mono h fun e a w q => by
    cases e with
    | goto l => exact q.elim
    | _ => exact q

theorem wp_scope_two {p1 p2 p3 X Y : Code} (l m : Nat) (hne : l ≠ m) (J Jm : Act → World → Prop) (μ : Act → World → Nat)
    (hf1 : findLabel p1 l = none) (hf2 : findLabel p2 l = none) (hf3 : findLabel p3 l = none) (hm : findLabel (p1.seq (p2.seq (p3.seq ((Code.label l).seq X)))) m = some Y)
    (h0 : p1.wp P (Exit.then (fun a w => p2.wp P (Exit.then (fun a w => p3.wp P (Exit.then J (Exit.nogo Q)) a w) (Exit.nogo Q)) a w) (Exit.nogo Q)) a w)
    (pass : ∀ a w, J a w → X.wp P (Exit.jumps (fun l' a' w' => (l' = l ∧ J a' w' ∧ μ a' w' < μ a w) ∨ (l' = m ∧ Jm a' w')) Q) a w)
    (passm : ∀ a w, Jm a w → Y.wp P (Exit.nogo Q) a w) :
    (Code.scope (p1.seq (p2.seq (p3.seq ((Code.label l).seq X))))).wp P Q a w := by
  have wk : ∀ {c : Code} {a w}, c.wp P (Exit.jumps (fun l' a' w' => (l' = l ∧ J a' w' ∧ μ a' w' < μ a w) ∨ (l' = m ∧ Jm a' w')) Q) a w → ∀ n, μ a w = n →
      c.wp P (Exit.jumps (fun l' a' w' => ((l' = l ∧ J a' w') ∨ (l' = m ∧ Jm a' w')) ∧ (if l' = m then 0 else μ a' w' + 1) < n + 1) Q) a w := fun h n hn => by
    refine jumps_weak h fun l2 a' w' h => ?_
    rcases h with ⟨rfl, h2, h3⟩ | ⟨rfl, h2⟩
    · exact ⟨.inl ⟨rfl, h2⟩, by rw [if_neg hne]; omega⟩
    · exact ⟨.inr ⟨rfl, h2⟩, by rw [if_pos rfl]; omega⟩
  refine wp_scope_all (fun l' a w => (l' = l ∧ J a w) ∨ (l' = m ∧ Jm a w)) (fun l' a w => if l' = m then 0 else μ a w + 1) ?_ ?_
  · intro l' a w h
    rcases h with ⟨rfl, hJ⟩ | ⟨rfl, hJ⟩
    · refine ⟨.seq .skip X, by simp [findLabel, hf1, hf2, hf3], wp_seq (wp_skip ?_)⟩
      rw [if_neg hne]
      exact wk (pass a w hJ) _ rfl
    · exact ⟨Y, hm, nogo_jumps (passm a w hJ)⟩
  · have last : ∀ a w, J a w → ((Code.label l).seq X).wp P (Exit.jumps (fun l' a w => (l' = l ∧ J a w) ∨ (l' = m ∧ Jm a w)) Q) a w := fun a w hJ =>
      wp_seq (wp_label (jumps_weak (wk (pass a w hJ) _ rfl) fun _ _ _ h => h.1))
    have up : ∀ {e : Exit} {a w}, Exit.nogo Q e a w → e ≠ .normal → Exit.jumps (fun l' a w => (l' = l ∧ J a w) ∨ (l' = m ∧ Jm a w)) Q e a w := fun {e a w} q _ => by
      cases e with
      | goto l => exact q.elim
      | _ => exact q
    refine wp_seq (wp_mono h0 fun e a w q => ?_)
    cases e with
    | normal =>
      refine wp_seq (wp_mono q fun e a w q => ?_)
      cases e with
      | normal =>
        refine wp_seq (wp_mono q fun e a w q => ?_)
        cases e with
        | normal => exact last a w q
        | goto l => exact (show False from q).elim
        | _ => exact q
      | goto l => exact (show False from q).elim
      | _ => exact q
    | goto l => exact (show False from q).elim
    | _ => exact q
end
end Go.Proofs.Ytcmfflfgegadjaa
