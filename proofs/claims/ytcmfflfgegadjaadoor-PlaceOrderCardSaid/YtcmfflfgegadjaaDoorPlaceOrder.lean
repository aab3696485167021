/-
  PlaceOrder: for every input that can be read, the law returns true, and each argument reads behind the call as it read before.
  Conditions: none beside the row's own.
-/
import Derived.Test.YtcmfflfgegadjaaDoorRows
import Derived.Test.YtcmfflfgegadjaaDoorCards
import Derived.Test.YtcmfflfgegadjaaDoorTie
import Derived.Test.YtcmfflfgegadjaaDoorPlLaid
import Derived.LaidMore
import Derived.Stop.Joined
import Derived.SevenTiedAt
import Derived.Test.YtcmfflfgegadjaaDoorPlL4
import Derived.ProofKit
import Derived.OpenShut
import Derived.ShutString
import Derived.ChangeOld
import Derived.WideKeyPair
namespace Go.Proofs.YtcmfflfgegadjaaDoor.placeOrder
open Go.ChangeShapes Go.WideShapes Go.ChangeAt Go.RowKit
open Go.ChangeMaps (open_string shut_string)
set_option linter.unusedVariables false
set_option linter.unusedSimpArgs false

theorem own : ownKnob Tryd.prog.godebug = none := by kernel_rfl
theorem laidOut : laidOutB Tryd.prog = true := by kernel_rfl

set_option maxRecDepth 100000 in
theorem lifted (os : Os) (started : os.Started) (H : Type) (enc : TypeId × Value → H) :
    ReturnsInHanded {} Tryd.checked os 5 .any (fun w args => (Rows.placeOrderSpec.pre enc Tryd.prog Tryd.f5 [] false w args ∧ laidMetH Tryd.prog laidL w) ∧ sizedMet enc Tryd.prog Tryd.f5 (OpenSpec.ofChange Rows.placeOrderSpec) false w args)
      (Rows.placeOrderSpec.post enc Tryd.prog Tryd.f5 false true false false) := by
  refine returnsInHanded_of_change_and (C := Tryd.checked) (X := fun w _ => laidMetH Tryd.prog laidL w) (fun _ _ _ hh h => h.of_heap hh) own started (by kernel_rfl) Tryd.func5
    (ChangeSpec.witness_shaped (enc := enc) (C := Tryd.checked) (os := os) (X := fun w _ => laidMetH Tryd.prog laidL w) false (World.doorLaid Tryd.prog 400 os) #[.agg #[.int .i64 0, .int .i64 0], .agg #[.int .i64 0, .int .i64 0], .agg #[.int .i64 0, .int .i64 0]] 8 rfl (World.shaped_of_RefB (by kernel_rfl) (by kernel_rfl)) (by kernel_rfl) (by kernel_rfl) (by kernel_rfl) (door_met os _)) ?_
  intro W base args ds gs before hval0 hW hcnd _ hL _
  have hval : ∀ (j : Nat) t v, Tryd.f5.params[j]? = some t → args[j]? = some v → Value.okWide Tryd.prog W .any base t v := hval0
  have hW' := hW
  obtain ⟨p, q, hA0, hV, rfl, hfz, hnd⟩ := hW
  have hA : DataW.TrodAll enc Tryd.prog W 0 (fun _ => true) true Tryd.f5.params.toList args.toList ds p := hA0
  rw [Tryd.params5] at hA hval
  obtain ⟨v0, vs0, d0, ds0, p0, q0, hargs, rfl, rfl, h0, r0⟩ := trodAll_cons hA
  obtain ⟨v1, vs1, d1, ds1, p1, q1, rfl, rfl, rfl, h1, r1⟩ := trodAll_cons r0
  obtain ⟨v2, vs2, d2, ds2, p2, q2, rfl, rfl, rfl, h2, r2⟩ := trodAll_cons r1
  obtain ⟨rfl, rfl, rfl⟩ := trodAll_nil r2
  obtain rfl : args = #[v0, v1, v2] := by cases args; simp_all
  obtain ⟨rfl, rfl⟩ := trodVars_none hV
  obtain ⟨a0, b0, rfl, rfl, rfl, wa0, wb0⟩ := Go.WideMaps.open_pair (⟨Tryd.underlying33, by kernel_rfl, by kernel_rfl, by kernel_rfl⟩ : Go.WideMaps.ArrKey Tryd.prog 33 3 2) Tryd.underlying3 (hval 0 33 v0 rfl rfl) h0
  obtain ⟨a1, b1, rfl, rfl, rfl, wa1, wb1⟩ := Go.WideMaps.open_pair (⟨Tryd.underlying33, by kernel_rfl, by kernel_rfl, by kernel_rfl⟩ : Go.WideMaps.ArrKey Tryd.prog 33 3 2) Tryd.underlying3 (hval 1 33 v1 rfl rfl) h1
  obtain ⟨a2, b2, rfl, rfl, rfl, wa2, wb2⟩ := Go.WideMaps.open_pair (⟨Tryd.underlying33, by kernel_rfl, by kernel_rfl, by kernel_rfl⟩ : Go.WideMaps.ArrKey Tryd.prog 33 3 2) Tryd.underlying3 (hval 2 33 v2 rfl rfl) h2
  clear hA0 hval0
  refine (placeOrder_walk a0 b0 a1 b1 a2 b2 W ).mono fun e W' ⟨he, bel⟩ => ?_
  subst he
  exact ⟨_, rfl, _, _, _, [], _, [], hW', trodAll_mk1 (shut_bool Tryd.underlying4 _), (trodAll_cons_mk (Go.WideMaps.shut_pair (⟨Tryd.underlying33, by kernel_rfl, by kernel_rfl, by kernel_rfl⟩ : Go.WideMaps.ArrKey Tryd.prog 33 3 2) Tryd.underlying3 wa0 wb0) (trodAll_cons_mk (Go.WideMaps.shut_pair (⟨Tryd.underlying33, by kernel_rfl, by kernel_rfl, by kernel_rfl⟩ : Go.WideMaps.ArrKey Tryd.prog 33 3 2) Tryd.underlying3 wa1 wb1) (trodAll_cons_mk (Go.WideMaps.shut_pair (⟨Tryd.underlying33, by kernel_rfl, by kernel_rfl, by kernel_rfl⟩ : Go.WideMaps.ArrKey Tryd.prog 33 3 2) Tryd.underlying3 wa2 wb2) trodAll_mk0))), rfl, bel.frame _, fun h => by cases h⟩

theorem over : Rows.placeOrderRow.holds Tryd.pinned (OpenSpec.ofChange Rows.placeOrderSpec) :=
  OpenClaim.holds_of_wide 5 Tryd.f5 rfl rfl rfl rfl rfl rfl rfl ⟨rfl, rfl, rfl, rfl, rfl⟩ rfl rfl rfl rfl rfl (by kernel_rfl) Tryd.func5 (by kernel_rfl)
    (of_decide_eq_true (by kernel_rfl)) (by unfold Func.isWrapper; first | (rw [if_pos (by decide +kernel)]; kernel_rfl) | (rw [if_neg (by decide +kernel)]; exact ⟨rfl, rfl⟩))
    (fun os started H enc _ => lifted os started H enc)

/-- the row's statement -/
theorem row_holds : Rows.PlaceOrderSaid := over
/-- the statement: the tied card -/
theorem proved : Rows.PlaceOrderCardSaid :=
  Claim7.holds_tied_plain_at .later [] [.data, .data, .data] true (true, "ffc05a0e8f3bab3565ed29700039a6c154b047336848c7c973251225196d2147") false
    row_holds (fun _ h => by cases h) (by kernel_rfl) (fun _ h => by cases h) placeOrder_row_tie rfl ⟨rfl, rfl⟩ (by kernel_rfl) rfl
    (fun f fn hf hfn => by
      obtain rfl : f = 5 := Option.some.inj ((show Tryd.prog.funcNamed "gerund/gerundlaw06.PlaceOrder" = some 5 by kernel_rfl).symm.trans hf) |>.symm
      obtain rfl : fn = Tryd.f5 := (Option.some.inj (Tryd.func5.symm.trans hfn)).symm
      exact ⟨by kernel_rfl, fun j t ht => by
        rw [Tryd.params5] at ht
        have hm : t ∈ [33, 33, 33] := by simpa using Array.mem_of_getElem? ht
        have hall : ([33, 33, 33].all fun u => !Tryd.prog.wantsStandIn u) = true := by kernel_rfl
        exact (show Tryd.prog.wantsStandIn t = false by simpa using List.all_eq_true.1 hall t hm)⟩)
    (by kernel_rfl)
#print axioms proved
end Go.Proofs.YtcmfflfgegadjaaDoor.placeOrder
