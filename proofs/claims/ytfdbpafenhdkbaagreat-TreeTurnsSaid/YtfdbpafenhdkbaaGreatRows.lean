/-
  No cell of these rows narrows 'for every input' (looked for: loops, veiled, ifaces, maps, wideKeys, modest, calm, conditions, laid).
  DERIVED. THE GIVEN ROWS OF THIS SEAT. 8 by the template 'for every input the law returns true; each argument reads behind the call as it read before'; 0 by the template 'total and deterministic' (their statements: YtfdbpafenhdkbaaGreatTotals.lean).
  GIVEN WITH THE SEED: the statements are not yours to turn. If you find one false, say at which input.
  Laid BY PROGRAM, IN A SANDBOX (cutbox-rows.mjs): the forced cells as the released guide's own fill.sh prints them over the translation 57a0d9e2ac95bfbc… (all of the seat's roots in one cut). By AI agents, Wed Nov 11 2026. No macro, syntax, notation, axiom, sorry.
-/
import Derived.Test.YtfdbpafenhdkbaaGreatChecked
import GoSem.Claim
import GoSem.ClaimJoined
import GoSem.ClaimMapViews
import Derived.JoinedTies
import Derived.KernelRfl
namespace Go.Proofs.YtfdbpafenhdkbaaGreat
/- THE CELL 'sum', in the pinned program and in every row, IS THE sha256 OF THE DUMP (.gsa) THAT YtfdbpafenhdkbaaGreatProg.lean LOADS. Nothing in Lean hashes anything: it is a label: what it is worth is what the hold of that sum in a sandbox is worth. -/
noncomputable def Tryz.pinned : Pinned := { name := "ytfdbpafenhdkbaagreat", sum := "57a0d9e2ac95bfbc3da4ca04e6db9ab7aa96612d1363e87fdd1f0f9ccfc3af31", checked := Tryz.checked }
namespace Rows
def none {H : Type} : Left H := { results := [], args := [] }

/-- 'gerundlaw12.FirstTells': WHATEVER THE INPUT: true; the input reads as it did. -/
def firstTellsSpec : ChangeSpec := { name := "firstTells", fn := fun _ => fun
  | [d] => { results := [.lit (.bool true)], args := [d] }
  | _ => none }
def firstTellsRow : OpenClaim := { program := "ytfdbpafenhdkbaagreat", sum := "57a0d9e2ac95bfbc3da4ca04e6db9ab7aa96612d1363e87fdd1f0f9ccfc3af31", func := "gerund/gerundlaw12.FirstTells", spec := "firstTells", unfollowed := true, recurses := true, apart := false }
def FirstTellsSaid : Prop := firstTellsRow.holds Tryz.pinned (OpenSpec.ofChange firstTellsSpec)

/-- ITS FALSE NEIGHBOUR: 'it returns false'. Refute it at one input. -/
def firstTellsWrong : ChangeSpec := { name := "firstTells", fn := fun _ => fun
  | [d] => { results := [.lit (.bool false)], args := [d] }
  | _ => none }
def FirstTellsWrongFalsely : Prop := firstTellsRow.holds Tryz.pinned (OpenSpec.ofChange firstTellsWrong)

/-- 'gerundlaw12.FirstOf': WHATEVER THE INPUT: true; the input reads as it did. -/
def firstOfSpec : ChangeSpec := { name := "firstOf", fn := fun _ => fun
  | [d1, d2, d3] => { results := [.lit (.bool true)], args := [d1, d2, d3] }
  | _ => none }
def firstOfRow : OpenClaim := { program := "ytfdbpafenhdkbaagreat", sum := "57a0d9e2ac95bfbc3da4ca04e6db9ab7aa96612d1363e87fdd1f0f9ccfc3af31", func := "gerund/gerundlaw12.FirstOf", spec := "firstOf", unfollowed := true, recurses := true, apart := false }
def FirstOfSaid : Prop := firstOfRow.holds Tryz.pinned (OpenSpec.ofChange firstOfSpec)

/-- ITS FALSE NEIGHBOUR: 'it returns false'. Refute it at one input. -/
def firstOfWrong : ChangeSpec := { name := "firstOf", fn := fun _ => fun
  | [d1, d2, d3] => { results := [.lit (.bool false)], args := [d1, d2, d3] }
  | _ => none }
def FirstOfWrongFalsely : Prop := firstOfRow.holds Tryz.pinned (OpenSpec.ofChange firstOfWrong)

/-- 'gerundlaw12.FirstParts': WHATEVER THE INPUT: true; the input reads as it did. -/
def firstPartsSpec : ChangeSpec := { name := "firstParts", fn := fun _ => fun
  | [d1, d2, d3] => { results := [.lit (.bool true)], args := [d1, d2, d3] }
  | _ => none }
def firstPartsRow : OpenClaim := { program := "ytfdbpafenhdkbaagreat", sum := "57a0d9e2ac95bfbc3da4ca04e6db9ab7aa96612d1363e87fdd1f0f9ccfc3af31", func := "gerund/gerundlaw12.FirstParts", spec := "firstParts", unfollowed := true, recurses := true, apart := false }
def FirstPartsSaid : Prop := firstPartsRow.holds Tryz.pinned (OpenSpec.ofChange firstPartsSpec)

/-- ITS FALSE NEIGHBOUR: 'it returns false'. Refute it at one input. -/
def firstPartsWrong : ChangeSpec := { name := "firstParts", fn := fun _ => fun
  | [d1, d2, d3] => { results := [.lit (.bool false)], args := [d1, d2, d3] }
  | _ => none }
def FirstPartsWrongFalsely : Prop := firstPartsRow.holds Tryz.pinned (OpenSpec.ofChange firstPartsWrong)

/-- 'gerundlaw12.FirstRules': WHATEVER THE INPUT: true; the input reads as it did. -/
def firstRulesSpec : ChangeSpec := { name := "firstRules", fn := fun _ => fun
  | [d] => { results := [.lit (.bool true)], args := [d] }
  | _ => none }
def firstRulesRow : OpenClaim := { program := "ytfdbpafenhdkbaagreat", sum := "57a0d9e2ac95bfbc3da4ca04e6db9ab7aa96612d1363e87fdd1f0f9ccfc3af31", func := "gerund/gerundlaw12.FirstRules", spec := "firstRules", unfollowed := true, recurses := true, apart := false }
def FirstRulesSaid : Prop := firstRulesRow.holds Tryz.pinned (OpenSpec.ofChange firstRulesSpec)

/-- ITS FALSE NEIGHBOUR: 'it returns false'. Refute it at one input. -/
def firstRulesWrong : ChangeSpec := { name := "firstRules", fn := fun _ => fun
  | [d] => { results := [.lit (.bool false)], args := [d] }
  | _ => none }
def FirstRulesWrongFalsely : Prop := firstRulesRow.holds Tryz.pinned (OpenSpec.ofChange firstRulesWrong)

/-- 'gerundlaw21.TreeReads': WHATEVER THE INPUT: true; the input reads as it did. -/
def treeReadsSpec : ChangeSpec := { name := "treeReads", fn := fun _ => fun
  | [d1, d2] => { results := [.lit (.bool true)], args := [d1, d2] }
  | _ => none }
def treeReadsRow : OpenClaim := { program := "ytfdbpafenhdkbaagreat", sum := "57a0d9e2ac95bfbc3da4ca04e6db9ab7aa96612d1363e87fdd1f0f9ccfc3af31", func := "gerund/gerundlaw21.TreeReads", spec := "treeReads", unfollowed := true, recurses := true, apart := false }
def TreeReadsSaid : Prop := treeReadsRow.holds Tryz.pinned (OpenSpec.ofChange treeReadsSpec)

/-- ITS FALSE NEIGHBOUR: 'it returns false'. Refute it at one input. -/
def treeReadsWrong : ChangeSpec := { name := "treeReads", fn := fun _ => fun
  | [d1, d2] => { results := [.lit (.bool false)], args := [d1, d2] }
  | _ => none }
def TreeReadsWrongFalsely : Prop := treeReadsRow.holds Tryz.pinned (OpenSpec.ofChange treeReadsWrong)

/-- 'gerundlaw21.TreeTurns': WHATEVER THE INPUT: true; the input reads as it did. -/
def treeTurnsSpec : ChangeSpec := { name := "treeTurns", fn := fun _ => fun
  | [d1, d2] => { results := [.lit (.bool true)], args := [d1, d2] }
  | _ => none }
def treeTurnsRow : OpenClaim := { program := "ytfdbpafenhdkbaagreat", sum := "57a0d9e2ac95bfbc3da4ca04e6db9ab7aa96612d1363e87fdd1f0f9ccfc3af31", func := "gerund/gerundlaw21.TreeTurns", spec := "treeTurns", unfollowed := true, recurses := true, apart := false }
def TreeTurnsSaid : Prop := treeTurnsRow.holds Tryz.pinned (OpenSpec.ofChange treeTurnsSpec)

/-- ITS FALSE NEIGHBOUR: 'it returns false'. Refute it at one input. -/
def treeTurnsWrong : ChangeSpec := { name := "treeTurns", fn := fun _ => fun
  | [d1, d2] => { results := [.lit (.bool false)], args := [d1, d2] }
  | _ => none }
def TreeTurnsWrongFalsely : Prop := treeTurnsRow.holds Tryz.pinned (OpenSpec.ofChange treeTurnsWrong)

/-- 'gerundlaw21.TreeBack': WHATEVER THE INPUT: true; the input reads as it did. -/
def treeBackSpec : ChangeSpec := { name := "treeBack", fn := fun _ => fun
  | [d1, d2] => { results := [.lit (.bool true)], args := [d1, d2] }
  | _ => none }
def treeBackRow : OpenClaim := { program := "ytfdbpafenhdkbaagreat", sum := "57a0d9e2ac95bfbc3da4ca04e6db9ab7aa96612d1363e87fdd1f0f9ccfc3af31", func := "gerund/gerundlaw21.TreeBack", spec := "treeBack", unfollowed := true, recurses := true, apart := false }
def TreeBackSaid : Prop := treeBackRow.holds Tryz.pinned (OpenSpec.ofChange treeBackSpec)

/-- ITS FALSE NEIGHBOUR: 'it returns false'. Refute it at one input. -/
def treeBackWrong : ChangeSpec := { name := "treeBack", fn := fun _ => fun
  | [d1, d2] => { results := [.lit (.bool false)], args := [d1, d2] }
  | _ => none }
def TreeBackWrongFalsely : Prop := treeBackRow.holds Tryz.pinned (OpenSpec.ofChange treeBackWrong)

/-- 'gerundlaw21.TreeDerives': WHATEVER THE INPUT: true; the input reads as it did. -/
def treeDerivesSpec : ChangeSpec := { name := "treeDerives", fn := fun _ => fun
  | [d1, d2] => { results := [.lit (.bool true)], args := [d1, d2] }
  | _ => none }
def treeDerivesRow : OpenClaim := { program := "ytfdbpafenhdkbaagreat", sum := "57a0d9e2ac95bfbc3da4ca04e6db9ab7aa96612d1363e87fdd1f0f9ccfc3af31", func := "gerund/gerundlaw21.TreeDerives", spec := "treeDerives", unfollowed := true, recurses := true, apart := false }
def TreeDerivesSaid : Prop := treeDerivesRow.holds Tryz.pinned (OpenSpec.ofChange treeDerivesSpec)

/-- ITS FALSE NEIGHBOUR: 'it returns false'. Refute it at one input. -/
def treeDerivesWrong : ChangeSpec := { name := "treeDerives", fn := fun _ => fun
  | [d1, d2] => { results := [.lit (.bool false)], args := [d1, d2] }
  | _ => none }
def TreeDerivesWrongFalsely : Prop := treeDerivesRow.holds Tryz.pinned (OpenSpec.ofChange treeDerivesWrong)

/- THE SECOND FORM. 'bulk': how many values and letters a reading holds, each counted each time it is reached (what is shared counts as often as it is met; a slice's spare places count too). A statement '..UptoSaid' is the law's where the arguments, and the package variables that the reading takes, are together of bulk at most 1048576: NARROWER than '..Said'. Prove '..Said' where nothing that the law and all that it calls make is longer than what came in: it says more and counts as full. Else prove '..UptoSaid'. A law counts once. -/
mutual
def uptoBulk {H : Type} : DataW H → Nat
  | .lit (.string bytes) => bytes.length + 1
  | .lit _ => 1
  | .nil => 1
  | .ptr d => uptoBulk d + 1
  | .slice elems spare => uptoBulkAll elems + uptoBulkAll spare + 1
  | .agg parts => uptoBulkAll parts + 1
  | .iface _ d => uptoBulk d + 1
  | .map entries => uptoBulkEntries entries + 1
  | .held _ => 1
def uptoBulkAll {H : Type} : List (DataW H) → Nat
  | [] => 0
  | d :: r => uptoBulk d + uptoBulkAll r
def uptoBulkEntries {H : Type} : List (Lit × DataW H) → Nat
  | [] => 0
  | x :: r => uptoBulkEntry x + uptoBulkEntries r
def uptoBulkEntry {H : Type} : Lit × DataW H → Nat
  | (.string bytes, d) => bytes.length + uptoBulk d + 1
  | (_, d) => uptoBulk d + 1
 end
def uptoSmall : (H : Type) → List (DataW H) → Bool := fun _ ds => decide (uptoBulkAll ds ≤ 1048576)
def OpenSpec.upto (s : _root_.Go.ChangeSpec) : _root_.Go.OpenSpec := { _root_.Go.OpenSpec.ofChange s with cond := some uptoSmall }

/-- 'gerundlaw12.FirstTells', WHERE WHAT IT READS IS OF BULK AT MOST 1048576: true; the input reads as it did. -/
def firstTellsUptoRow : OpenClaim := { program := "ytfdbpafenhdkbaagreat", sum := "57a0d9e2ac95bfbc3da4ca04e6db9ab7aa96612d1363e87fdd1f0f9ccfc3af31", func := "gerund/gerundlaw12.FirstTells", spec := "firstTells", unfollowed := true, recurses := true, apart := false, narrowed := true }
def FirstTellsUptoSaid : Prop := firstTellsUptoRow.holds Tryz.pinned (OpenSpec.upto firstTellsSpec)

/-- 'gerundlaw12.FirstOf', WHERE WHAT IT READS IS OF BULK AT MOST 1048576: true; the input reads as it did. -/
def firstOfUptoRow : OpenClaim := { program := "ytfdbpafenhdkbaagreat", sum := "57a0d9e2ac95bfbc3da4ca04e6db9ab7aa96612d1363e87fdd1f0f9ccfc3af31", func := "gerund/gerundlaw12.FirstOf", spec := "firstOf", unfollowed := true, recurses := true, apart := false, narrowed := true }
def FirstOfUptoSaid : Prop := firstOfUptoRow.holds Tryz.pinned (OpenSpec.upto firstOfSpec)

/-- 'gerundlaw12.FirstParts', WHERE WHAT IT READS IS OF BULK AT MOST 1048576: true; the input reads as it did. -/
def firstPartsUptoRow : OpenClaim := { program := "ytfdbpafenhdkbaagreat", sum := "57a0d9e2ac95bfbc3da4ca04e6db9ab7aa96612d1363e87fdd1f0f9ccfc3af31", func := "gerund/gerundlaw12.FirstParts", spec := "firstParts", unfollowed := true, recurses := true, apart := false, narrowed := true }
def FirstPartsUptoSaid : Prop := firstPartsUptoRow.holds Tryz.pinned (OpenSpec.upto firstPartsSpec)

/-- 'gerundlaw12.FirstRules', WHERE WHAT IT READS IS OF BULK AT MOST 1048576: true; the input reads as it did. -/
def firstRulesUptoRow : OpenClaim := { program := "ytfdbpafenhdkbaagreat", sum := "57a0d9e2ac95bfbc3da4ca04e6db9ab7aa96612d1363e87fdd1f0f9ccfc3af31", func := "gerund/gerundlaw12.FirstRules", spec := "firstRules", unfollowed := true, recurses := true, apart := false, narrowed := true }
def FirstRulesUptoSaid : Prop := firstRulesUptoRow.holds Tryz.pinned (OpenSpec.upto firstRulesSpec)

/-- 'gerundlaw21.TreeReads', WHERE WHAT IT READS IS OF BULK AT MOST 1048576: true; the input reads as it did. -/
def treeReadsUptoRow : OpenClaim := { program := "ytfdbpafenhdkbaagreat", sum := "57a0d9e2ac95bfbc3da4ca04e6db9ab7aa96612d1363e87fdd1f0f9ccfc3af31", func := "gerund/gerundlaw21.TreeReads", spec := "treeReads", unfollowed := true, recurses := true, apart := false, narrowed := true }
def TreeReadsUptoSaid : Prop := treeReadsUptoRow.holds Tryz.pinned (OpenSpec.upto treeReadsSpec)

/-- 'gerundlaw21.TreeTurns', WHERE WHAT IT READS IS OF BULK AT MOST 1048576: true; the input reads as it did. -/
def treeTurnsUptoRow : OpenClaim := { program := "ytfdbpafenhdkbaagreat", sum := "57a0d9e2ac95bfbc3da4ca04e6db9ab7aa96612d1363e87fdd1f0f9ccfc3af31", func := "gerund/gerundlaw21.TreeTurns", spec := "treeTurns", unfollowed := true, recurses := true, apart := false, narrowed := true }
def TreeTurnsUptoSaid : Prop := treeTurnsUptoRow.holds Tryz.pinned (OpenSpec.upto treeTurnsSpec)

/-- 'gerundlaw21.TreeBack', WHERE WHAT IT READS IS OF BULK AT MOST 1048576: true; the input reads as it did. -/
def treeBackUptoRow : OpenClaim := { program := "ytfdbpafenhdkbaagreat", sum := "57a0d9e2ac95bfbc3da4ca04e6db9ab7aa96612d1363e87fdd1f0f9ccfc3af31", func := "gerund/gerundlaw21.TreeBack", spec := "treeBack", unfollowed := true, recurses := true, apart := false, narrowed := true }
def TreeBackUptoSaid : Prop := treeBackUptoRow.holds Tryz.pinned (OpenSpec.upto treeBackSpec)

/-- 'gerundlaw21.TreeDerives', WHERE WHAT IT READS IS OF BULK AT MOST 1048576: true; the input reads as it did. -/
def treeDerivesUptoRow : OpenClaim := { program := "ytfdbpafenhdkbaagreat", sum := "57a0d9e2ac95bfbc3da4ca04e6db9ab7aa96612d1363e87fdd1f0f9ccfc3af31", func := "gerund/gerundlaw21.TreeDerives", spec := "treeDerives", unfollowed := true, recurses := true, apart := false, narrowed := true }
def TreeDerivesUptoSaid : Prop := treeDerivesUptoRow.holds Tryz.pinned (OpenSpec.upto treeDerivesSpec)

end Rows
end Go.Proofs.YtfdbpafenhdkbaaGreat
