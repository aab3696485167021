/-
  NARROWER THAN 'FOR EVERY INPUT', by the rows' own cells (each row's printed sentence says how): CountOf: laid · CountTrees: laid · CountSplits: laid · CountRules: laid · CountSentences: laid · RankThere: laid · RankOrder: laid · RankTrees: laid · RankRanks: laid · RankBack: laid.
  DERIVED. THE GIVEN ROWS OF THIS SEAT. 10 by the template 'for every input the law returns true; each argument reads behind the call as it read before'; 0 by the template 'total and deterministic' (their statements: YtggbjdmpjidhgaaGreatDoorTotals.lean).
  GIVEN WITH THE SEED: the statements are not yours to turn. If you find one false, say at which input.
  Laid BY PROGRAM, IN A SANDBOX (cutbox-rows.mjs): the forced cells as the released guide's own fill.sh prints them over the translation e20269fa1c0ae02c… (all of the seat's roots in one cut). By AI agents, Wed Nov 11 2026. No macro, syntax, notation, axiom, sorry.
-/
import Derived.Test.YtggbjdmpjidhgaaGreatDoorChecked
import GoSem.Claim
import GoSem.ClaimJoined
import GoSem.ClaimMapViews
import Derived.JoinedTies
import Derived.KernelRfl
namespace Go.Proofs.YtggbjdmpjidhgaaGreatDoor
/- THE CELL 'sum', in the pinned program and in every row, IS THE sha256 OF THE DUMP (.gsa) THAT YtggbjdmpjidhgaaGreatDoorProg.lean LOADS. Nothing in Lean hashes anything: it is a label: what it is worth is what the hold of that sum in a sandbox is worth. -/
noncomputable def Tryz.pinned : Pinned := { name := "ytggbjdmpjidhgaagreatdoor", sum := "e20269fa1c0ae02ccb632e46728d3c23b7b183cb79e7664bdfc392f68714cd8a", checked := Tryz.checked }
namespace Rows
def none {H : Type} : Left H := { results := [], args := [] }

/- WHAT THE LISTED PACKAGE-LEVEL VARIABLES READ AS WHEN THE CALL BEGINS. Each datum BY PROGRAM (the guide's laid-datum.mjs) off the statement by which the dump's own 'gosem.cut.vars' lays the variable. In a bare row this is a premise. The card (YtggbjdmpjidhgaaGreatDoorCards.lean) ties it to the program's text. -/
def laid_math_bits_deBruijn32tab {H : Type} : DataW H := .agg [.lit (.int .u8 0), .lit (.int .u8 1), .lit (.int .u8 28), .lit (.int .u8 2), .lit (.int .u8 29), .lit (.int .u8 14), .lit (.int .u8 24), .lit (.int .u8 3), .lit (.int .u8 30), .lit (.int .u8 22), .lit (.int .u8 20), .lit (.int .u8 15), .lit (.int .u8 25), .lit (.int .u8 17), .lit (.int .u8 4), .lit (.int .u8 8), .lit (.int .u8 31), .lit (.int .u8 27), .lit (.int .u8 13), .lit (.int .u8 23), .lit (.int .u8 21), .lit (.int .u8 19), .lit (.int .u8 16), .lit (.int .u8 7), .lit (.int .u8 26), .lit (.int .u8 12), .lit (.int .u8 18), .lit (.int .u8 6), .lit (.int .u8 11), .lit (.int .u8 5), .lit (.int .u8 10), .lit (.int .u8 9)]

/-- 'gerundlaw22.CountOf': WHATEVER THE INPUT: true; the input reads as it did. -/
def countOfSpec : ChangeSpec := { name := "countOf", fn := fun _ => fun
  | [d1, d2, d3] => { results := [.lit (.bool true)], args := [d1, d2, d3] }
  | _ => none }
def countOfRow : OpenClaim := { program := "ytggbjdmpjidhgaagreatdoor", sum := "e20269fa1c0ae02ccb632e46728d3c23b7b183cb79e7664bdfc392f68714cd8a", func := "gerund/gerundlaw22.CountOf", spec := "countOf", unfollowed := true, recurses := true, named := ["math/bits.deBruijn32tab"], plainKeys := false, apart := false, laid := [("math/bits.deBruijn32tab", laid_math_bits_deBruijn32tab)] }
def CountOfSaid : Prop := countOfRow.holds Tryz.pinned (OpenSpec.ofChange countOfSpec)

/-- ITS FALSE NEIGHBOUR: 'it returns false'. Refute it at one input. -/
def countOfWrong : ChangeSpec := { name := "countOf", fn := fun _ => fun
  | [d1, d2, d3] => { results := [.lit (.bool false)], args := [d1, d2, d3] }
  | _ => none }
def CountOfWrongFalsely : Prop := countOfRow.holds Tryz.pinned (OpenSpec.ofChange countOfWrong)

/-- 'gerundlaw22.CountTrees': WHATEVER THE INPUT: true; the input reads as it did. -/
def countTreesSpec : ChangeSpec := { name := "countTrees", fn := fun _ => fun
  | [d1, d2] => { results := [.lit (.bool true)], args := [d1, d2] }
  | _ => none }
def countTreesRow : OpenClaim := { program := "ytggbjdmpjidhgaagreatdoor", sum := "e20269fa1c0ae02ccb632e46728d3c23b7b183cb79e7664bdfc392f68714cd8a", func := "gerund/gerundlaw22.CountTrees", spec := "countTrees", unfollowed := true, recurses := true, named := ["math/bits.deBruijn32tab"], plainKeys := false, apart := false, laid := [("math/bits.deBruijn32tab", laid_math_bits_deBruijn32tab)] }
def CountTreesSaid : Prop := countTreesRow.holds Tryz.pinned (OpenSpec.ofChange countTreesSpec)

/-- ITS FALSE NEIGHBOUR: 'it returns false'. Refute it at one input. -/
def countTreesWrong : ChangeSpec := { name := "countTrees", fn := fun _ => fun
  | [d1, d2] => { results := [.lit (.bool false)], args := [d1, d2] }
  | _ => none }
def CountTreesWrongFalsely : Prop := countTreesRow.holds Tryz.pinned (OpenSpec.ofChange countTreesWrong)

/-- 'gerundlaw22.CountSplits': WHATEVER THE INPUT: true; the input reads as it did. -/
def countSplitsSpec : ChangeSpec := { name := "countSplits", fn := fun _ => fun
  | [d1, d2, d3] => { results := [.lit (.bool true)], args := [d1, d2, d3] }
  | _ => none }
def countSplitsRow : OpenClaim := { program := "ytggbjdmpjidhgaagreatdoor", sum := "e20269fa1c0ae02ccb632e46728d3c23b7b183cb79e7664bdfc392f68714cd8a", func := "gerund/gerundlaw22.CountSplits", spec := "countSplits", unfollowed := true, recurses := true, named := ["math/bits.deBruijn32tab"], plainKeys := false, apart := false, laid := [("math/bits.deBruijn32tab", laid_math_bits_deBruijn32tab)] }
def CountSplitsSaid : Prop := countSplitsRow.holds Tryz.pinned (OpenSpec.ofChange countSplitsSpec)

/-- ITS FALSE NEIGHBOUR: 'it returns false'. Refute it at one input. -/
def countSplitsWrong : ChangeSpec := { name := "countSplits", fn := fun _ => fun
  | [d1, d2, d3] => { results := [.lit (.bool false)], args := [d1, d2, d3] }
  | _ => none }
def CountSplitsWrongFalsely : Prop := countSplitsRow.holds Tryz.pinned (OpenSpec.ofChange countSplitsWrong)

/-- 'gerundlaw22.CountRules': WHATEVER THE INPUT: true; the input reads as it did. -/
def countRulesSpec : ChangeSpec := { name := "countRules", fn := fun _ => fun
  | [d1, d2, d3] => { results := [.lit (.bool true)], args := [d1, d2, d3] }
  | _ => none }
def countRulesRow : OpenClaim := { program := "ytggbjdmpjidhgaagreatdoor", sum := "e20269fa1c0ae02ccb632e46728d3c23b7b183cb79e7664bdfc392f68714cd8a", func := "gerund/gerundlaw22.CountRules", spec := "countRules", unfollowed := true, recurses := true, named := ["math/bits.deBruijn32tab"], plainKeys := false, apart := false, laid := [("math/bits.deBruijn32tab", laid_math_bits_deBruijn32tab)] }
def CountRulesSaid : Prop := countRulesRow.holds Tryz.pinned (OpenSpec.ofChange countRulesSpec)

/-- ITS FALSE NEIGHBOUR: 'it returns false'. Refute it at one input. -/
def countRulesWrong : ChangeSpec := { name := "countRules", fn := fun _ => fun
  | [d1, d2, d3] => { results := [.lit (.bool false)], args := [d1, d2, d3] }
  | _ => none }
def CountRulesWrongFalsely : Prop := countRulesRow.holds Tryz.pinned (OpenSpec.ofChange countRulesWrong)

/-- 'gerundlaw22.CountSentences': WHATEVER THE INPUT: true; the input reads as it did. -/
def countSentencesSpec : ChangeSpec := { name := "countSentences", fn := fun _ => fun
  | [d1, d2] => { results := [.lit (.bool true)], args := [d1, d2] }
  | _ => none }
def countSentencesRow : OpenClaim := { program := "ytggbjdmpjidhgaagreatdoor", sum := "e20269fa1c0ae02ccb632e46728d3c23b7b183cb79e7664bdfc392f68714cd8a", func := "gerund/gerundlaw22.CountSentences", spec := "countSentences", unfollowed := true, recurses := true, named := ["math/bits.deBruijn32tab"], plainKeys := false, apart := false, laid := [("math/bits.deBruijn32tab", laid_math_bits_deBruijn32tab)] }
def CountSentencesSaid : Prop := countSentencesRow.holds Tryz.pinned (OpenSpec.ofChange countSentencesSpec)

/-- ITS FALSE NEIGHBOUR: 'it returns false'. Refute it at one input. -/
def countSentencesWrong : ChangeSpec := { name := "countSentences", fn := fun _ => fun
  | [d1, d2] => { results := [.lit (.bool false)], args := [d1, d2] }
  | _ => none }
def CountSentencesWrongFalsely : Prop := countSentencesRow.holds Tryz.pinned (OpenSpec.ofChange countSentencesWrong)

/-- 'gerundlaw23.RankThere': WHATEVER THE INPUT: true; the input reads as it did. -/
def rankThereSpec : ChangeSpec := { name := "rankThere", fn := fun _ => fun
  | [d1, d2] => { results := [.lit (.bool true)], args := [d1, d2] }
  | _ => none }
def rankThereRow : OpenClaim := { program := "ytggbjdmpjidhgaagreatdoor", sum := "e20269fa1c0ae02ccb632e46728d3c23b7b183cb79e7664bdfc392f68714cd8a", func := "gerund/gerundlaw23.RankThere", spec := "rankThere", unfollowed := true, recurses := true, named := ["math/bits.deBruijn32tab"], plainKeys := false, apart := false, laid := [("math/bits.deBruijn32tab", laid_math_bits_deBruijn32tab)] }
def RankThereSaid : Prop := rankThereRow.holds Tryz.pinned (OpenSpec.ofChange rankThereSpec)

/-- ITS FALSE NEIGHBOUR: 'it returns false'. Refute it at one input. -/
def rankThereWrong : ChangeSpec := { name := "rankThere", fn := fun _ => fun
  | [d1, d2] => { results := [.lit (.bool false)], args := [d1, d2] }
  | _ => none }
def RankThereWrongFalsely : Prop := rankThereRow.holds Tryz.pinned (OpenSpec.ofChange rankThereWrong)

/-- 'gerundlaw23.RankOrder': WHATEVER THE INPUT: true; the input reads as it did. -/
def rankOrderSpec : ChangeSpec := { name := "rankOrder", fn := fun _ => fun
  | [d1, d2, d3] => { results := [.lit (.bool true)], args := [d1, d2, d3] }
  | _ => none }
def rankOrderRow : OpenClaim := { program := "ytggbjdmpjidhgaagreatdoor", sum := "e20269fa1c0ae02ccb632e46728d3c23b7b183cb79e7664bdfc392f68714cd8a", func := "gerund/gerundlaw23.RankOrder", spec := "rankOrder", unfollowed := true, recurses := true, named := ["math/bits.deBruijn32tab"], plainKeys := false, apart := false, laid := [("math/bits.deBruijn32tab", laid_math_bits_deBruijn32tab)] }
def RankOrderSaid : Prop := rankOrderRow.holds Tryz.pinned (OpenSpec.ofChange rankOrderSpec)

/-- ITS FALSE NEIGHBOUR: 'it returns false'. Refute it at one input. -/
def rankOrderWrong : ChangeSpec := { name := "rankOrder", fn := fun _ => fun
  | [d1, d2, d3] => { results := [.lit (.bool false)], args := [d1, d2, d3] }
  | _ => none }
def RankOrderWrongFalsely : Prop := rankOrderRow.holds Tryz.pinned (OpenSpec.ofChange rankOrderWrong)

/-- 'gerundlaw23.RankTrees': WHATEVER THE INPUT: true; the input reads as it did. -/
def rankTreesSpec : ChangeSpec := { name := "rankTrees", fn := fun _ => fun
  | [d1, d2, d3] => { results := [.lit (.bool true)], args := [d1, d2, d3] }
  | _ => none }
def rankTreesRow : OpenClaim := { program := "ytggbjdmpjidhgaagreatdoor", sum := "e20269fa1c0ae02ccb632e46728d3c23b7b183cb79e7664bdfc392f68714cd8a", func := "gerund/gerundlaw23.RankTrees", spec := "rankTrees", unfollowed := true, recurses := true, named := ["math/bits.deBruijn32tab"], plainKeys := false, apart := false, laid := [("math/bits.deBruijn32tab", laid_math_bits_deBruijn32tab)] }
def RankTreesSaid : Prop := rankTreesRow.holds Tryz.pinned (OpenSpec.ofChange rankTreesSpec)

/-- ITS FALSE NEIGHBOUR: 'it returns false'. Refute it at one input. -/
def rankTreesWrong : ChangeSpec := { name := "rankTrees", fn := fun _ => fun
  | [d1, d2, d3] => { results := [.lit (.bool false)], args := [d1, d2, d3] }
  | _ => none }
def RankTreesWrongFalsely : Prop := rankTreesRow.holds Tryz.pinned (OpenSpec.ofChange rankTreesWrong)

/-- 'gerundlaw23.RankRanks': WHATEVER THE INPUT: true; the input reads as it did. -/
def rankRanksSpec : ChangeSpec := { name := "rankRanks", fn := fun _ => fun
  | [d1, d2] => { results := [.lit (.bool true)], args := [d1, d2] }
  | _ => none }
def rankRanksRow : OpenClaim := { program := "ytggbjdmpjidhgaagreatdoor", sum := "e20269fa1c0ae02ccb632e46728d3c23b7b183cb79e7664bdfc392f68714cd8a", func := "gerund/gerundlaw23.RankRanks", spec := "rankRanks", unfollowed := true, recurses := true, named := ["math/bits.deBruijn32tab"], plainKeys := false, apart := false, laid := [("math/bits.deBruijn32tab", laid_math_bits_deBruijn32tab)] }
def RankRanksSaid : Prop := rankRanksRow.holds Tryz.pinned (OpenSpec.ofChange rankRanksSpec)

/-- ITS FALSE NEIGHBOUR: 'it returns false'. Refute it at one input. -/
def rankRanksWrong : ChangeSpec := { name := "rankRanks", fn := fun _ => fun
  | [d1, d2] => { results := [.lit (.bool false)], args := [d1, d2] }
  | _ => none }
def RankRanksWrongFalsely : Prop := rankRanksRow.holds Tryz.pinned (OpenSpec.ofChange rankRanksWrong)

/-- 'gerundlaw23.RankBack': WHATEVER THE INPUT: true; the input reads as it did. -/
def rankBackSpec : ChangeSpec := { name := "rankBack", fn := fun _ => fun
  | [d1, d2, d3] => { results := [.lit (.bool true)], args := [d1, d2, d3] }
  | _ => none }
def rankBackRow : OpenClaim := { program := "ytggbjdmpjidhgaagreatdoor", sum := "e20269fa1c0ae02ccb632e46728d3c23b7b183cb79e7664bdfc392f68714cd8a", func := "gerund/gerundlaw23.RankBack", spec := "rankBack", unfollowed := true, recurses := true, named := ["math/bits.deBruijn32tab"], plainKeys := false, apart := false, laid := [("math/bits.deBruijn32tab", laid_math_bits_deBruijn32tab)] }
def RankBackSaid : Prop := rankBackRow.holds Tryz.pinned (OpenSpec.ofChange rankBackSpec)

/-- ITS FALSE NEIGHBOUR: 'it returns false'. Refute it at one input. -/
def rankBackWrong : ChangeSpec := { name := "rankBack", fn := fun _ => fun
  | [d1, d2, d3] => { results := [.lit (.bool false)], args := [d1, d2, d3] }
  | _ => none }
def RankBackWrongFalsely : Prop := rankBackRow.holds Tryz.pinned (OpenSpec.ofChange rankBackWrong)

/- THE SECOND FORM. 'bulk': how many values and letters a reading holds, each counted each time it is reached (what is shared counts as often as it is met; a slice's spare places count too). A statement '..UptoSaid' is the law's where the arguments, and the package variables that the reading takes, are together of bulk at most 1048576: NARROWER than '..Said'. Prove '..Said' where nothing that the law and all that it calls make is longer than what came in: it says more and counts as full. Else prove '..UptoSaid'. A law counts once. -/
mutual
def uptoBulk {H : Type} : DataW H → Nat
  | .lit (.string bytes) => bytes.length + 1
  | .lit _ => 1
  | .nil => 1
  | .ptr d => uptoBulk d + 1
  | .slice elems spare => uptoBulkAll elems + uptoBulkAll spare + 1
  | .agg parts => uptoBulkAll parts + 1
  | .iface _ d => uptoBulk d + 1
  | .map entries => uptoBulkEntries entries + 1
  | .held _ => 1
def uptoBulkAll {H : Type} : List (DataW H) → Nat
  | [] => 0
  | d :: r => uptoBulk d + uptoBulkAll r
def uptoBulkEntries {H : Type} : List (Lit × DataW H) → Nat
  | [] => 0
  | x :: r => uptoBulkEntry x + uptoBulkEntries r
def uptoBulkEntry {H : Type} : Lit × DataW H → Nat
  | (.string bytes, d) => bytes.length + uptoBulk d + 1
  | (_, d) => uptoBulk d + 1
 end
def uptoSmall : (H : Type) → List (DataW H) → Bool := fun _ ds => decide (uptoBulkAll ds ≤ 1048576)
def OpenSpec.upto (s : _root_.Go.ChangeSpec) : _root_.Go.OpenSpec := { _root_.Go.OpenSpec.ofChange s with cond := some uptoSmall }

/-- 'gerundlaw22.CountOf', WHERE WHAT IT READS IS OF BULK AT MOST 1048576: true; the input reads as it did. -/
def countOfUptoRow : OpenClaim := { program := "ytggbjdmpjidhgaagreatdoor", sum := "e20269fa1c0ae02ccb632e46728d3c23b7b183cb79e7664bdfc392f68714cd8a", func := "gerund/gerundlaw22.CountOf", spec := "countOf", unfollowed := true, recurses := true, named := ["math/bits.deBruijn32tab"], plainKeys := false, apart := false, laid := [("math/bits.deBruijn32tab", laid_math_bits_deBruijn32tab)], narrowed := true }
def CountOfUptoSaid : Prop := countOfUptoRow.holds Tryz.pinned (OpenSpec.upto countOfSpec)

/-- 'gerundlaw22.CountTrees', WHERE WHAT IT READS IS OF BULK AT MOST 1048576: true; the input reads as it did. -/
def countTreesUptoRow : OpenClaim := { program := "ytggbjdmpjidhgaagreatdoor", sum := "e20269fa1c0ae02ccb632e46728d3c23b7b183cb79e7664bdfc392f68714cd8a", func := "gerund/gerundlaw22.CountTrees", spec := "countTrees", unfollowed := true, recurses := true, named := ["math/bits.deBruijn32tab"], plainKeys := false, apart := false, laid := [("math/bits.deBruijn32tab", laid_math_bits_deBruijn32tab)], narrowed := true }
def CountTreesUptoSaid : Prop := countTreesUptoRow.holds Tryz.pinned (OpenSpec.upto countTreesSpec)

/-- 'gerundlaw22.CountSplits', WHERE WHAT IT READS IS OF BULK AT MOST 1048576: true; the input reads as it did. -/
def countSplitsUptoRow : OpenClaim := { program := "ytggbjdmpjidhgaagreatdoor", sum := "e20269fa1c0ae02ccb632e46728d3c23b7b183cb79e7664bdfc392f68714cd8a", func := "gerund/gerundlaw22.CountSplits", spec := "countSplits", unfollowed := true, recurses := true, named := ["math/bits.deBruijn32tab"], plainKeys := false, apart := false, laid := [("math/bits.deBruijn32tab", laid_math_bits_deBruijn32tab)], narrowed := true }
def CountSplitsUptoSaid : Prop := countSplitsUptoRow.holds Tryz.pinned (OpenSpec.upto countSplitsSpec)

/-- 'gerundlaw22.CountRules', WHERE WHAT IT READS IS OF BULK AT MOST 1048576: true; the input reads as it did. -/
def countRulesUptoRow : OpenClaim := { program := "ytggbjdmpjidhgaagreatdoor", sum := "e20269fa1c0ae02ccb632e46728d3c23b7b183cb79e7664bdfc392f68714cd8a", func := "gerund/gerundlaw22.CountRules", spec := "countRules", unfollowed := true, recurses := true, named := ["math/bits.deBruijn32tab"], plainKeys := false, apart := false, laid := [("math/bits.deBruijn32tab", laid_math_bits_deBruijn32tab)], narrowed := true }
def CountRulesUptoSaid : Prop := countRulesUptoRow.holds Tryz.pinned (OpenSpec.upto countRulesSpec)

/-- 'gerundlaw22.CountSentences', WHERE WHAT IT READS IS OF BULK AT MOST 1048576: true; the input reads as it did. -/
def countSentencesUptoRow : OpenClaim := { program := "ytggbjdmpjidhgaagreatdoor", sum := "e20269fa1c0ae02ccb632e46728d3c23b7b183cb79e7664bdfc392f68714cd8a", func := "gerund/gerundlaw22.CountSentences", spec := "countSentences", unfollowed := true, recurses := true, named := ["math/bits.deBruijn32tab"], plainKeys := false, apart := false, laid := [("math/bits.deBruijn32tab", laid_math_bits_deBruijn32tab)], narrowed := true }
def CountSentencesUptoSaid : Prop := countSentencesUptoRow.holds Tryz.pinned (OpenSpec.upto countSentencesSpec)

/-- 'gerundlaw23.RankThere', WHERE WHAT IT READS IS OF BULK AT MOST 1048576: true; the input reads as it did. -/
def rankThereUptoRow : OpenClaim := { program := "ytggbjdmpjidhgaagreatdoor", sum := "e20269fa1c0ae02ccb632e46728d3c23b7b183cb79e7664bdfc392f68714cd8a", func := "gerund/gerundlaw23.RankThere", spec := "rankThere", unfollowed := true, recurses := true, named := ["math/bits.deBruijn32tab"], plainKeys := false, apart := false, laid := [("math/bits.deBruijn32tab", laid_math_bits_deBruijn32tab)], narrowed := true }
def RankThereUptoSaid : Prop := rankThereUptoRow.holds Tryz.pinned (OpenSpec.upto rankThereSpec)

/-- 'gerundlaw23.RankOrder', WHERE WHAT IT READS IS OF BULK AT MOST 1048576: true; the input reads as it did. -/
def rankOrderUptoRow : OpenClaim := { program := "ytggbjdmpjidhgaagreatdoor", sum := "e20269fa1c0ae02ccb632e46728d3c23b7b183cb79e7664bdfc392f68714cd8a", func := "gerund/gerundlaw23.RankOrder", spec := "rankOrder", unfollowed := true, recurses := true, named := ["math/bits.deBruijn32tab"], plainKeys := false, apart := false, laid := [("math/bits.deBruijn32tab", laid_math_bits_deBruijn32tab)], narrowed := true }
def RankOrderUptoSaid : Prop := rankOrderUptoRow.holds Tryz.pinned (OpenSpec.upto rankOrderSpec)

/-- 'gerundlaw23.RankTrees', WHERE WHAT IT READS IS OF BULK AT MOST 1048576: true; the input reads as it did. -/
def rankTreesUptoRow : OpenClaim := { program := "ytggbjdmpjidhgaagreatdoor", sum := "e20269fa1c0ae02ccb632e46728d3c23b7b183cb79e7664bdfc392f68714cd8a", func := "gerund/gerundlaw23.RankTrees", spec := "rankTrees", unfollowed := true, recurses := true, named := ["math/bits.deBruijn32tab"], plainKeys := false, apart := false, laid := [("math/bits.deBruijn32tab", laid_math_bits_deBruijn32tab)], narrowed := true }
def RankTreesUptoSaid : Prop := rankTreesUptoRow.holds Tryz.pinned (OpenSpec.upto rankTreesSpec)

/-- 'gerundlaw23.RankRanks', WHERE WHAT IT READS IS OF BULK AT MOST 1048576: true; the input reads as it did. -/
def rankRanksUptoRow : OpenClaim := { program := "ytggbjdmpjidhgaagreatdoor", sum := "e20269fa1c0ae02ccb632e46728d3c23b7b183cb79e7664bdfc392f68714cd8a", func := "gerund/gerundlaw23.RankRanks", spec := "rankRanks", unfollowed := true, recurses := true, named := ["math/bits.deBruijn32tab"], plainKeys := false, apart := false, laid := [("math/bits.deBruijn32tab", laid_math_bits_deBruijn32tab)], narrowed := true }
def RankRanksUptoSaid : Prop := rankRanksUptoRow.holds Tryz.pinned (OpenSpec.upto rankRanksSpec)

/-- 'gerundlaw23.RankBack', WHERE WHAT IT READS IS OF BULK AT MOST 1048576: true; the input reads as it did. -/
def rankBackUptoRow : OpenClaim := { program := "ytggbjdmpjidhgaagreatdoor", sum := "e20269fa1c0ae02ccb632e46728d3c23b7b183cb79e7664bdfc392f68714cd8a", func := "gerund/gerundlaw23.RankBack", spec := "rankBack", unfollowed := true, recurses := true, named := ["math/bits.deBruijn32tab"], plainKeys := false, apart := false, laid := [("math/bits.deBruijn32tab", laid_math_bits_deBruijn32tab)], narrowed := true }
def RankBackUptoSaid : Prop := rankBackUptoRow.holds Tryz.pinned (OpenSpec.upto rankBackSpec)

end Rows
end Go.Proofs.YtggbjdmpjidhgaaGreatDoor
