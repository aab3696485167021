/-
  No cell of these rows narrows 'for every input' (looked for: loops, veiled, ifaces, maps, wideKeys, modest, calm, conditions, laid).
  DERIVED. THE GIVEN ROWS OF THIS SEAT. 12 by the template 'for every input the law returns true; each argument reads behind the call as it read before'; 0 by the template 'total and deterministic' (their statements: YtapnnnciaagbdaaTotals.lean).
  GIVEN WITH THE SEED: the statements are not yours to turn. If you find one false, say at which input.
  Laid BY PROGRAM, IN A SANDBOX (cutbox-rows.mjs): the forced cells as the released guide's own fill.sh prints them over the translation 3d806257ad6941ef… (all of the seat's roots in one cut). By AI agents, Wed Nov 11 2026. No macro, syntax, notation, axiom, sorry.
-/
import Derived.Test.YtapnnnciaagbdaaChecked
import GoSem.Claim
import GoSem.ClaimJoined
import GoSem.ClaimMapViews
import Derived.JoinedTies
import Derived.KernelRfl
namespace Go.Proofs.Ytapnnnciaagbdaa
/- THE CELL 'sum', in the pinned program and in every row, IS THE sha256 OF THE DUMP (.gsa) THAT YtapnnnciaagbdaaProg.lean LOADS. Nothing in Lean hashes anything: it is a label: what it is worth is what the hold of that sum in a sandbox is worth. -/
noncomputable def Try.pinned : Pinned := { name := "ytapnnnciaagbdaa", sum := "3d806257ad6941efe1ea08033c60626f47668f9cacb63220355cf5aa55b6c806", checked := Try.checked }
namespace Rows
def none {H : Type} : Left H := { results := [], args := [] }

/-- 'gerundlaw02.DrawBelow': WHATEVER THE INPUT: true; the input reads as it did. -/
def drawBelowSpec : ChangeSpec := { name := "drawBelow", fn := fun _ => fun
  | [d1, d2] => { results := [.lit (.bool true)], args := [d1, d2] }
  | _ => none }
def drawBelowRow : OpenClaim := { program := "ytapnnnciaagbdaa", sum := "3d806257ad6941efe1ea08033c60626f47668f9cacb63220355cf5aa55b6c806", func := "gerund/gerundlaw02.DrawBelow", spec := "drawBelow", unfollowed := true, recurses := true, apart := false }
def DrawBelowSaid : Prop := drawBelowRow.holds Try.pinned (OpenSpec.ofChange drawBelowSpec)

/-- ITS FALSE NEIGHBOUR: 'it returns false'. Refute it at one input. -/
def drawBelowWrong : ChangeSpec := { name := "drawBelow", fn := fun _ => fun
  | [d1, d2] => { results := [.lit (.bool false)], args := [d1, d2] }
  | _ => none }
def DrawBelowWrongFalsely : Prop := drawBelowRow.holds Try.pinned (OpenSpec.ofChange drawBelowWrong)

/-- 'gerundlaw02.DrawWithin': WHATEVER THE INPUT: true; the input reads as it did. -/
def drawWithinSpec : ChangeSpec := { name := "drawWithin", fn := fun _ => fun
  | [d1, d2, d3] => { results := [.lit (.bool true)], args := [d1, d2, d3] }
  | _ => none }
def drawWithinRow : OpenClaim := { program := "ytapnnnciaagbdaa", sum := "3d806257ad6941efe1ea08033c60626f47668f9cacb63220355cf5aa55b6c806", func := "gerund/gerundlaw02.DrawWithin", spec := "drawWithin", unfollowed := true, recurses := true, apart := false }
def DrawWithinSaid : Prop := drawWithinRow.holds Try.pinned (OpenSpec.ofChange drawWithinSpec)

/-- ITS FALSE NEIGHBOUR: 'it returns false'. Refute it at one input. -/
def drawWithinWrong : ChangeSpec := { name := "drawWithin", fn := fun _ => fun
  | [d1, d2, d3] => { results := [.lit (.bool false)], args := [d1, d2, d3] }
  | _ => none }
def DrawWithinWrongFalsely : Prop := drawWithinRow.holds Try.pinned (OpenSpec.ofChange drawWithinWrong)

/-- 'gerundlaw02.DrawEven': WHATEVER THE INPUT: true; the input reads as it did. -/
def drawEvenSpec : ChangeSpec := { name := "drawEven", fn := fun _ => fun
  | [d] => { results := [.lit (.bool true)], args := [d] }
  | _ => none }
def drawEvenRow : OpenClaim := { program := "ytapnnnciaagbdaa", sum := "3d806257ad6941efe1ea08033c60626f47668f9cacb63220355cf5aa55b6c806", func := "gerund/gerundlaw02.DrawEven", spec := "drawEven", unfollowed := true, recurses := true, apart := false }
def DrawEvenSaid : Prop := drawEvenRow.holds Try.pinned (OpenSpec.ofChange drawEvenSpec)

/-- ITS FALSE NEIGHBOUR: 'it returns false'. Refute it at one input. -/
def drawEvenWrong : ChangeSpec := { name := "drawEven", fn := fun _ => fun
  | [d] => { results := [.lit (.bool false)], args := [d] }
  | _ => none }
def DrawEvenWrongFalsely : Prop := drawEvenRow.holds Try.pinned (OpenSpec.ofChange drawEvenWrong)

/-- 'gerundlaw02.DrawAgain': WHATEVER THE INPUT: true; the input reads as it did. -/
def drawAgainSpec : ChangeSpec := { name := "drawAgain", fn := fun _ => fun
  | [d1, d2, d3] => { results := [.lit (.bool true)], args := [d1, d2, d3] }
  | _ => none }
def drawAgainRow : OpenClaim := { program := "ytapnnnciaagbdaa", sum := "3d806257ad6941efe1ea08033c60626f47668f9cacb63220355cf5aa55b6c806", func := "gerund/gerundlaw02.DrawAgain", spec := "drawAgain", unfollowed := true, recurses := true, apart := false }
def DrawAgainSaid : Prop := drawAgainRow.holds Try.pinned (OpenSpec.ofChange drawAgainSpec)

/-- ITS FALSE NEIGHBOUR: 'it returns false'. Refute it at one input. -/
def drawAgainWrong : ChangeSpec := { name := "drawAgain", fn := fun _ => fun
  | [d1, d2, d3] => { results := [.lit (.bool false)], args := [d1, d2, d3] }
  | _ => none }
def DrawAgainWrongFalsely : Prop := drawAgainRow.holds Try.pinned (OpenSpec.ofChange drawAgainWrong)

/-- 'gerundlaw01.NatSums': WHATEVER THE INPUT: true; the input reads as it did. -/
def natSumsSpec : ChangeSpec := { name := "natSums", fn := fun _ => fun
  | [d1, d2] => { results := [.lit (.bool true)], args := [d1, d2] }
  | _ => none }
def natSumsRow : OpenClaim := { program := "ytapnnnciaagbdaa", sum := "3d806257ad6941efe1ea08033c60626f47668f9cacb63220355cf5aa55b6c806", func := "gerund/gerundlaw01.NatSums", spec := "natSums", named := ["math/bits.overflowError"], apart := false }
def NatSumsSaid : Prop := natSumsRow.holds Try.pinned (OpenSpec.ofChange natSumsSpec)

/-- ITS FALSE NEIGHBOUR: 'it returns false'. Refute it at one input. -/
def natSumsWrong : ChangeSpec := { name := "natSums", fn := fun _ => fun
  | [d1, d2] => { results := [.lit (.bool false)], args := [d1, d2] }
  | _ => none }
def NatSumsWrongFalsely : Prop := natSumsRow.holds Try.pinned (OpenSpec.ofChange natSumsWrong)

/-- 'gerundlaw01.NatProducts': WHATEVER THE INPUT: true; the input reads as it did. -/
def natProductsSpec : ChangeSpec := { name := "natProducts", fn := fun _ => fun
  | [d1, d2] => { results := [.lit (.bool true)], args := [d1, d2] }
  | _ => none }
def natProductsRow : OpenClaim := { program := "ytapnnnciaagbdaa", sum := "3d806257ad6941efe1ea08033c60626f47668f9cacb63220355cf5aa55b6c806", func := "gerund/gerundlaw01.NatProducts", spec := "natProducts", named := ["math/bits.overflowError"], apart := false }
def NatProductsSaid : Prop := natProductsRow.holds Try.pinned (OpenSpec.ofChange natProductsSpec)

/-- ITS FALSE NEIGHBOUR: 'it returns false'. Refute it at one input. -/
def natProductsWrong : ChangeSpec := { name := "natProducts", fn := fun _ => fun
  | [d1, d2] => { results := [.lit (.bool false)], args := [d1, d2] }
  | _ => none }
def NatProductsWrongFalsely : Prop := natProductsRow.holds Try.pinned (OpenSpec.ofChange natProductsWrong)

/-- 'gerundlaw01.NatDivides': WHATEVER THE INPUT: true; the input reads as it did. -/
def natDividesSpec : ChangeSpec := { name := "natDivides", fn := fun _ => fun
  | [d1, d2, d3] => { results := [.lit (.bool true)], args := [d1, d2, d3] }
  | _ => none }
def natDividesRow : OpenClaim := { program := "ytapnnnciaagbdaa", sum := "3d806257ad6941efe1ea08033c60626f47668f9cacb63220355cf5aa55b6c806", func := "gerund/gerundlaw01.NatDivides", spec := "natDivides", named := ["math/bits.overflowError"], apart := false }
def NatDividesSaid : Prop := natDividesRow.holds Try.pinned (OpenSpec.ofChange natDividesSpec)

/-- ITS FALSE NEIGHBOUR: 'it returns false'. Refute it at one input. -/
def natDividesWrong : ChangeSpec := { name := "natDivides", fn := fun _ => fun
  | [d1, d2, d3] => { results := [.lit (.bool false)], args := [d1, d2, d3] }
  | _ => none }
def NatDividesWrongFalsely : Prop := natDividesRow.holds Try.pinned (OpenSpec.ofChange natDividesWrong)

/-- 'gerundlaw01.NatTexts': WHATEVER THE INPUT: true; the input reads as it did. -/
def natTextsSpec : ChangeSpec := { name := "natTexts", fn := fun _ => fun
  | [d1, d2] => { results := [.lit (.bool true)], args := [d1, d2] }
  | _ => none }
def natTextsRow : OpenClaim := { program := "ytapnnnciaagbdaa", sum := "3d806257ad6941efe1ea08033c60626f47668f9cacb63220355cf5aa55b6c806", func := "gerund/gerundlaw01.NatTexts", spec := "natTexts", named := ["math/bits.overflowError"], apart := false }
def NatTextsSaid : Prop := natTextsRow.holds Try.pinned (OpenSpec.ofChange natTextsSpec)

/-- ITS FALSE NEIGHBOUR: 'it returns false'. Refute it at one input. -/
def natTextsWrong : ChangeSpec := { name := "natTexts", fn := fun _ => fun
  | [d1, d2] => { results := [.lit (.bool false)], args := [d1, d2] }
  | _ => none }
def NatTextsWrongFalsely : Prop := natTextsRow.holds Try.pinned (OpenSpec.ofChange natTextsWrong)

/-- 'gerundlaw01.NatLaws': WHATEVER THE INPUT: true; the input reads as it did. -/
def natLawsSpec : ChangeSpec := { name := "natLaws", fn := fun _ => fun
  | [d1, d2, d3] => { results := [.lit (.bool true)], args := [d1, d2, d3] }
  | _ => none }
def natLawsRow : OpenClaim := { program := "ytapnnnciaagbdaa", sum := "3d806257ad6941efe1ea08033c60626f47668f9cacb63220355cf5aa55b6c806", func := "gerund/gerundlaw01.NatLaws", spec := "natLaws", named := ["math/bits.overflowError"], apart := false }
def NatLawsSaid : Prop := natLawsRow.holds Try.pinned (OpenSpec.ofChange natLawsSpec)

/-- ITS FALSE NEIGHBOUR: 'it returns false'. Refute it at one input. -/
def natLawsWrong : ChangeSpec := { name := "natLaws", fn := fun _ => fun
  | [d1, d2, d3] => { results := [.lit (.bool false)], args := [d1, d2, d3] }
  | _ => none }
def NatLawsWrongFalsely : Prop := natLawsRow.holds Try.pinned (OpenSpec.ofChange natLawsWrong)

/-- 'gerundlaw01.NatParts': WHATEVER THE INPUT: true; the input reads as it did. -/
def natPartsSpec : ChangeSpec := { name := "natParts", fn := fun _ => fun
  | [d1, d2] => { results := [.lit (.bool true)], args := [d1, d2] }
  | _ => none }
def natPartsRow : OpenClaim := { program := "ytapnnnciaagbdaa", sum := "3d806257ad6941efe1ea08033c60626f47668f9cacb63220355cf5aa55b6c806", func := "gerund/gerundlaw01.NatParts", spec := "natParts", named := ["math/bits.overflowError"], apart := false }
def NatPartsSaid : Prop := natPartsRow.holds Try.pinned (OpenSpec.ofChange natPartsSpec)

/-- ITS FALSE NEIGHBOUR: 'it returns false'. Refute it at one input. -/
def natPartsWrong : ChangeSpec := { name := "natParts", fn := fun _ => fun
  | [d1, d2] => { results := [.lit (.bool false)], args := [d1, d2] }
  | _ => none }
def NatPartsWrongFalsely : Prop := natPartsRow.holds Try.pinned (OpenSpec.ofChange natPartsWrong)

/-- 'gerundlaw01.NatBack': WHATEVER THE INPUT: true; the input reads as it did. -/
def natBackSpec : ChangeSpec := { name := "natBack", fn := fun _ => fun
  | [d1, d2] => { results := [.lit (.bool true)], args := [d1, d2] }
  | _ => none }
def natBackRow : OpenClaim := { program := "ytapnnnciaagbdaa", sum := "3d806257ad6941efe1ea08033c60626f47668f9cacb63220355cf5aa55b6c806", func := "gerund/gerundlaw01.NatBack", spec := "natBack", named := ["math/bits.overflowError"], apart := false }
def NatBackSaid : Prop := natBackRow.holds Try.pinned (OpenSpec.ofChange natBackSpec)

/-- ITS FALSE NEIGHBOUR: 'it returns false'. Refute it at one input. -/
def natBackWrong : ChangeSpec := { name := "natBack", fn := fun _ => fun
  | [d1, d2] => { results := [.lit (.bool false)], args := [d1, d2] }
  | _ => none }
def NatBackWrongFalsely : Prop := natBackRow.holds Try.pinned (OpenSpec.ofChange natBackWrong)

/-- 'gerundlaw01.NatQuotients': WHATEVER THE INPUT: true; the input reads as it did. -/
def natQuotientsSpec : ChangeSpec := { name := "natQuotients", fn := fun _ => fun
  | [d1, d2] => { results := [.lit (.bool true)], args := [d1, d2] }
  | _ => none }
def natQuotientsRow : OpenClaim := { program := "ytapnnnciaagbdaa", sum := "3d806257ad6941efe1ea08033c60626f47668f9cacb63220355cf5aa55b6c806", func := "gerund/gerundlaw01.NatQuotients", spec := "natQuotients", named := ["math/bits.overflowError"], apart := false }
def NatQuotientsSaid : Prop := natQuotientsRow.holds Try.pinned (OpenSpec.ofChange natQuotientsSpec)

/-- ITS FALSE NEIGHBOUR: 'it returns false'. Refute it at one input. -/
def natQuotientsWrong : ChangeSpec := { name := "natQuotients", fn := fun _ => fun
  | [d1, d2] => { results := [.lit (.bool false)], args := [d1, d2] }
  | _ => none }
def NatQuotientsWrongFalsely : Prop := natQuotientsRow.holds Try.pinned (OpenSpec.ofChange natQuotientsWrong)

/- THE SECOND FORM. 'bulk': how many values and letters a reading holds, each counted each time it is reached (what is shared counts as often as it is met; a slice's spare places count too). A statement '..UptoSaid' is the law's where the arguments, and the package variables that the reading takes, are together of bulk at most 1048576: NARROWER than '..Said'. Prove '..Said' where nothing that the law and all that it calls make is longer than what came in: it says more and counts as full. Else prove '..UptoSaid'. A law counts once. -/
mutual
def uptoBulk {H : Type} : DataW H → Nat
  | .lit (.string bytes) => bytes.length + 1
  | .lit _ => 1
  | .nil => 1
  | .ptr d => uptoBulk d + 1
  | .slice elems spare => uptoBulkAll elems + uptoBulkAll spare + 1
  | .agg parts => uptoBulkAll parts + 1
  | .iface _ d => uptoBulk d + 1
  | .map entries => uptoBulkEntries entries + 1
  | .held _ => 1
def uptoBulkAll {H : Type} : List (DataW H) → Nat
  | [] => 0
  | d :: r => uptoBulk d + uptoBulkAll r
def uptoBulkEntries {H : Type} : List (Lit × DataW H) → Nat
  | [] => 0
  | x :: r => uptoBulkEntry x + uptoBulkEntries r
def uptoBulkEntry {H : Type} : Lit × DataW H → Nat
  | (.string bytes, d) => bytes.length + uptoBulk d + 1
  | (_, d) => uptoBulk d + 1
 end
def uptoSmall : (H : Type) → List (DataW H) → Bool := fun _ ds => decide (uptoBulkAll ds ≤ 1048576)
def OpenSpec.upto (s : _root_.Go.ChangeSpec) : _root_.Go.OpenSpec := { _root_.Go.OpenSpec.ofChange s with cond := some uptoSmall }

/-- 'gerundlaw02.DrawBelow', WHERE WHAT IT READS IS OF BULK AT MOST 1048576: true; the input reads as it did. -/
def drawBelowUptoRow : OpenClaim := { program := "ytapnnnciaagbdaa", sum := "3d806257ad6941efe1ea08033c60626f47668f9cacb63220355cf5aa55b6c806", func := "gerund/gerundlaw02.DrawBelow", spec := "drawBelow", unfollowed := true, recurses := true, apart := false, narrowed := true }
def DrawBelowUptoSaid : Prop := drawBelowUptoRow.holds Try.pinned (OpenSpec.upto drawBelowSpec)

/-- 'gerundlaw02.DrawWithin', WHERE WHAT IT READS IS OF BULK AT MOST 1048576: true; the input reads as it did. -/
def drawWithinUptoRow : OpenClaim := { program := "ytapnnnciaagbdaa", sum := "3d806257ad6941efe1ea08033c60626f47668f9cacb63220355cf5aa55b6c806", func := "gerund/gerundlaw02.DrawWithin", spec := "drawWithin", unfollowed := true, recurses := true, apart := false, narrowed := true }
def DrawWithinUptoSaid : Prop := drawWithinUptoRow.holds Try.pinned (OpenSpec.upto drawWithinSpec)

/-- 'gerundlaw02.DrawEven', WHERE WHAT IT READS IS OF BULK AT MOST 1048576: true; the input reads as it did. -/
def drawEvenUptoRow : OpenClaim := { program := "ytapnnnciaagbdaa", sum := "3d806257ad6941efe1ea08033c60626f47668f9cacb63220355cf5aa55b6c806", func := "gerund/gerundlaw02.DrawEven", spec := "drawEven", unfollowed := true, recurses := true, apart := false, narrowed := true }
def DrawEvenUptoSaid : Prop := drawEvenUptoRow.holds Try.pinned (OpenSpec.upto drawEvenSpec)

/-- 'gerundlaw02.DrawAgain', WHERE WHAT IT READS IS OF BULK AT MOST 1048576: true; the input reads as it did. -/
def drawAgainUptoRow : OpenClaim := { program := "ytapnnnciaagbdaa", sum := "3d806257ad6941efe1ea08033c60626f47668f9cacb63220355cf5aa55b6c806", func := "gerund/gerundlaw02.DrawAgain", spec := "drawAgain", unfollowed := true, recurses := true, apart := false, narrowed := true }
def DrawAgainUptoSaid : Prop := drawAgainUptoRow.holds Try.pinned (OpenSpec.upto drawAgainSpec)

/-- 'gerundlaw01.NatSums', WHERE WHAT IT READS IS OF BULK AT MOST 1048576: true; the input reads as it did. -/
def natSumsUptoRow : OpenClaim := { program := "ytapnnnciaagbdaa", sum := "3d806257ad6941efe1ea08033c60626f47668f9cacb63220355cf5aa55b6c806", func := "gerund/gerundlaw01.NatSums", spec := "natSums", named := ["math/bits.overflowError"], apart := false, narrowed := true }
def NatSumsUptoSaid : Prop := natSumsUptoRow.holds Try.pinned (OpenSpec.upto natSumsSpec)

/-- 'gerundlaw01.NatProducts', WHERE WHAT IT READS IS OF BULK AT MOST 1048576: true; the input reads as it did. -/
def natProductsUptoRow : OpenClaim := { program := "ytapnnnciaagbdaa", sum := "3d806257ad6941efe1ea08033c60626f47668f9cacb63220355cf5aa55b6c806", func := "gerund/gerundlaw01.NatProducts", spec := "natProducts", named := ["math/bits.overflowError"], apart := false, narrowed := true }
def NatProductsUptoSaid : Prop := natProductsUptoRow.holds Try.pinned (OpenSpec.upto natProductsSpec)

/-- 'gerundlaw01.NatDivides', WHERE WHAT IT READS IS OF BULK AT MOST 1048576: true; the input reads as it did. -/
def natDividesUptoRow : OpenClaim := { program := "ytapnnnciaagbdaa", sum := "3d806257ad6941efe1ea08033c60626f47668f9cacb63220355cf5aa55b6c806", func := "gerund/gerundlaw01.NatDivides", spec := "natDivides", named := ["math/bits.overflowError"], apart := false, narrowed := true }
def NatDividesUptoSaid : Prop := natDividesUptoRow.holds Try.pinned (OpenSpec.upto natDividesSpec)

/-- 'gerundlaw01.NatTexts', WHERE WHAT IT READS IS OF BULK AT MOST 1048576: true; the input reads as it did. -/
def natTextsUptoRow : OpenClaim := { program := "ytapnnnciaagbdaa", sum := "3d806257ad6941efe1ea08033c60626f47668f9cacb63220355cf5aa55b6c806", func := "gerund/gerundlaw01.NatTexts", spec := "natTexts", named := ["math/bits.overflowError"], apart := false, narrowed := true }
def NatTextsUptoSaid : Prop := natTextsUptoRow.holds Try.pinned (OpenSpec.upto natTextsSpec)

/-- 'gerundlaw01.NatLaws', WHERE WHAT IT READS IS OF BULK AT MOST 1048576: true; the input reads as it did. -/
def natLawsUptoRow : OpenClaim := { program := "ytapnnnciaagbdaa", sum := "3d806257ad6941efe1ea08033c60626f47668f9cacb63220355cf5aa55b6c806", func := "gerund/gerundlaw01.NatLaws", spec := "natLaws", named := ["math/bits.overflowError"], apart := false, narrowed := true }
def NatLawsUptoSaid : Prop := natLawsUptoRow.holds Try.pinned (OpenSpec.upto natLawsSpec)

/-- 'gerundlaw01.NatParts', WHERE WHAT IT READS IS OF BULK AT MOST 1048576: true; the input reads as it did. -/
def natPartsUptoRow : OpenClaim := { program := "ytapnnnciaagbdaa", sum := "3d806257ad6941efe1ea08033c60626f47668f9cacb63220355cf5aa55b6c806", func := "gerund/gerundlaw01.NatParts", spec := "natParts", named := ["math/bits.overflowError"], apart := false, narrowed := true }
def NatPartsUptoSaid : Prop := natPartsUptoRow.holds Try.pinned (OpenSpec.upto natPartsSpec)

/-- 'gerundlaw01.NatBack', WHERE WHAT IT READS IS OF BULK AT MOST 1048576: true; the input reads as it did. -/
def natBackUptoRow : OpenClaim := { program := "ytapnnnciaagbdaa", sum := "3d806257ad6941efe1ea08033c60626f47668f9cacb63220355cf5aa55b6c806", func := "gerund/gerundlaw01.NatBack", spec := "natBack", named := ["math/bits.overflowError"], apart := false, narrowed := true }
def NatBackUptoSaid : Prop := natBackUptoRow.holds Try.pinned (OpenSpec.upto natBackSpec)

/-- 'gerundlaw01.NatQuotients', WHERE WHAT IT READS IS OF BULK AT MOST 1048576: true; the input reads as it did. -/
def natQuotientsUptoRow : OpenClaim := { program := "ytapnnnciaagbdaa", sum := "3d806257ad6941efe1ea08033c60626f47668f9cacb63220355cf5aa55b6c806", func := "gerund/gerundlaw01.NatQuotients", spec := "natQuotients", named := ["math/bits.overflowError"], apart := false, narrowed := true }
def NatQuotientsUptoSaid : Prop := natQuotientsUptoRow.holds Try.pinned (OpenSpec.upto natQuotientsSpec)

end Rows
end Go.Proofs.Ytapnnnciaagbdaa
