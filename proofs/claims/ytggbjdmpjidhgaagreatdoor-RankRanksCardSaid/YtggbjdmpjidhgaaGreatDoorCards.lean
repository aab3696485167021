/-
  DERIVED. GIVEN WITH THE SEED: THE CARDS: each row of YtggbjdmpjidhgaaGreatDoorRows.lean that lists a variable, with what it lists TIED to the program's text (the seventh form; the later family's looks); each row that meets fmt, with fmt's text TOLD by the authors' own Lean function (tested against real Go, not proved from fmt's source: count such statements apart). THE CARD IS WHAT COUNTS. Prove the row's statement (the work); the ties are given (YtggbjdmpjidhgaaGreatDoorTie.lean); close each card by the builder's one call (the guide's Derived/Test/ToyasCard.lean, 'card_holds'). Laid BY PROGRAM, IN A SANDBOX (cutbox-door.mjs). By AI agents, Wed Nov 11 2026. No macro, syntax, notation, axiom, sorry.
-/
import Derived.Test.YtggbjdmpjidhgaaGreatDoorRows
import GoSem.ClaimSeven
namespace Go.Proofs.YtggbjdmpjidhgaaGreatDoor
namespace Rows

/-- THE TIED CARD OF 'gerundlaw22.CountOf'. -/
def countOfCard : Claim7 := { stood := { row := countOfRow, standIns := [], harness := (true, "a50ca63dc755594d79942d33e10d444e556f4fad411beb4260c5dda64cf68470"), looks := false }, kinds := [], alts := [], laidByText := true, laidKinds := [.data], laidTests := true, laidLooks := .later }
def CountOfCardSaid : Prop := Claim7.holds Tryz.pinned (.plain (OpenSpec.ofChange countOfSpec)) countOfCard

/-- THE TIED CARD OF 'gerundlaw22.CountTrees'. -/
def countTreesCard : Claim7 := { stood := { row := countTreesRow, standIns := [], harness := (true, "a50ca63dc755594d79942d33e10d444e556f4fad411beb4260c5dda64cf68470"), looks := false }, kinds := [], alts := [], laidByText := true, laidKinds := [.data], laidTests := true, laidLooks := .later }
def CountTreesCardSaid : Prop := Claim7.holds Tryz.pinned (.plain (OpenSpec.ofChange countTreesSpec)) countTreesCard

/-- THE TIED CARD OF 'gerundlaw22.CountSplits'. -/
def countSplitsCard : Claim7 := { stood := { row := countSplitsRow, standIns := [], harness := (true, "a50ca63dc755594d79942d33e10d444e556f4fad411beb4260c5dda64cf68470"), looks := false }, kinds := [], alts := [], laidByText := true, laidKinds := [.data], laidTests := true, laidLooks := .later }
def CountSplitsCardSaid : Prop := Claim7.holds Tryz.pinned (.plain (OpenSpec.ofChange countSplitsSpec)) countSplitsCard

/-- THE TIED CARD OF 'gerundlaw22.CountRules'. -/
def countRulesCard : Claim7 := { stood := { row := countRulesRow, standIns := [], harness := (true, "a50ca63dc755594d79942d33e10d444e556f4fad411beb4260c5dda64cf68470"), looks := false }, kinds := [], alts := [], laidByText := true, laidKinds := [.data], laidTests := true, laidLooks := .later }
def CountRulesCardSaid : Prop := Claim7.holds Tryz.pinned (.plain (OpenSpec.ofChange countRulesSpec)) countRulesCard

/-- THE TIED CARD OF 'gerundlaw22.CountSentences'. -/
def countSentencesCard : Claim7 := { stood := { row := countSentencesRow, standIns := [], harness := (true, "a50ca63dc755594d79942d33e10d444e556f4fad411beb4260c5dda64cf68470"), looks := false }, kinds := [], alts := [], laidByText := true, laidKinds := [.data], laidTests := true, laidLooks := .later }
def CountSentencesCardSaid : Prop := Claim7.holds Tryz.pinned (.plain (OpenSpec.ofChange countSentencesSpec)) countSentencesCard

/-- THE TIED CARD OF 'gerundlaw23.RankThere'. -/
def rankThereCard : Claim7 := { stood := { row := rankThereRow, standIns := [], harness := (true, "a50ca63dc755594d79942d33e10d444e556f4fad411beb4260c5dda64cf68470"), looks := false }, kinds := [], alts := [], laidByText := true, laidKinds := [.data], laidTests := true, laidLooks := .later }
def RankThereCardSaid : Prop := Claim7.holds Tryz.pinned (.plain (OpenSpec.ofChange rankThereSpec)) rankThereCard

/-- THE TIED CARD OF 'gerundlaw23.RankOrder'. -/
def rankOrderCard : Claim7 := { stood := { row := rankOrderRow, standIns := [], harness := (true, "a50ca63dc755594d79942d33e10d444e556f4fad411beb4260c5dda64cf68470"), looks := false }, kinds := [], alts := [], laidByText := true, laidKinds := [.data], laidTests := true, laidLooks := .later }
def RankOrderCardSaid : Prop := Claim7.holds Tryz.pinned (.plain (OpenSpec.ofChange rankOrderSpec)) rankOrderCard

/-- THE TIED CARD OF 'gerundlaw23.RankTrees'. -/
def rankTreesCard : Claim7 := { stood := { row := rankTreesRow, standIns := [], harness := (true, "a50ca63dc755594d79942d33e10d444e556f4fad411beb4260c5dda64cf68470"), looks := false }, kinds := [], alts := [], laidByText := true, laidKinds := [.data], laidTests := true, laidLooks := .later }
def RankTreesCardSaid : Prop := Claim7.holds Tryz.pinned (.plain (OpenSpec.ofChange rankTreesSpec)) rankTreesCard

/-- THE TIED CARD OF 'gerundlaw23.RankRanks'. -/
def rankRanksCard : Claim7 := { stood := { row := rankRanksRow, standIns := [], harness := (true, "a50ca63dc755594d79942d33e10d444e556f4fad411beb4260c5dda64cf68470"), looks := false }, kinds := [], alts := [], laidByText := true, laidKinds := [.data], laidTests := true, laidLooks := .later }
def RankRanksCardSaid : Prop := Claim7.holds Tryz.pinned (.plain (OpenSpec.ofChange rankRanksSpec)) rankRanksCard

/-- THE TIED CARD OF 'gerundlaw23.RankBack'. -/
def rankBackCard : Claim7 := { stood := { row := rankBackRow, standIns := [], harness := (true, "a50ca63dc755594d79942d33e10d444e556f4fad411beb4260c5dda64cf68470"), looks := false }, kinds := [], alts := [], laidByText := true, laidKinds := [.data], laidTests := true, laidLooks := .later }
def RankBackCardSaid : Prop := Claim7.holds Tryz.pinned (.plain (OpenSpec.ofChange rankBackSpec)) rankBackCard

/-- THE SECOND FORM's CARD OF 'gerundlaw22.CountOf'. -/
def countOfUptoCard : Claim7 := { stood := { row := countOfUptoRow, standIns := [], harness := (true, "a50ca63dc755594d79942d33e10d444e556f4fad411beb4260c5dda64cf68470"), looks := false }, kinds := [], alts := [], laidByText := true, laidKinds := [.data], laidTests := true, laidLooks := .later }
def CountOfUptoCardSaid : Prop := Claim7.holds Tryz.pinned (.plain (OpenSpec.upto countOfSpec)) countOfUptoCard

/-- THE SECOND FORM's CARD OF 'gerundlaw22.CountTrees'. -/
def countTreesUptoCard : Claim7 := { stood := { row := countTreesUptoRow, standIns := [], harness := (true, "a50ca63dc755594d79942d33e10d444e556f4fad411beb4260c5dda64cf68470"), looks := false }, kinds := [], alts := [], laidByText := true, laidKinds := [.data], laidTests := true, laidLooks := .later }
def CountTreesUptoCardSaid : Prop := Claim7.holds Tryz.pinned (.plain (OpenSpec.upto countTreesSpec)) countTreesUptoCard

/-- THE SECOND FORM's CARD OF 'gerundlaw22.CountSplits'. -/
def countSplitsUptoCard : Claim7 := { stood := { row := countSplitsUptoRow, standIns := [], harness := (true, "a50ca63dc755594d79942d33e10d444e556f4fad411beb4260c5dda64cf68470"), looks := false }, kinds := [], alts := [], laidByText := true, laidKinds := [.data], laidTests := true, laidLooks := .later }
def CountSplitsUptoCardSaid : Prop := Claim7.holds Tryz.pinned (.plain (OpenSpec.upto countSplitsSpec)) countSplitsUptoCard

/-- THE SECOND FORM's CARD OF 'gerundlaw22.CountRules'. -/
def countRulesUptoCard : Claim7 := { stood := { row := countRulesUptoRow, standIns := [], harness := (true, "a50ca63dc755594d79942d33e10d444e556f4fad411beb4260c5dda64cf68470"), looks := false }, kinds := [], alts := [], laidByText := true, laidKinds := [.data], laidTests := true, laidLooks := .later }
def CountRulesUptoCardSaid : Prop := Claim7.holds Tryz.pinned (.plain (OpenSpec.upto countRulesSpec)) countRulesUptoCard

/-- THE SECOND FORM's CARD OF 'gerundlaw22.CountSentences'. -/
def countSentencesUptoCard : Claim7 := { stood := { row := countSentencesUptoRow, standIns := [], harness := (true, "a50ca63dc755594d79942d33e10d444e556f4fad411beb4260c5dda64cf68470"), looks := false }, kinds := [], alts := [], laidByText := true, laidKinds := [.data], laidTests := true, laidLooks := .later }
def CountSentencesUptoCardSaid : Prop := Claim7.holds Tryz.pinned (.plain (OpenSpec.upto countSentencesSpec)) countSentencesUptoCard

/-- THE SECOND FORM's CARD OF 'gerundlaw23.RankThere'. -/
def rankThereUptoCard : Claim7 := { stood := { row := rankThereUptoRow, standIns := [], harness := (true, "a50ca63dc755594d79942d33e10d444e556f4fad411beb4260c5dda64cf68470"), looks := false }, kinds := [], alts := [], laidByText := true, laidKinds := [.data], laidTests := true, laidLooks := .later }
def RankThereUptoCardSaid : Prop := Claim7.holds Tryz.pinned (.plain (OpenSpec.upto rankThereSpec)) rankThereUptoCard

/-- THE SECOND FORM's CARD OF 'gerundlaw23.RankOrder'. -/
def rankOrderUptoCard : Claim7 := { stood := { row := rankOrderUptoRow, standIns := [], harness := (true, "a50ca63dc755594d79942d33e10d444e556f4fad411beb4260c5dda64cf68470"), looks := false }, kinds := [], alts := [], laidByText := true, laidKinds := [.data], laidTests := true, laidLooks := .later }
def RankOrderUptoCardSaid : Prop := Claim7.holds Tryz.pinned (.plain (OpenSpec.upto rankOrderSpec)) rankOrderUptoCard

/-- THE SECOND FORM's CARD OF 'gerundlaw23.RankTrees'. -/
def rankTreesUptoCard : Claim7 := { stood := { row := rankTreesUptoRow, standIns := [], harness := (true, "a50ca63dc755594d79942d33e10d444e556f4fad411beb4260c5dda64cf68470"), looks := false }, kinds := [], alts := [], laidByText := true, laidKinds := [.data], laidTests := true, laidLooks := .later }
def RankTreesUptoCardSaid : Prop := Claim7.holds Tryz.pinned (.plain (OpenSpec.upto rankTreesSpec)) rankTreesUptoCard

/-- THE SECOND FORM's CARD OF 'gerundlaw23.RankRanks'. -/
def rankRanksUptoCard : Claim7 := { stood := { row := rankRanksUptoRow, standIns := [], harness := (true, "a50ca63dc755594d79942d33e10d444e556f4fad411beb4260c5dda64cf68470"), looks := false }, kinds := [], alts := [], laidByText := true, laidKinds := [.data], laidTests := true, laidLooks := .later }
def RankRanksUptoCardSaid : Prop := Claim7.holds Tryz.pinned (.plain (OpenSpec.upto rankRanksSpec)) rankRanksUptoCard

/-- THE SECOND FORM's CARD OF 'gerundlaw23.RankBack'. -/
def rankBackUptoCard : Claim7 := { stood := { row := rankBackUptoRow, standIns := [], harness := (true, "a50ca63dc755594d79942d33e10d444e556f4fad411beb4260c5dda64cf68470"), looks := false }, kinds := [], alts := [], laidByText := true, laidKinds := [.data], laidTests := true, laidLooks := .later }
def RankBackUptoCardSaid : Prop := Claim7.holds Tryz.pinned (.plain (OpenSpec.upto rankBackSpec)) rankBackUptoCard
end Rows
end Go.Proofs.YtggbjdmpjidhgaaGreatDoor
