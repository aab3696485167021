/-
  DERIVED. GIVEN WITH THE SEED: THE CARDS: each row of YtaagompdgiobeaaGreatDoorRows.lean that lists a variable, with what it lists TIED to the program's text (the seventh form; the later family's looks); each row that meets fmt, with fmt's text TOLD by the authors' own Lean function (tested against real Go, not proved from fmt's source: count such statements apart). THE CARD IS WHAT COUNTS. Prove the row's statement (the work); the ties are given (YtaagompdgiobeaaGreatDoorTie.lean); close each card by the builder's one call (the guide's Derived/Test/ToyasCard.lean, 'card_holds'). Laid BY PROGRAM, IN A SANDBOX (cutbox-door.mjs). By AI agents, Wed Nov 11 2026. No macro, syntax, notation, axiom, sorry.
-/
import Derived.Test.YtaagompdgiobeaaGreatDoorRows
import GoSem.ClaimSeven
namespace Go.Proofs.YtaagompdgiobeaaGreatDoor
namespace Rows

/-- THE TIED CARD OF 'gerundlaw24.SampleDraws'. -/
def sampleDrawsCard : Claim7 := { stood := { row := sampleDrawsRow, standIns := [], harness := (true, "9fb0933f17238acb899889457621e8f01cac0678532a36bdeb8bf5b451f29581"), looks := false }, kinds := [], alts := [], laidByText := true, laidKinds := [.data], laidTests := true, laidLooks := .later }
def SampleDrawsCardSaid : Prop := Claim7.holds Tryz.pinned (.plain (OpenSpec.ofChange sampleDrawsSpec)) sampleDrawsCard

/-- THE TIED CARD OF 'gerundlaw24.SampleSome'. -/
def sampleSomeCard : Claim7 := { stood := { row := sampleSomeRow, standIns := [], harness := (true, "9fb0933f17238acb899889457621e8f01cac0678532a36bdeb8bf5b451f29581"), looks := false }, kinds := [], alts := [], laidByText := true, laidKinds := [.data], laidTests := true, laidLooks := .later }
def SampleSomeCardSaid : Prop := Claim7.holds Tryz.pinned (.plain (OpenSpec.ofChange sampleSomeSpec)) sampleSomeCard

/-- THE TIED CARD OF 'gerundlaw24.SampleEven'. -/
def sampleEvenCard : Claim7 := { stood := { row := sampleEvenRow, standIns := [], harness := (true, "9fb0933f17238acb899889457621e8f01cac0678532a36bdeb8bf5b451f29581"), looks := false }, kinds := [], alts := [], laidByText := true, laidKinds := [.data], laidTests := true, laidLooks := .later }
def SampleEvenCardSaid : Prop := Claim7.holds Tryz.pinned (.plain (OpenSpec.ofChange sampleEvenSpec)) sampleEvenCard

/-- THE TIED CARD OF 'gerundlaw24.SampleOn'. -/
def sampleOnCard : Claim7 := { stood := { row := sampleOnRow, standIns := [], harness := (true, "9fb0933f17238acb899889457621e8f01cac0678532a36bdeb8bf5b451f29581"), looks := false }, kinds := [], alts := [], laidByText := true, laidKinds := [.data], laidTests := true, laidLooks := .later }
def SampleOnCardSaid : Prop := Claim7.holds Tryz.pinned (.plain (OpenSpec.ofChange sampleOnSpec)) sampleOnCard

/-- THE SECOND FORM's CARD OF 'gerundlaw24.SampleDraws'. -/
def sampleDrawsUptoCard : Claim7 := { stood := { row := sampleDrawsUptoRow, standIns := [], harness := (true, "9fb0933f17238acb899889457621e8f01cac0678532a36bdeb8bf5b451f29581"), looks := false }, kinds := [], alts := [], laidByText := true, laidKinds := [.data], laidTests := true, laidLooks := .later }
def SampleDrawsUptoCardSaid : Prop := Claim7.holds Tryz.pinned (.plain (OpenSpec.upto sampleDrawsSpec)) sampleDrawsUptoCard

/-- THE SECOND FORM's CARD OF 'gerundlaw24.SampleSome'. -/
def sampleSomeUptoCard : Claim7 := { stood := { row := sampleSomeUptoRow, standIns := [], harness := (true, "9fb0933f17238acb899889457621e8f01cac0678532a36bdeb8bf5b451f29581"), looks := false }, kinds := [], alts := [], laidByText := true, laidKinds := [.data], laidTests := true, laidLooks := .later }
def SampleSomeUptoCardSaid : Prop := Claim7.holds Tryz.pinned (.plain (OpenSpec.upto sampleSomeSpec)) sampleSomeUptoCard

/-- THE SECOND FORM's CARD OF 'gerundlaw24.SampleEven'. -/
def sampleEvenUptoCard : Claim7 := { stood := { row := sampleEvenUptoRow, standIns := [], harness := (true, "9fb0933f17238acb899889457621e8f01cac0678532a36bdeb8bf5b451f29581"), looks := false }, kinds := [], alts := [], laidByText := true, laidKinds := [.data], laidTests := true, laidLooks := .later }
def SampleEvenUptoCardSaid : Prop := Claim7.holds Tryz.pinned (.plain (OpenSpec.upto sampleEvenSpec)) sampleEvenUptoCard

/-- THE SECOND FORM's CARD OF 'gerundlaw24.SampleOn'. -/
def sampleOnUptoCard : Claim7 := { stood := { row := sampleOnUptoRow, standIns := [], harness := (true, "9fb0933f17238acb899889457621e8f01cac0678532a36bdeb8bf5b451f29581"), looks := false }, kinds := [], alts := [], laidByText := true, laidKinds := [.data], laidTests := true, laidLooks := .later }
def SampleOnUptoCardSaid : Prop := Claim7.holds Tryz.pinned (.plain (OpenSpec.upto sampleOnSpec)) sampleOnUptoCard
end Rows
end Go.Proofs.YtaagompdgiobeaaGreatDoor
