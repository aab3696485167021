/- counts: the laws' fixed fact, walked (printed by gen/cta.py). -/
import Derived.Test.YtggbjdmpjidhgaaGreatDoorVQCtW11
set_option linter.unusedVariables false
set_option linter.unusedSimpArgs false
set_option maxHeartbeats 8000000
set_option maxRecDepth 100000
namespace Go.Proofs.YtggbjdmpjidhgaaGreatDoor
open Go.RowKit
def Al (W:World) (g:Nat) (h:GH) (G:Gr):Prop:=GBox W g h 0∧GrAt W h G
theorem Al.below {W V:World} {g:Nat} {h:GH} {G:Gr} (a:Al W g h G) (b:Below W.heap.size W V):Al V g h G:=⟨a.1.below b,a.2.below b⟩
structure A22 (w W:World) (gA gB gC gD:Nat) (hA hB hC hD:GH):Prop where
 below:Below w.heap.size w W
 tab:TabAt W
 a:Al W gA hA g22A
 b:Al W gB hB g22B
 c:Al W gC hC g22C
 d:Al W gD hD g22D
end Go.Proofs.YtggbjdmpjidhgaaGreatDoor
