/- what is of use of a grammar: the reference's Reduce, walked. -/
import Derived.Test.YtggbjdmpjidhgaaGreatDoorVQCtP4
import Derived.Test.YtggbjdmpjidhgaaGreatDoorVQPs15
import Derived.Test.YtggbjdmpjidhgaaGreatDoorVQPs8
set_option linter.unusedVariables false
set_option linter.unusedSimpArgs false
set_option maxHeartbeats 8000000
set_option maxRecDepth 100000
namespace Go.Proofs.YtggbjdmpjidhgaaGreatDoor
open Go.RowKit
def redOK (G:Gr):Bool:=G.right && (prodN G).getD G.start.toNat false
def RetRed (G:Gr) (w:World) (e:Ending) (w':World):Prop:=Below w.heap.size w w' ∧
 ((redOK G=false∧∃ b:Int,b ≠ 0∧e = .returned (.tuple #[GV noH 0, .slice none 0 0, .int .i64 b])) ∨
  (redOK G=true∧∃ a c f d,e = .returned (.tuple #[GV a (redG G).start, .slice c f d, .int .i64 0])∧GrAt w' a (redG G)∧a.n1≤24∧a.n2≤16∧a.n3≤40))
def RetRedK (G:Gr) (w:World) (e:Ending) (w':World):Prop:=Below w.heap.size w w' ∧
 ((redOK G=false∧∃ d:Int,d ≠ 0∧e = .returned (.tuple #[GV noH 0, .slice none 0 0, .int .i64 d])) ∨
  (redOK G=true∧∃ a b f c,e = .returned (.tuple #[GV a (redG G).start, .slice b f c, .int .i64 0])∧GrAt w' a (redG G)∧a.n1≤24∧a.n2≤16∧a.n3≤40∧Ints .i64 w' b f c (intsOf (ksN G G.rules.length))))
theorem RetRedK.plain {G:Gr} {w:World} {e:Ending} {w':World} (h:RetRedK G w e w'):RetRed G w e w':=by
 obtain ⟨h1,a|⟨a,d,b,m,c,f,g,j,k,l,_⟩⟩:=h
 · exact ⟨h1,.inl a⟩
 · exact ⟨h1,.inr ⟨a,d,b,m,c,f,g,j,k,l⟩⟩
end Go.Proofs.YtggbjdmpjidhgaaGreatDoor
