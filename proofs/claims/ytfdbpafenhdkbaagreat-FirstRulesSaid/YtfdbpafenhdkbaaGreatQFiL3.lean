/- first: the law of FirstRules, walked. -/
import Derived.Test.YtfdbpafenhdkbaaGreatQPs15
import Derived.Test.YtfdbpafenhdkbaaGreatQGrL4
namespace Go.Proofs.YtfdbpafenhdkbaaGreat
open Go.RowKit
theorem firstRules_walk (h : GH) (G : Gr) (w : World) (hgi : GrIn w h G) :
    Calls Tryz.prog 6 #[GV h G.start] w fun e w' => e = .returned (.bool true) ∧ Below w.heap.size w w' := firstRules_walk' alive12 h G w hgi
end Go.Proofs.YtfdbpafenhdkbaaGreat
