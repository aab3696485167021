/- first: the law of FirstParts, walked. -/
import Derived.Test.YtfdbpafenhdkbaaGreatQPs15
import Derived.Test.YtfdbpafenhdkbaaGreatQGrL3
namespace Go.Proofs.YtfdbpafenhdkbaaGreat
open Go.RowKit
theorem firstParts_walk (h : GH) (G : Gr) (Ar : Option Addr) (nr cr : Nat) (zs : List Int) (x : Int) (w : World) (hgi : GrIn w h G) (hrow : IsRow .i64 w Ar nr cr zs) (hx : (Lit.int .u8 x).wf = true) :
    Calls Tryz.prog 5 #[GV h G.start, .slice Ar nr cr, .int .u8 x] w fun e w' => e = .returned (.bool true) ∧ Below w.heap.size w w' := firstParts_walk' alive12 h G Ar nr cr zs x w hgi hrow hx
end Go.Proofs.YtfdbpafenhdkbaaGreat
