/- ranks: the fixed fact, plainly: the trees of the ranks of one grammar. -/
import Derived.Test.YtggbjdmpjidhgaaGreatDoorY14
set_option linter.all false
set_option maxHeartbeats 1500000
set_option maxRecDepth 100000
namespace Go.Proofs.YtggbjdmpjidhgaaGreatDoor
open Go.RowKit Go.Proofs.Tryz
variable{a:Option Addr}
section
open Go.Shelf
open Go.ChangeShapes Go.WideShapes Go.ChangeAt Go.RowKit
open Go.ChangeShapes Go.WideShapes Go.ChangeAt Go.RowKit
open Go.ChangeShapes Go.WideShapes Go.ChangeAt Go.RowKit Go.Lib Go.Deep
open Go.ChangeShapes Go.WideShapes Go.ChangeAt Go.RowKit Go.Lib Go.Deep
theorem Nj.limbs{w:World}{len cap:Nat}{f:List Int}(h:Nj .u32 w a len cap f):∃xs:List Nat,Zq .u32 w a len cap xs/\Lim xs:=by
 obtain⟨xs,h1,c⟩:=h.ints;have e:nums .u32 (xs.map Int.toNat)=Go.Proofs.YtggbjdmpjidhgaaGreatDoor.ints .u32 xs:=by
  unfold nums Go.Proofs.YtggbjdmpjidhgaaGreatDoor.ints;rw[List.map_map];refine List.map_congr_left λx b=>?_;have:=(bounds_u32 (c x b)).1;show Value.int .u32 ((x.toNat:Nat):Int)=_;rw[Int.toNat_of_nonneg this]
 refine⟨xs.map Int.toNat,?_,λy d=>?_⟩
 ·show Sl w a len cap (nums .u32 (xs.map Int.toNat));rw[e];exact h1
 obtain⟨x,b,rfl⟩:=CV.1 d;have:=bounds_u32 (c x b);omega
end
