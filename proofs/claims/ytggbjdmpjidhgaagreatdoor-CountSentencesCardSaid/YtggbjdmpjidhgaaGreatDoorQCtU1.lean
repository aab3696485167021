/- trees by their ranks, plainly: a forest of symbols as its rules, with how many terminals it has and its rank: just one of each (no program in sight). -/
import Derived.Test.YtggbjdmpjidhgaaGreatDoorQCtP4
set_option linter.unusedVariables false
set_option linter.unusedSimpArgs false
set_option maxHeartbeats 8000000
set_option maxRecDepth 100000
namespace Go.Proofs.YtggbjdmpjidhgaaGreatDoor
open Go.RowKit
def aheadK (T:Int→Nat→Nat) (s:Int) (l:List Int) (n k:Nat):Nat:=sumL ((List.range k).map fun j=>T s j * forestT T l (n - j))
def aheadR (T:Int→Nat→Nat) (rs:List Rul) (a i n:Nat):Nat:=rulesT T (rs.take i) a n
inductive UnL (G:Gr):List Int→Nat→Nat→List Nat→Prop
 | nil:UnL G [] 0 0 []
 | term {s:Int} {l:List Int} {n r:Nat} {t:List Nat}:0≤s→UnL G l n r t→UnL G (s::l) (n+1) r t
 | non {s:Int} {l:List Int} {n k i q r:Nat} {x:Rul} {t1 t2:List Nat}:s < 0→G.rules[i]? = some x→x.left.toNat=nonI s→UnL G x.right k q t1→UnL G l n r t2 →
    UnL G (s::l) (k+n) (aheadK (treeN G) s l (k+n) k+(aheadR (treeN G) G.rules (nonI s) i k+q) * forestT (treeN G) l n+r) (i::(t1++t2))
def InG (G:Gr) (l:List Int):Prop:=∀ s ∈ l,s < 0→nonI s < G.nons.length
theorem InG.rule {G:Gr} (hG:G.Fits) {x:Rul} (hx:x ∈ G.rules):InG G x.right:=fun q hq h0=>by
 have:=hG.sym x hx q hq
 unfold nonI
 omega
end Go.Proofs.YtggbjdmpjidhgaaGreatDoor
