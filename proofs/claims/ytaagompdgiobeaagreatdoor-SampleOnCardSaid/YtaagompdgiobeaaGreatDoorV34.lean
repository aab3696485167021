/- sample, plainly: what words draw of a grammar's trees. -/
import Derived.Test.YtaagompdgiobeaaGreatDoorV23
import Derived.Test.YtaagompdgiobeaaGreatDoorV28
set_option linter.all false
set_option maxHeartbeats 1500000
set_option maxRecDepth 100000
namespace Go.Proofs.YtaagompdgiobeaaGreatDoor
open Go.RowKit Go.Proofs.Tryz
variable{l g:List (List Nat)}{A:Option Addr}{p:List MemPlace}
theorem SomGo.one{G:Gr}{n:Int}{f:List Nat}{i:Nat}{a:Nat}(h:SomGo G n f i l a):∀{c:List (List Nat)} {b:Nat},SomGo G n f i c b->l=c/\a=b:=by
 induction h with
 | nil=>intro c b d;cases d;exact⟨rfl,rfl⟩
 | step h1 k m =>
   intro c b d;cases d with
   | step g j =>
     obtain⟨rfl,rfl⟩:=m g;obtain⟨rfl,rfl,_⟩:=k.one j;exact⟨rfl,rfl⟩
theorem Zrn.below{w w':World}{n c:Nat}(h:Zrn w A n c g)(a:Below w w w'):Zrn w' A n c g:=by
 refine⟨h.1,h.2.1,h.2.2.1,λq=>?_⟩;obtain⟨b,f,e,d,r⟩:=h.2.2.2 q;refine⟨b,f,e,AK d a.size,λj xs o=>?_⟩;obtain⟨k,l,h1,m⟩:=r j xs o;exact⟨k,l,(a.cell (p:=⟨b,f+j,none⟩) d).trans h1,m.below a⟩
section
variable {H:Type} {enc:TypeId × Value->H} {w:World} {base:Nat} {held:Bool}
theorem Zqd{r:Reach}{b0:Nat}{v:Value}{d:DataW H}(j:Value.okWide prog w r b0 37 v)(h:DataW.Trod enc prog w base (λ_=>true) held 37 v d p):
 ∃a b:Int,v = .agg #[.int .i64 a,.int .i64 b]/\(Lit.int .i64 a).wf=true/\(Lit.int .i64 b).wf=true:=by
 obtain⟨m,o,q,s,n,rfl,_,_,g0,g⟩:=Go.Joins.open_agg2 underlying37 AB AB j h;obtain⟨a,c,_,k⟩:=DataW.trod_int underlying3 g0;obtain⟨b,f,_,l⟩:=DataW.trod_int underlying3 g;simp at c f;subst c f;exact⟨a,b,rfl,k,l⟩
end
