/- ranks: a teller's forest (walked). -/
import Derived.Test.YtggbjdmpjidhgaaGreatDoorY22
set_option linter.all false
set_option maxHeartbeats 1500000
set_option maxRecDepth 100000
namespace Go.Proofs.YtggbjdmpjidhgaaGreatDoor
open Go.RowKit Go.Proofs.Tryz
theorem V9.one{G:Gr}{n:Int}{o l m:List Nat}{k er':Nat}(h:V9 G n o l k)(g:V9 G n o m er'):l=m/\k=er':=by
 rcases h with ⟨a,rfl,rfl⟩ | ⟨a,b,rfl,rfl⟩ | ⟨a,b,c,rfl,rfl⟩ | ⟨a,b,c,t,u,h⟩ <;> rcases g with ⟨d,rfl,rfl⟩ | ⟨d,f,rfl,rfl⟩ | ⟨d,f,p,rfl,rfl⟩ | ⟨d,f,p,x,v,g⟩;all_goals first
  | exact⟨rfl,rfl⟩
  | exact absurd a d
  | exact absurd d a
  | exact absurd b f
  | exact absurd f b
  | (exfalso;omega)
  | skip
 have j:G.right=true:=by
  cases j:G.right
  ·exact absurd (.inl j) a
  rfl
 have s:0<=n/\n<=10:=by
  constructor
  ·exact Int.not_lt.1 λh=>a (.inr (.inl h))
  exact Int.not_lt.1 λh=>a (.inr (.inr (.inl h)))
 have r:=(Bb j s b AA).2.2.1;obtain rfl:=u.one r v;rcases h with ⟨h1,rfl,rfl⟩ | ⟨h1,rfl,rfl⟩ <;> rcases g with ⟨q,rfl,rfl⟩ | ⟨q,rfl,rfl⟩;all_goals first
  | exact⟨rfl,rfl⟩
  | omega
