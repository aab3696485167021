/- words that the packed base lacks. -/
import Derived.Test.YtaagompdgiobeaaGreatDoorV11
set_option linter.all false
set_option maxHeartbeats 1500000
set_option maxRecDepth 100000
namespace Go.Proofs.YtaagompdgiobeaaGreatDoor
open Go.RowKit Go.Proofs.Tryz
section
open Ieee
variable {P:Program} {w:World}
theorem Zqw(base:Nat)(t ty e:TypeId)(z:Value)(bytes:Nat)(v:P.underlying t=some (.slice e))(hi:(P.info? e).map (λi=>(i.zero,i.size,i.bytes))=some (some z,1,bytes))(O:z.cells.size=1)(A:Option Addr)(n c:Nat)(xs:List Value)(p:w.ownsRow base e 1 (.slice A n c) n xs)(o:Option Addr)(m c2:Nat)(a:List Value)(l:Sl w o m c2 a)(h1:∀u∈a,u.oneCell'=true)(B:n+m<=9223372036854775807)(E:(n+m)*bytes<=140737488355328)(C:base<=w.heap.size):
 ∃f g w',(Builtin.append_ #[t,t] ty #[.slice A n c,.slice o m c2]).run P w = .ok (.slice f (n+m) g) w'/\w'.ownsRow base e 1 (.slice f (n+m) g) (n+m) (xs++a)/\w.grownBy w' (Value.slice A n c).ownBlock /\
  (∀b,(Value.slice f (n+m) g).ownBlock=some b->b<w.heap.size->(Value.slice A n c).ownBlock=some b):=by
 obtain⟨i,s,N,M,D⟩:=info_parts hi;rcases o with _ | q
 ·have I:m=0:=by
   rcases BY m with h0 | h0
   ·exact h0
   obtain⟨b,R,k,_⟩:=l.2.2.2 (by rw[l.1];exact h0);cases k
  subst I;have J:a=[]:=BJ l.1;subst J;exact⟨A,c,w,Gz base t ty e i v s A n c xs p c2,by simpa using p,⟨rfl,rfl,rfl,AJ _,λ_ _ _=>rfl⟩,λb d _=>d⟩
 have G:∀j u,a[j]? = some u->w.cell? (q.add j)=some u:=by
  intro j u x;have H:j<a.length:=(AO.1 x).1;obtain⟨b,R,k,_,F⟩:=l.2.2.2 AA;injection k with k;subst k;have:=F j H;rw[x] at this;unfold Addr.add;split
  ·rename_i h0;subst h0;simpa using this
  exact this
 obtain⟨T,w',L,r,y,_,h⟩:=run_append_own_at (P:=P) w base t ty e i z 1 bytes v s N M D O AC _ n xs p q m c2 a (by rw[l.1,Ej]) G h1 (by simpa [maxLen] using B) E C;obtain⟨f,g,rfl⟩:=M3 r;refine⟨f,g,w',L,r,y,λb d S=>?_⟩;rcases h with h | h
 ·rw[<-h];exact d
 rw[h] at d;injection d with d;omega
end
