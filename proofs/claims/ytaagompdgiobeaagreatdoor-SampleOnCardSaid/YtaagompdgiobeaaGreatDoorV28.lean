/- ranks: what Unrank tells, plainly. -/
import Derived.Test.YtaagompdgiobeaaGreatDoorV20
set_option linter.all false
set_option maxHeartbeats 1500000
set_option maxRecDepth 100000
namespace Go.Proofs.YtaagompdgiobeaaGreatDoor
open Go.RowKit Go.Proofs.Tryz
variable{n:Int}{a:Option Addr}
theorem V9.one{G:Gr}{p m o:List Nat}{k l:Nat}(h:V9 G n p m k)(g:V9 G n p o l):m=o/\k=l:=by
 rcases h with ⟨a,rfl,rfl⟩ | ⟨a,b,rfl,rfl⟩ | ⟨a,b,c,rfl,rfl⟩ | ⟨a,b,c,t,v,h⟩ <;> rcases g with ⟨d,rfl,rfl⟩ | ⟨d,f,rfl,rfl⟩ | ⟨d,f,q,rfl,rfl⟩ | ⟨d,f,q,y,x,g⟩;all_goals first
  | exact⟨rfl,rfl⟩
  | exact absurd a d
  | exact absurd d a
  | exact absurd b f
  | exact absurd f b
  | (exfalso;omega)
  | skip
 have j:G.right=true:=by
  cases j:G.right
  ·exact absurd (.inl j) a
  rfl
 have u:0<=n/\n<=10:=by
  constructor
  ·exact Int.not_lt.1 λh=>a (.inr (.inl h))
  exact Int.not_lt.1 λh=>a (.inr (.inr (.inl h)))
 have s:=(Bb j u b AA).2.2.1;obtain rfl:=v.one s x;rcases h with ⟨h1,rfl,rfl⟩ | ⟨h1,rfl,rfl⟩ <;> rcases g with ⟨r,rfl,rfl⟩ | ⟨r,rfl,rfl⟩;all_goals first
  | exact⟨rfl,rfl⟩
  | omega
theorem L3.one{G:Gr}{y v x:List Nat}{k u s t:Nat}(h:L3 G n y v k s)(z:L3 G n y x u t):v=x/\k=u/\s=t:=by
 rcases h with ⟨a,b,c,d⟩ | ⟨a,a2,b,c,d⟩ | ⟨a,a2,a3,b,c,d⟩ | ⟨a,a2,a3,o,e,B,hd⟩ <;>
  rcases z with ⟨f,l,m,p⟩ | ⟨f,g,l,m,p⟩ | ⟨f,g,j,l,m,p⟩ | ⟨f,g,j,E,D,C,A⟩
 all_goals first
  | exact absurd f a
  | exact absurd a f
  | exact absurd g a2
  | exact absurd a2 g
  | exact absurd j a3
  | exact absurd a3 j
  | exact⟨b.trans l.symm,c.trans m.symm,d.trans p.symm⟩
  | skip
 obtain⟨rfl,rfl⟩:=B.one C;rcases hd with ⟨q,rfl,rfl,rfl⟩ | ⟨q,rfl,rfl,rfl⟩ <;> rcases A with ⟨r,rfl,rfl,rfl⟩ | ⟨r,rfl,rfl,rfl⟩
 ·exact⟨rfl,rfl,rfl⟩
 ·exact absurd r q
 ·exact absurd q r
 exact⟨rfl,rfl,rfl⟩
theorem Nj.limbs{w:World}{len cap:Nat}{f:List Int}(h:Nj .u32 w a len cap f):∃xs:List Nat,Zq .u32 w a len cap xs/\Lim xs:=by
 obtain⟨xs,h1,c⟩:=h.ints;have e:nums .u32 (xs.map Int.toNat)=Go.Proofs.YtaagompdgiobeaaGreatDoor.ints .u32 xs:=by
  unfold nums Go.Proofs.YtaagompdgiobeaaGreatDoor.ints;rw[List.map_map];refine List.map_congr_left λx b=>?_;have:=(bounds_u32 (c x b)).1;show Value.int .u32 ((x.toNat:Nat):Int)=_;rw[Int.toNat_of_nonneg this]
 refine⟨xs.map Int.toNat,?_,λy d=>?_⟩
 ·show Sl w a len cap (nums .u32 (xs.map Int.toNat));rw[e];exact h1
 obtain⟨x,b,rfl⟩:=CW.1 d;have:=bounds_u32 (c x b);omega
