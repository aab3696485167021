/- ranks: a teller's forest (walked). -/
import Derived.Test.YtggbjdmpjidhgaaGreatDoorV26
import Derived.Test.YtggbjdmpjidhgaaGreatDoorV27
set_option linter.all false
set_option maxHeartbeats 1500000
set_option maxRecDepth 100000
namespace Go.Proofs.YtggbjdmpjidhgaaGreatDoor
open Go.RowKit Go.Proofs.Tryz
theorem Vj.there{G:Gr}{t:List Int}{d:List Nat}(h:Vj G t d 0):∃wd ps k,Xl G t=some (wd,ps,k)/\(Z2 G (wd.length:Int)).2=0/\Zm d=true/\val d<val (Z2 G (wd.length:Int)).1 /\
 ∀j f,V9 G (wd.length:Int) d j f->f=0/\j.map (λi:Nat=>(i:Int))=t:=by
 rcases h with ⟨_,_,e⟩ | ⟨wd,ps,k,a,⟨_,_,e⟩ | ⟨_,c,_,e⟩ | ⟨b,c,_,u,r,q,e,rfl⟩⟩
 ·cases e
 ·cases e
 ·exact absurd e.symm c
 obtain⟨o,m,_⟩:=Zxc a;have B:=Ztb a;obtain⟨_,g,y,h1,l⟩:=Zzy o b B c;obtain⟨s0,D,E⟩:=Fa g.fits;have n:r<Zv (Zi G) (-1-(Zi G).start) wd.length:=UnT.lt g s0 E (by rw[D];exact q);have p:Zm (limbs r)=true:=Ym r (Nat.lt_trans n y);refine⟨wd,ps,k,a,c,p,by rw[l,Yd];exact n,λj f A=>?_⟩;have z:¬badU G (wd.length:Int) (limbs r):=by
  rintro (h | h | h | h)
  ·rw[o] at h;cases h
  ·omega
  ·omega
  rw[p] at h;cases h
 rcases A with ⟨x,_⟩ | ⟨_,x,_⟩ | ⟨_,_,x,_⟩ | ⟨_,_,_,v,s,C⟩
 ·exact absurd x z
 ·exact absurd c x
 ·rw[l,Yd] at x;omega
 rw[Yd,DF] at s;obtain rfl:=q.one g s;have F:u.length<=300:=by rw[e] at m;simpa using m
 rcases C with ⟨x,_⟩ | ⟨_,rfl,rfl⟩
 ·omega
 exact⟨rfl,e.symm⟩
end Go.Proofs.YtggbjdmpjidhgaaGreatDoor
