/- words that the packed base lacks. -/
import Derived.Test.YtggbjdmpjidhgaaGreatDoorY08
set_option linter.all false
set_option maxHeartbeats 1500000
set_option maxRecDepth 100000
namespace Go.Proofs.YtggbjdmpjidhgaaGreatDoor
open Go.RowKit Go.Proofs.Tryz
theorem Le(s:Option Addr)(n c1:Nat)(xs:List Nat)(t:Option Addr)(m c2:Nat)(M:List Nat)(w:World)(h1:Zq .u32 w s n c1 xs)(b:Zq .u32 w t m c2 M)(g:Lim xs)(h:Lim M):
 Calls prog 36 #[.slice s n c1,.slice t m c2] w (Quiet w (.int .i64 (Vq xs M))):=by
 by_cases l:Zm xs=true
 case neg =>
  have G:Zm xs=false:=by simpa using l
  have a:Vq xs M=0:=by simp[Vq,G]
  rw[a];clear a l;go_enter func36,ntmps36;go_wp2_with (first
   | (go_at_call 78;(with_reducible refine (Z4 _ _ _ _ _ h1).mono ?_);rintro e w'⟨rfl,rfl⟩)
   | (go_at_call 78;(with_reducible refine (Z4 _ _ _ _ _ b).mono ?_);rintro e w'⟨rfl,rfl⟩))
  go_ret;exact⟨rfl,Uz.refl _⟩
 by_cases o:Zm M=true
 case neg =>
  have H:Zm M=false:=by simpa using o
  have a:Vq xs M=0:=by simp[Vq,H]
  rw[a];clear a o;go_enter func36,ntmps36;go_wp2_with (first
   | (go_at_call 78;(with_reducible refine (Z4 _ _ _ _ _ h1).mono ?_);rintro e w'⟨rfl,rfl⟩)
   | (go_at_call 78;(with_reducible refine (Z4 _ _ _ _ _ b).mono ?_);rintro e w'⟨rfl,rfl⟩))
  go_ret;exact⟨rfl,Uz.refl _⟩
 have D:=Ut xs l;have C:=Ut M o;have x:Vq xs M=Vm (val xs) (val M):=by simp[Vq,l,o]
 have z:=LH x;clear x;go_enter func36,ntmps36;go_wp2_with (first
  | (go_at_call 78;(with_reducible refine (Z4 _ _ _ _ _ h1).mono ?_);rintro e w'⟨rfl,rfl⟩)
  | (go_at_call 78;(with_reducible refine (Z4 _ _ _ _ _ b).mono ?_);rintro e w'⟨rfl,rfl⟩))
 go_loop [5] (λi=>∃k:Nat,k<=32/\i = .int .i64 ((k:Int)-1)/\Vq xs M=Vm (val (xs.take k)) (val (M.take k))) (λi=>(intOf i+1).toNat)
 case atStart=>exact⟨32,AJ _,rfl,by rw[z.out,AR D,AR C]⟩
 obtain⟨k,J,rfl,hrel⟩:=hrel;have u:=LH hrel;clear hrel;by_cases L:0<k
 ·have r:=Zzx xs M g h (k-1);rw[show k-1+1=k from by omega,<-u.out] at r;have p:=LH r;clear r;have v:((k:Int)-1)=((k-1:Nat):Int):=AA
  rw[v];generalize y:k-1=j at *;have B:=LH y;have I:j<32:=AA
  clear y v;by_cases d:xs.getD j 0<M.getD j 0
  ·have E:((xs.getD j 0:Nat):Int)<((M.getD j 0:Nat):Int):=AA
   have c:=LH d;clear d;go_wp2_with (first
    | (go_at_call 79;(with_reducible refine (Ww _ _ _ _ _ _ h1 g).mono ?_);rintro e w'⟨rfl,rfl⟩)
    | (go_at_call 79;(with_reducible refine (Ww _ _ _ _ _ _ b h).mono ?_);rintro e w'⟨rfl,rfl⟩))
   go_ret;rw[p.out,if_pos c.out];exact⟨rfl,Uz.refl _⟩
  have E:¬((xs.getD j 0:Nat):Int)<((M.getD j 0:Nat):Int):=AA
  have c:=LH d;clear d;by_cases f:M.getD j 0<xs.getD j 0
  ·have F:((M.getD j 0:Nat):Int)<((xs.getD j 0:Nat):Int):=AA
   have q:=LH f;clear f;go_wp2_with (first
    | (go_at_call 79;(with_reducible refine (Ww _ _ _ _ _ _ h1 g).mono ?_);rintro e w'⟨rfl,rfl⟩)
    | (go_at_call 79;(with_reducible refine (Ww _ _ _ _ _ _ b h).mono ?_);rintro e w'⟨rfl,rfl⟩))
   go_ret;rw[p.out,if_neg c.out,if_pos q.out];exact⟨rfl,Uz.refl _⟩
  have F:¬((M.getD j 0:Nat):Int)<((xs.getD j 0:Nat):Int):=AA
  have q:=LH f;clear f;go_wp2_with (first
   | (go_at_call 79;(with_reducible refine (Ww _ _ _ _ _ _ h1 g).mono ?_);rintro e w'⟨rfl,rfl⟩)
   | (go_at_call 79;(with_reducible refine (Ww _ _ _ _ _ _ b h).mono ?_);rintro e w'⟨rfl,rfl⟩))
  go_round
  case rel=>exact⟨j,by have:=B.out;omega,rfl,by rw[p.out,if_neg c.out,if_neg q.out]⟩
  simp[intOf] <;> omega
 obtain rfl:k=0:=AA
 have a:Vq xs M=0:=by rw[u.out];simp[Vm,val]
 have A:=LH a;clear a;go_wp2;go_ret;rw[A.out];exact⟨rfl,Uz.refl _⟩
