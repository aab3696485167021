/- trees, plainly: who goes through rules, and what is left. -/
import Derived.Test.YtaagompdgiobeaaGreatDoorV20
set_option linter.all false
set_option maxHeartbeats 1500000
set_option maxRecDepth 100000
namespace Go.Proofs.YtaagompdgiobeaaGreatDoor
open Go.RowKit Go.Proofs.Tryz
variable{n r j:Nat}{t u:List Nat}
theorem UnL.parse{G:Gr}{l:List Int}(h:UnL G l n r t):∀{b c:Nat} {d z z':List Nat},UnL G l b c d->t++z=d++z'->n=b/\r=c/\t=d/\z=z':=by
 induction h with
 | nil=>intro b c d z z' f a;cases f;exact⟨rfl,rfl,rfl,a⟩
 | @term s l n r t h0 _ p =>
   intro b c d z z' f a;cases f with
   | term _ m =>
     obtain⟨rfl,rfl,rfl,rfl⟩:=p m a;exact⟨rfl,rfl,rfl,rfl⟩
   | non h1=>exact absurd h1 AA
 | @non s l n k i q r x H J h0 o B u1 u2 u v =>
   intro b c d z z' f a;cases f with
   | term h1=>exact absurd h1 AA
   | @non _ _ b E D F c M I L _ g C y A =>
     rw[DM,DM] at a;injection a with e1 e2;subst e1;rw[o] at g;obtain rfl:=BH g;rw[DX,DX] at e2;obtain⟨rfl,rfl,rfl,j⟩:=u y e2;obtain⟨rfl,rfl,rfl,rfl⟩:=v A j;exact⟨rfl,rfl,rfl,rfl⟩
theorem UnT.parse{G:Gr}{a f g:Nat}{b z z':List Nat}(h:UnT G a n r t)(j:UnT G a f g b)(c:t++z=b++z'):n=f/\r=g/\t=b/\z=z':=by
 obtain⟨i,x,q,v,m,o,k,rfl,rfl⟩:=h;obtain⟨s,A,u,y,d,p,l,rfl,rfl⟩:=j;rw[DM,DM] at c;injection c with e1 e2;subst e1;rw[m] at d;obtain rfl:=BH d;obtain⟨rfl,rfl,rfl,rfl⟩:=k.parse l e2;exact⟨rfl,rfl,rfl,rfl⟩
theorem ks_pair(G:Gr)(j:Nat):(ksN G j).Pairwise (·<·):=by
 unfold ksN;exact List.Pairwise.filter _ List.pairwise_lt_range
theorem Zzr{G:Gr}{i:Nat}(hi:i<(ksN G G.rules.length).length)(a:j<(ksN G G.rules.length).length)(h:Yr G i=Yr G j):i=j:=by
 unfold Yr at h;rw[AP,AP,AM hi,AM a] at h;have h:(ksN G G.rules.length)[i]=(ksN G G.rules.length)[j]:=h;rcases Nat.lt_trichotomy i j with b | rfl | b
 ·have h1:=List.pairwise_iff_getElem.1 (ks_pair G G.rules.length) i j hi a b;omega
 ·rfl
 have h1:=List.pairwise_iff_getElem.1 (ks_pair G G.rules.length) j i a hi b;omega
theorem Zv9{G:Gr}:∀{t u:List Nat},(∀i∈t,i<(ksN G G.rules.length).length)->(∀i∈u,i<(ksN G G.rules.length).length)->t.map (Yr G)=u.map (Yr G)->t=u
 | [],[],_,_,_=>rfl
 | [],_::_,_,_,h=>by cases h
 | _::_,[],_,_,h=>by cases h
 | i::t,j::u,ht,hu,h=>by
   rw[CU,CU] at h;injection h with h1 h2;rw[Zzr (ht i (By ..)) (hu j (By ..)) h1,Zv9 (λi hi=>ht i (.tail _ hi)) (λi hi=>hu i (.tail _ hi)) h2]
theorem Ba:∀{a b:List Nat},a.map (λi:Nat=>(i:Int))=b.map (λi:Nat=>(i:Int))->a=b
 | [],[],_=>rfl
 | [],_::_,h=>by cases h
 | _::_,[],h=>by cases h
 | x::a,y::b,h=>by
   rw[CU,CU] at h;injection h with h1 h2;have c:x=y:=AA
   rw[c,Ba h2]
theorem UnT.kept{G:Gr}{a d g:Nat}{v:List Nat}(h:UnT (Zi G) a n r u)(f:UnT (Zi G) d g j v)(e:u.map (Yr G)=v.map (Yr G)):u=v:=by
 have b:=h.inside.2;have c:=f.inside.2;rw[Fu] at b c;exact Zv9 b c e
section
variable {G:Gr}
theorem sig_inj{i:Nat}(hi:i∈Ze G)(b:j∈Ze G)(h:sig G i=sig G j):i=j:=by
 have h1:=(C8 hi).2.2;have a:=(C8 b).2.2;rw[h,a] at h1;exact (BH h1).symm
theorem kept_back{k:Nat}{x:Rul}(a:(Zi G).rules[k]? = some x):∃r,G.rules[Yr G k]? = some r/\r∈Yh G/\x=Wb (Ze G) r:=by
 have a:((Yh G).map (Wb (Ze G)))[k]? = some x:=a;rw[BB] at a;cases b:(Yh G)[k]? with
 | none=>rw[b] at a;cases a
 | some r =>
   rw[b] at a;obtain⟨h1,c⟩:=Mh G G.rules.length (AJ _);rw[Jp] at h1 c;have f:k<(ksN G G.rules.length).length:=by rw[h1];exact (AO.1 b).1
   obtain⟨h,g,d⟩:=c k _ (AM f);rw[b] at d;obtain rfl:=BH d;refine⟨r,?_,AN b,(BH a).symm⟩;unfold Yr;rw[AP,AM f];exact g
theorem single_un{H:Gr}{s:Int}(h0:s<0)(h:UnT H (Zp s) n r u):∃q,UnL H [s] n q u:=by
 have:=UnL.non' h0 h (UnL.nil (G:=H));rw[DK] at this;exact⟨_,this⟩
theorem Zvp(a:G.Fits)(h:(Zt G).getD G.start.toNat false=true):(∀s∈[-1-G.start],s<0->Zp s∈Ze G)/\Xd (Ze G) (-1-G.start)<0/\Zp (Xd (Ze G) (-1-G.start))=(Zi G).start.toNat:=by
 have h1:=Jm a h;have d:=a.st;have e:Zp (-1-G.start)=G.start.toNat:=by unfold Zp;omega
 refine⟨λs b _=>?_,?_,?_⟩
 ·rw[BP] at b;rw[b,e];exact h1
 ·exact (Mk _ λ_=>by rw[e];exact h1).2 AA
 have c:=G8 (o:=Ze G) (s:=-1-G.start) AA (by rw[e];exact h1);rw[e] at c;show _=(toI (Ze G) G.start.toNat).toNat
 omega
end
