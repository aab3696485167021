/- A region that draws its order and lays boxes of its own, each stored to once: what holds of its worlds, whatever the order. -/
import Derived.Test.YtggbjdmpjidhgaaGreatDoorY17
set_option linter.all false
set_option maxHeartbeats 1500000
set_option maxRecDepth 100000
namespace Go.Proofs.YtggbjdmpjidhgaaGreatDoor
open Go.RowKit Go.Proofs.Tryz
variable{At:Option Addr}{a:World}{tab:Nat->Nat->Nat}{cs:Array Value}
structure Qr where
 ia:Nat
 is:Nat
 ic:Nat
 ty:TypeId
 z:Array Value
def BoxAt(W X:World)(b:Nat->Bool)(u:Nat->Value)(p:Qr):Prop:=b p.ia=true->∃g cs,u p.ia = .pointer (some ⟨g,0,none⟩)/\W.heap.size<=g/\Blk X g p.ty cs/\((b p.is=false/\cs=p.z)\/(b p.is=true/\u p.ic = .agg cs))
structure VMs (W:World) (L:List Qr) (b:Nat->Bool) (u:Nat->Value) (X:World):Prop where
 below:Below W.heap.size W X
 at_:∀p∈L,BoxAt W X b u p
 apart:∀p∈L,∀q∈L,p.ia≠q.ia->b p.ia=true->b q.ia=true->u p.ia≠u q.ia
theorem VMs.start(W:World)(L:List Qr)(u:Nat->Value):VMs W L (λ_=>false) u W.drew :=
 ⟨(AL _ _).drew,λ_ _ h=>(by cases h),λ_ _ _ _ _ h=>(by cases h)⟩
structure TbG (W0:World) (h:GH) (G:Gr) (At:Option Addr) (nt ct:Nat) (tab:Nat->Nat->Nat):Prop where
 at_:Yf W0 h G
 tabm:Zyq W0 At nt ct G.nons.length tab
 told:∀k,k<nt->∀i,i<G.nons.length->tab k i=Zv G (-1-(i:Int)) k
 nt:nt<=11
 n1:h.n1<=100
 n2:h.n2<=100
 n3:h.n3<=100
theorem TbG.tree{b:World}{h:GH}{G:Gr}{a d:Nat}(T:TbG b h G At a d tab){s:Int}(g:G.has s=true){k:Nat}(f:k<a):Yk tab s k=Zv G s k:=by
 unfold Yk;by_cases h0:0<=s
 ·rw[if_pos h0,Xb G h0]
 have j:=H7 g;rw[if_neg h0,T.told k f (Zp s) (by unfold Zp;omega)];congr 1;unfold Zp;omega
theorem TbG.forest{b:World}{h:GH}{G:Gr}{a d:Nat}(T:TbG b h G At a d tab){l:List Int}(f:∀s∈l,G.has s=true){m:Nat}(n:m<a):Zx (Yk tab) l m=Zx (Zv G) l m :=
 Wp λs g k j=>T.tree (f s g) AA
section
variable {W X:World} {L:List Qr} {b:Nat->Bool} {u:Nat->Value}
theorem VMs.more{k:World}(M:VMs W L b u X)(l:Below X X k){i:Nat}(hi:∀p∈L,i≠p.ia/\i≠p.is/\(i=p.ic->b p.is=false))(v:Value):VMs W L (Mz b i) (upd u i v) k:=by
 refine⟨Zz M.below l,λp f h=>?_,λp f q n x h1 j=>?_⟩
 ·obtain⟨h1,j,r⟩:=hi p f;rw[Ys h1.symm] at h;obtain⟨g,cs,e,t,s,d⟩:=M.at_ p f h;refine⟨g,cs,by rw[Yj h1.symm];exact e,t,s.ext l,?_⟩;rw[Ys j.symm];rcases d with d | ⟨d,o⟩
  ·exact .inl d
  refine .inr ⟨d,?_⟩;by_cases m:i=p.ic
  ·rw[r m] at d;cases d
  rw[Yj λe=>m e.symm];exact o
 have a:=(hi p f).1;have c:=(hi q n).1;rw[Ys a.symm] at h1;rw[Ys c.symm] at j;rw[Yj a.symm,Yj c.symm];exact M.apart p f q n x h1 j
theorem VMs.idle(M:VMs W L b u X)(c:Below X X a)(i:Nat)(hi:L.all (λp=>p.ia != i&&p.is != i&&p.ic != i)=true)(v:Value):VMs W L (Mz b i) (upd u i v) a :=
 M.more c (λp d=>by
   have h:=BG.1 hi p d;simp only[AS,BM] at h;exact⟨h.1.1.symm,h.1.2.symm,λe=>absurd e.symm h.2⟩) v
theorem VMs.call(M:VMs W L b u X)(c:Below X X a)(i:Nat){j:Nat}(f:b j=false)(hi:L.all (λp=>p.ia != i&&p.is != i&&(p.ic != i || p.is==j))=true)(v:Value):VMs W L (Mz b i) (upd u i v) a :=
 M.more c (λp d=>by
   have h:=BG.1 hi p d;simp only[AS,BM,BX,BO] at h;exact⟨h.1.1.symm,h.1.2.symm,λe=>h.2.elim (λh=>absurd e.symm h) λh=>by rw[h];exact f⟩) v
theorem VMs.made(M:VMs W L b u X){p:Qr}(y:p∈L)(x:b p.is=false)(l:∀q∈L,(q.ia=p.ia->q=p)/\q.is≠p.ia/\q.ic≠p.ia):VMs W L (Mz b p.ia) (upd u p.ia (.pointer (some ⟨X,0,none⟩))) (X.alloc (.cells p.z p.ty)):=by
 have s:=Zy X (.cells p.z p.ty);have o:∀q∈L,q.ia≠p.ia->Mz b p.ia q.ia=true->∃g cs,u q.ia = .pointer (some ⟨g,0,none⟩)/\W.heap.size<=g/\Blk X g q.ty cs/\((b q.is=false/\cs=q.z)\/(b q.is=true/\u q.ic = .agg cs)):=λq c k h=>by
  rw[Ys k] at h;exact M.at_ q c h
 refine⟨Zz M.below s,λq c h=>?_,λq c r t k h1 m=>?_⟩
 ·by_cases d:q.ia=p.ia
  ·obtain rfl:=(l q c).1 d;exact⟨X,q.z,D1,M.below.size,Blk.new X q.ty q.z,.inl ⟨by rw[Ys (l q c).2.1];exact x,rfl⟩⟩
  obtain⟨g,cs,e,n,j,v⟩:=o q c d h;exact⟨g,cs,by rw[Yj d];exact e,n,j.ext s,by rw[Ys (l q c).2.1,Yj (l q c).2.2];exact v⟩
 by_cases d:q.ia=p.ia
 ·have f:r.ia≠p.ia:=λe=>k (d.trans e.symm);obtain⟨g,cs,e,n,j,_⟩:=o r t f m;rw[d,D1,Yj f,e];intro a;injection a with a;injection a with a;injection a with a;have:=j.lt;omega
 by_cases f:r.ia=p.ia
 ·obtain⟨g,cs,e,n,j,_⟩:=o q c d h1;rw[f,D1,Yj d,e];intro a;injection a with a;injection a with a;injection a with a;have:=j.lt;omega
 rw[Yj d,Yj f];rw[Ys d] at h1;rw[Ys f] at m;exact M.apart q c r t k h1 m
theorem VMs.there(M:VMs W L b u X){p:Qr}(f:p∈L)(h:b p.ia=true)(j:b p.is=false):∃g,u p.ia = .pointer (some ⟨g,0,none⟩)/\W.heap.size<=g/\Blk X g p.ty p.z:=by
 obtain⟨g,cs,e,d,c,⟨_,rfl⟩ | ⟨a,_⟩⟩:=M.at_ p f h
 ·exact⟨g,e,d,c⟩
 rw[j] at a;cases a
theorem VMs.wrote{f:World}(M:VMs W L b u X){p:Qr}(H:p∈L)(h:b p.ia=true){g:Nat}(e:u p.ia = .pointer (some ⟨g,0,none⟩))(x:W.heap.size<=g)(I:u p.ic = .agg cs)(C:Blk f g p.ty cs)(y:Off (λq=>q=g) X f)(m:∀q∈L,(q.ia=p.ia->q=p)/\q.ia≠p.is/\q.ic≠p.is/\(q.is=p.is->q=p))(v:Value):VMs W L (Mz b p.is) (upd u p.is v) f:=by
 refine⟨M.below.trans (y.is_below M.below.size λq d=>by rw[d];exact x),λq d j=>?_,λq d r z k h1 t=>?_⟩
 ·obtain⟨J,n,A,N⟩:=m q d;rw[Ys n] at j;by_cases l:q=p
  ·subst l;exact⟨g,cs,by rw[Yj n];exact e,x,C,.inr ⟨Ztw,by rw[Yj A];exact I⟩⟩
  obtain⟨s,B,o,F,D,E⟩:=M.at_ q d j;have k:s≠g:=λG=>M.apart q d p H (λe=>l (J e)) j h (by rw[o,e,G]);refine⟨s,B,by rw[Yj n];exact o,F,y.blk D k,?_⟩;rw[Ys λe=>l (N e),Yj A];exact E
 have a:=(m q d).2.1;have c:=(m r z).2.1;rw[Ys a] at h1;rw[Ys c] at t;rw[Yj a,Yj c];exact M.apart q d r z k h1 t
theorem VMs.fin(M:VMs W L b u X){p:Qr}(j:p∈L)(h:b p.ia=true)(k:b p.is=true):∃g cs,u p.ia = .pointer (some ⟨g,0,none⟩)/\W.heap.size<=g/\Blk X g p.ty cs/\u p.ic = .agg cs:=by
 obtain⟨g,cs,e,f,d,⟨a,_⟩ | ⟨_,c⟩⟩:=M.at_ p j h
 ·rw[k] at a;cases a
 exact⟨g,cs,e,f,d,c⟩
theorem VMs.put2(M:VMs W L b u X){p:Qr}(m:p∈L)(h:b p.ia=true)(s:b p.is=false)(t:∀q∈L,(q.ia=p.ia->q=p)/\q.ia≠p.is/\q.ic≠p.is/\(q.is=p.is->q=p)){j k a c:Value}(y:p.z=#[j,k])(h0:∀q,j ≠ .int .u32 q)(h1:∀q,k ≠ .int .u32 q)(x:u p.ic = .agg #[a,c]):
 ∃g,u p.ia = .pointer (some ⟨g,0,none⟩)/\Blk X g p.ty #[j,k]/\(∀v,VMs W L (Mz b p.is) (upd u p.is v) ((X.setCell ⟨g,0,none⟩ a).setCell ⟨g,1,none⟩ c))/\Zu X ((X.setCell ⟨g,0,none⟩ a).setCell ⟨g,1,none⟩ c):=by
 obtain⟨g,e,n,d⟩:=M.there m h s;rw[y] at d;have l:Off (λq=>q=g) X ((X.setCell ⟨g,0,none⟩ a).setCell ⟨g,1,none⟩ c):=(Off.of_set X g 0 a).trans (Off.of_set _ g 1 c) λ_ _ h=>h;refine⟨g,e,d,λv=>M.wrote m h e n x ((d.set 0 a).set 1 c) l t v,Zu.of_off l λq r o z f=>?_⟩;rw[r,d.cell o] at f;rcases o with _ | _ | o
 ·exact h0 z (BI f)
 ·exact h1 z (BI f)
 cases f
end
