/- A region that draws its order: the like of InvF, with what holds of the world beside; any operation may write. -/
import Derived.Test.YtggbjdmpjidhgaaGreatDoorVQCtW5
import Derived.Test.YtggbjdmpjidhgaaGreatDoorVRkM
import Derived.Test.YtggbjdmpjidhgaaGreatDoorVCtX1
set_option linter.unusedVariables false
set_option linter.unusedSimpArgs false
set_option maxHeartbeats 8000000
set_option maxRecDepth 100000
namespace Go.Proofs.YtggbjdmpjidhgaaGreatDoor
open Go.RowKit
section
variable {P:Program} {Γ:Type} {R:World→World→Prop}
def updb (b:Nat→Bool) (i:Nat):Nat→Bool:=fun j=>if j=i then true else b j
def ClosB (l:List Oper) (b:Nat→Bool):Prop:=∀ i o,l[i]? = some o→b i=true→∀ p,onB o p=true→b p=true
def StepsG (P:Program) (l:List Oper) (M:Γ→(Nat→Bool)→(Nat→Value)→World→Prop) (R:World→World→Prop) (F:(Nat→Value)→Act) (D:Nat→Value→World→Prop):Nat→List Oper→Prop
 | _,[]=>True
 | i,o::rest=>(o.guard=none∧(∀ u v,(F u).put o.dst v=F (upd u i v))∧∀ (Q:Exit→Act→World→Prop) (g:Γ) (b:Nat→Bool) (u:Nat→Value) (X:World),ClosB l b→b i=false→M g b u X→(∀ p,onB o p=true→b p=true∧D p (u p) X) →
    ∀ K:Act→World→Prop,(∀ v c a,R X a→M c (updb b i) (upd u i v) a→D i v a→K ((F u).put o.dst v) a)→o.wp P (F u) X K Q)∧StepsG P l M R F D (i+1) rest
theorem StepsG.nil {l:List Oper} {M:Γ→(Nat→Bool)→(Nat→Value)→World→Prop} {F:(Nat→Value)→Act} {D:Nat→Value→World→Prop} {i:Nat}:StepsG P l M R F D i []:=trivial
theorem StepsG.cons {l:List Oper} {M:Γ→(Nat→Bool)→(Nat→Value)→World→Prop} {F:(Nat→Value)→Act} {D:Nat→Value→World→Prop} {i:Nat} {o:Oper} {rest:List Oper} (d:o.guard=none) (f:∀ u v,(F u).put o.dst v=F (upd u i v))
 (h:∀ (Q:Exit→Act→World→Prop) (g:Γ) (b:Nat→Bool) (u:Nat→Value) (X:World),ClosB l b→b i=false→M g b u X→(∀ p,onB o p=true→b p=true∧D p (u p) X)→∀ K:Act→World→Prop,(∀ v c a,R X a→M c (updb b i) (upd u i v) a→D i v a→K ((F u).put o.dst v) a)→o.wp P (F u) X K Q)
 (t:StepsG P l M R F D (i+1) rest):StepsG P l M R F D i (o::rest):=⟨⟨d,f,h⟩,t⟩
def JG (l:List Oper) (M:Γ→(Nat→Bool)→(Nat→Value)→World→Prop) (F:(Nat→Value)→Act) (D:Nat→Value→World→Prop) (listed:Array Bool) (a:Act) (X:World):Prop :=
 ∃ u g,a=F u∧listed.size=l.length∧ClosB l (fun i=>listed.getD i false)∧M g (fun i=>listed.getD i false) u X∧(∀ i,listed.getD i false=true→D i (u i) X)
theorem StepsG.steps {l:List Oper} {M:Γ→(Nat→Bool)→(Nat→Value)→World→Prop} {F:(Nat→Value)→Act} {D:Nat→Value→World→Prop} (r:∀ i v X f,D i v X→R X f→D i v f) :
 ∀ (m:List Oper) (i:Nat),(∀ j,j < m.length→m[j]? = l[i+j]?)→i+m.length=l.length→StepsG P l M R F D i m→StepsU P (JG l M F D) i m
 | [],i,_,hl,_=>trivial
 | o::m,i,hm,hl,hs=>by
   have J:l[i]? = some o:=by simpa using (hm 0 (by simp)).symm
   refine StepsU.cons hs.1.1 (fun Q listed a X y O L K z=>?_) (StepsG.steps r m (i+1) (fun j c=>by have:=hm (j+1) (by simp;omega);simpa [Nat.add_assoc,Nat.add_comm 1 j] using this) (by simp only [List.length_cons] at hl;omega) hs.2)
   obtain ⟨u,g,rfl,N,s,A,hd⟩:=y
   obtain ⟨h,I⟩:=getD_tt O
   have q:∀ p,onB o p=true→listed.getD p false=true:=fun p b=>by
    obtain ⟨e,G,E,rfl⟩:=onB_iff.1 b
    exact L e G E
   have H:(fun j=>(listed.setIfInBounds i true).getD j false)=updb (fun j=>listed.getD j false) i:=by
    funext j
    rw [getD_one h]
    rfl
   refine hs.1.2.2 Q g _ u X s I A (fun p b=>⟨q p b,hd p (q p b)⟩) K fun v x f C B S=>?_
   refine z _ _ ⟨upd u i v,x,hs.1.2.1 u v,by simpa using N,?_,by rw [H];exact B,fun j c=>?_⟩
   · intro j T n c p b
     show (listed.setIfInBounds i true).getD p false=true
     have k:(listed.setIfInBounds i true).getD j false=true:=c
     rw [getD_one h] at k ⊢
     by_cases t:p=i
     · rw [if_pos t]
     · rw [if_neg t]
       by_cases d:j=i
       · subst d
         rw [J] at n
         obtain rfl:=Option.some.inj n
         exact q p b
       · rw [if_neg d] at k
         exact s j T n k p b
   · rw [getD_one h] at c
     unfold upd
     by_cases d:j=i
     · subst d;rw [if_pos rfl];exact S
     · rw [if_neg d] at c ⊢
       exact r j _ X f (hd j c) C
theorem wp_region_free {id:Nat} {Q:Exit→Act→World→Prop} {a:Act} {w:World} {l:List Oper} (M:Γ→(Nat→Bool)→(Nat→Value)→World→Prop) (R:World→World→Prop) (g0:Γ) (F:(Nat→Value)→Act) (u0:List Value) (D:List (Value→World→Prop)) (s:P.follows .mixedOrders=true) (p:backB l.toArray=true)
 (m:a=F fun i=>u0.getD i undef) (f:M g0 (fun _=>false) (fun i=>u0.getD i undef) w.drew) (c:MonoL R D) (t:StepsG P l M R F (atL D) 0 l)
 (q:∀ g b u X,(∀ i,i < l.length→b i=true)→M g b u X→(∀ i,i < l.length→atL D i (u i) X)→Q .normal (F u) X):(Code.region id l.toArray true).wp P Q a w:=by
 have v:(fun i=>(Array.replicate l.length false).getD i false)=fun _:Nat=>false:=by
  funext i
  simp [Array.getD]
 refine wp_region_invU (JG l M F (atL D)) s p ⟨_,g0,m,by simp,fun i o _ h=>?_,by rw [v];exact f,fun i h=>?_⟩ ?_ fun listed a X d n=>?_
 · simp [Array.getD] at h
 · simp [Array.getD] at h
 · exact StepsG.steps c.at l 0 (fun j _=>by rw [Nat.zero_add]) (Nat.zero_add _) t
 · obtain ⟨u,g,rfl,x,_,k,hd⟩:=d
   have hi:∀ i,i < l.length→listed.getD i false=true:=fun i hi=>by
    have h1:=n i hi
    have r:i < listed.size:=by omega
    simp only [Array.getD,dif_pos r] at h1 ⊢
    exact h1
   exact q g _ u X hi k fun i h=>hd i (hi i h)
end
def Cel (S:Nat→Prop) (a:Nat) (X:World) (v:Value) (f:Bool) (j:Value):Prop:=∃ (g:Nat) (A:Option Addr) (n c:Nat) (d:Bool),v = .pointer (some ⟨g,0,none⟩)∧a < g∧S g∧Blk X g 174 #[.slice A n c, .bool d]∧(f=true→j = .agg #[.slice A n c, .bool d])
theorem Cel.mono {S S':Nat→Prop} {f:Nat} {X a:World} {v:Value} {j:Bool} {l:Value} (h:Cel S f X v j l) (s:∀ q,S q→S' q) (r:∀ g t cs,v = .pointer (some ⟨g,0,none⟩)→Blk X g t cs→Blk a g t cs):Cel S' f a v j l:=by
 obtain ⟨g,A,n,c,d,e,h1,m,o,p⟩:=h
 exact ⟨g,A,n,c,d,e,h1,s _ m,r _ _ _ e o,p⟩
theorem Cel.lt {S:Nat→Prop} {f:Nat} {X:World} {g:Nat} {j:Bool} {l:Value} (h:Cel S f X (.pointer (some ⟨g,0,none⟩)) j l):g < X.heap.size:=by
 obtain ⟨m,A,n,c,d,e,h1,o,a,p⟩:=h
 injection e with e;injection e with e;injection e with e _ _
 subst e
 exact a.lt
structure PM (W0:World) (k:BkH) (h:GH) (G:Gr) (S':Nat→Prop) (w:World) (gR:Nat) (b:Nat→Bool) (u:Nat→Value) (X:World):Prop where
 ex:∃ S2,BkAt W0 k h G S2 X∧(∀ q,S' q→S2 q)∧(∀ q,S2 q→q < X.heap.size)∧(b 12=true→Cel S2 gR X (u 12) (b 14) (u 4))∧(b 13=true→Cel S2 gR X (u 13) (b 15) (u 11))
 off:Off k.map w X
 res:Blk X gR 174 #[.slice none 0 0, .bool false]
 ne:b 12=true→b 13=true→u 12 ≠ u 13
theorem updb_ne {b:Nat→Bool} {i j:Nat} (h:j ≠ i):updb b i j=b j:=if_neg h
theorem upd_ne {u:Nat→Value} {i j:Nat} {v:Value} (h:j ≠ i):upd u i v j=u j:=if_neg h
theorem updb_at {b:Nat→Bool} {i:Nat}:updb b i i=true:=if_pos rfl
theorem upd_at {u:Nat→Value} {i:Nat} {v:Value}:upd u i v i=v:=if_pos rfl
variable {W0:World} {k:BkH} {h:GH} {G:Gr} {S':Nat→Prop} {w:World} {gR:Nat} {b:Nat→Bool} {u:Nat→Value} {X:World}
theorem PM.idle (H:PM W0 k h G S' w gR b u X) (i:Nat) (v:Value) (hi:i ≠ 4∧i ≠ 11∧i ≠ 12∧i ≠ 13∧i ≠ 14∧i ≠ 15):PM W0 k h G S' w gR (updb b i) (upd u i v) X:=by
 obtain ⟨n,o,a,c,p,q⟩:=hi
 obtain ⟨⟨d,a1,a2,a3,f,g⟩,j,l,m⟩:=H
 refine ⟨⟨d,a1,a2,a3,?_,?_⟩,j,l,?_⟩
 · rw [updb_ne (Ne.symm a),updb_ne (Ne.symm p),upd_ne (Ne.symm a),upd_ne (Ne.symm n)];exact f
 · rw [updb_ne (Ne.symm c),updb_ne (Ne.symm q),upd_ne (Ne.symm c),upd_ne (Ne.symm o)];exact g
 · rw [updb_ne (Ne.symm a),updb_ne (Ne.symm c),upd_ne (Ne.symm a),upd_ne (Ne.symm c)];exact m
theorem PM.asked (H:PM W0 k h G S' w gR b u X) (i:Nat) (hi:i=4∧b 14=false∨i=11∧b 15=false):(∃ a,BkAt W0 k h G a X∧(∀ q,a q→q < X.heap.size)∧∀ f v,BkAt W0 k h G a f→Off k.map X f→PM W0 k h G S' w gR (updb b i) (upd u i v) f):=by
 obtain ⟨⟨a,a1,a2,a3,C,D⟩,E,F,I⟩:=H
 refine ⟨a,a1,a3,fun f v J y=>?_⟩
 have m:12 ≠ i:=by omega
 have o:13 ≠ i:=by omega
 have L:14 ≠ i:=by omega
 have M:15 ≠ i:=by omega
 have z:∀ g t cs,Blk X g t cs→Blk f g t cs:=fun g t cs B=>y.blk B (a1.not_map B)
 refine ⟨⟨a,J,a2,fun q l=>Nat.lt_of_lt_of_le (a3 q l) y.size,?_,?_⟩,E.map_trans y,z _ _ _ F,?_⟩
 · rw [updb_ne m,updb_ne L,upd_ne m]
   intro x
   have h1:=(C x).mono (fun q l=>l) fun g t cs _=>z g t cs
   rcases hi with ⟨rfl,j⟩ | ⟨rfl,j⟩
   · rw [j] at h1 ⊢
     obtain ⟨g,A,n,c,d,e,p,r,s,_⟩:=h1
     exact ⟨g,A,n,c,d,e,p,r,s,nofun⟩
   · rw [upd_ne (by omega)];exact h1
 · rw [updb_ne o,updb_ne M,upd_ne o]
   intro x
   have h1:=(D x).mono (fun q l=>l) fun g t cs _=>z g t cs
   rcases hi with ⟨rfl,j⟩ | ⟨rfl,j⟩
   · rw [upd_ne (by omega)];exact h1
   · rw [j] at h1 ⊢
     obtain ⟨g,A,n,c,d,e,p,r,s,_⟩:=h1
     exact ⟨g,A,n,c,d,e,p,r,s,nofun⟩
 · rw [updb_ne m,updb_ne o,upd_ne m,upd_ne o];exact I
theorem PM.made (H:PM W0 k h G S' w gR b u X) (i:Nat) (hi:i=12∧b 14=false∨i=13∧b 15=false):PM W0 k h G S' w gR (updb b i) (upd u i (.pointer (some ⟨X.heap.size,0,none⟩))) (X.alloc (.cells #[.slice none 0 0, .bool false] 174)):=by
 obtain ⟨⟨l,a1,a2,a3,o,p⟩,A,r,J⟩:=H
 have m:=alloc_below X (.cells #[.slice none 0 0, .bool false] 174)
 have s:=Blk.new X 174 #[.slice none 0 0, .bool false]
 have L:=s.lt
 have C:=r.lt
 have D:4 ≠ i:=by omega
 have E:11 ≠ i:=by omega
 have F:14 ≠ i:=by omega
 have I:15 ≠ i:=by omega
 have y:∀ (a:Bool) (d:Value),a=false→Cel (fun q=>l q∨q=X.heap.size) gR (X.alloc (.cells #[.slice none 0 0, .bool false] 174)) (.pointer (some ⟨X.heap.size,0,none⟩)) a d:=fun a d e=>⟨_,_,_,_,_,rfl,C, .inr rfl,s,fun h=>by rw [e] at h;cases h⟩
 have z:∀ {v:Value} {a:Bool} {d:Value},Cel l gR X v a d→Cel (fun q=>l q∨q=X.heap.size) gR (X.alloc (.cells #[.slice none 0 0, .bool false] 174)) v a d:=fun n=>n.mono (fun q=>Or.inl) fun g t cs _ B=>B.ext m
 have x:∀ {v:Value} {a:Bool} {d:Value},Cel l gR X v a d→v ≠ .pointer (some ⟨X.heap.size,0,none⟩):=fun n e=>by
  subst e
  have:=n.lt
  omega
 refine ⟨⟨_,a1.more m (Nat.le_refl _),fun q f => .inl (a2 q f),fun q f=>?_,?_,?_⟩,A.map_trans (Off.of_below m),r.ext m,?_⟩
 · rcases f with f | rfl
   · have:=a3 q f;omega
   · omega
 · rw [updb_ne F,upd_ne D]
   rcases hi with ⟨rfl,c⟩ | ⟨rfl,c⟩
   · rw [upd_at];exact fun _=>y _ _ c
   · rw [updb_ne (by omega),upd_ne (by omega)];exact fun h=>z (o h)
 · rw [updb_ne I,upd_ne E]
   rcases hi with ⟨rfl,c⟩ | ⟨rfl,c⟩
   · rw [updb_ne (by omega),upd_ne (by omega)];exact fun h=>z (p h)
   · rw [upd_at];exact fun _=>y _ _ c
 · rcases hi with ⟨rfl,c⟩ | ⟨rfl,c⟩
   · rw [upd_at,updb_ne (j:=13) (by omega),upd_ne (by omega)];exact fun _ h=>(x (p h)).symm
   · rw [upd_at,updb_ne (j:=12) (by omega),upd_ne (by omega)];exact fun h _=>x (o h)
theorem PM.wrote (H:PM W0 k h G S' w gR b u X) (i j p:Nat) (hi:i=14∧j=12∧p=4∨i=15∧j=13∧p=11) (x:b j=true) {A:Option Addr} {n c:Nat} {d:Bool} (hp:u p = .agg #[.slice A n c, .bool d]) (hw:w.heap.size≤gR) (af:W0.heap.size≤gR) :
 ∃ g A0 n0 c0 C,u j = .pointer (some ⟨g,0,none⟩)∧Blk X g 174 #[.slice A0 n0 c0, .bool C]∧∀ v,PM W0 k h G S' w gR (updb b i) (upd u i v) ((X.setCell ⟨g,0,none⟩ (.slice A n c)).setCell ⟨g,1,none⟩ (.bool d))∧IntKeep X ((X.setCell ⟨g,0,none⟩ (.slice A n c)).setCell ⟨g,1,none⟩ (.bool d)):=by
 obtain ⟨⟨o,a1,a2,a3,D,E⟩,M,N,B⟩:=H
 have U:Cel o gR X (u j) false undef:=by
  rcases hi with ⟨rfl,rfl,rfl⟩ | ⟨rfl,rfl,rfl⟩
  · obtain ⟨g,A,n,c,d,e,r,l,a,_⟩:=D x
    exact ⟨g,A,n,c,d,e,r,l,a,nofun⟩
  · obtain ⟨g,A,n,c,d,e,r,l,a,_⟩:=E x
    exact ⟨g,A,n,c,d,e,r,l,a,nofun⟩
 obtain ⟨g,A0,n0,c0,C,e,r,l,a,_⟩:=U
 refine ⟨g,A0,n0,c0,C,e,a,fun v=>?_⟩
 have m:Off (fun q=>q=g) X ((X.setCell ⟨g,0,none⟩ (.slice A n c)).setCell ⟨g,1,none⟩ (.bool d)):=(Off.of_set X g 0 (.slice A n c)).trans (Off.of_set _ g 1 (.bool d)) fun _ _ h=>h
 have F:IntKeep X ((X.setCell ⟨g,0,none⟩ (.slice A n c)).setCell ⟨g,1,none⟩ (.bool d)):=IntKeep.of_off m fun q f=>by rw [f];exact cell_noInt a
 have P:Blk ((X.setCell ⟨g,0,none⟩ (.slice A n c)).setCell ⟨g,1,none⟩ (.bool d)) g 174 #[.slice A n c, .bool d]:=(a.set 0 _).set 1 _
 have V:g ≠ k.c:=by
  rintro rfl
  have h1:=a1.box
  unfold Blk at h1 a
  rw [h1] at a
  injection a with a
  injection a with _ h3 _
  exact absurd h3 (by decide)
 have W:=a1.not_map a
 have S:=a1.move m F fun q f=>by subst f;exact ⟨l,by omega,V,W⟩
 have Z:=M.trans m fun q f e=>by omega
 have i1:4 ≠ i:=by omega
 have i2:11 ≠ i:=by omega
 have y:12 ≠ i:=by omega
 have z:13 ≠ i:=by omega
 have I:∀ {v:Value} {s:Bool} {L:Value},v ≠ u j→Cel o gR X v s L→Cel o gR ((X.setCell ⟨g,0,none⟩ (.slice A n c)).setCell ⟨g,1,none⟩ (.bool d)) v s L:=fun Y T=>T.mono (fun q f=>f) fun g' t cs O R=>m.blk R (by rintro rfl;exact Y (O.trans e.symm))
 have J:∀ (s:Bool),Cel o gR ((X.setCell ⟨g,0,none⟩ (.slice A n c)).setCell ⟨g,1,none⟩ (.bool d)) (u j) s (u p):=fun s=>⟨g,A,n,c,d,e,r,l,P,fun _=>hp⟩
 refine ⟨⟨⟨o,S,a2,fun q f=>Nat.lt_of_lt_of_le (a3 q f) m.size,?_,?_⟩,Z,m.blk N (fun e=>by omega),?_⟩,F⟩
 · rw [updb_ne y,upd_ne y,upd_ne i1]
   rcases hi with ⟨rfl,rfl,rfl⟩ | ⟨rfl,rfl,rfl⟩
   · exact fun _=>J _
   · rw [updb_ne (by omega)];exact fun h=>I (B h x) (D h)
 · rw [updb_ne z,upd_ne z,upd_ne i2]
   rcases hi with ⟨rfl,rfl,rfl⟩ | ⟨rfl,rfl,rfl⟩
   · rw [updb_ne (by omega)];exact fun h=>I (B x h).symm (E h)
   · exact fun _=>J _
 · rw [updb_ne y,upd_ne y,updb_ne z,upd_ne z];exact B
def NatKeep (w w':World):Prop:=w.heap.size≤w'.heap.size∧∀ b,b < w.heap.size→(∃ o z,w.cell? ⟨b,o,none⟩=some (Value.int .u32 z))→w'.heap[b]? = w.heap[b]?
theorem NatKeep.refl (w:World):NatKeep w w:=⟨Nat.le_refl _,fun _ _ _=>rfl⟩
theorem NatKeep.trans {a b c:World} (h:NatKeep a b) (k:NatKeep b c):NatKeep a c:=by
 refine ⟨Nat.le_trans h.1 k.1,fun g d hi=>?_⟩
 have e:=h.2 g d hi
 refine (k.2 g (Nat.lt_of_lt_of_le d h.1) ?_).trans e
 obtain ⟨o,z,f⟩:=hi
 exact ⟨o,z,(World.cell?_of_block (a:=⟨g,o,none⟩) e).trans f⟩
theorem NatKeep.of_int {w w':World} (h:IntKeep w w'):NatKeep w w':=⟨h.1,fun b a ⟨o,z,c⟩=>h.2 b a ⟨o, .u32,z,c⟩⟩
theorem NatKeep.of_below {w w':World} (h:Below w.heap.size w w'):NatKeep w w' := .of_int (.of_below h)
theorem NatKeep.of_off {S:Nat→Prop} {w w':World} (h:Off S w w') (a:∀ g,S g→∀ o z,w.cell? ⟨g,o,none⟩ ≠ some (Value.int .u32 z)):NatKeep w w':=⟨h.size,fun b c ⟨o,z,d⟩=>h.keep b c fun f=>a b f o z d⟩
theorem Nums.nkept {w w':World} {A:Option Addr} {n c:Nat} {xs:List Nat} (h:Nums .u32 w A n c xs) (l:NatKeep w w'):Nums .u32 w' A n c xs:=by
 refine ⟨h.1,h.2.1,h.2.2.1,fun d=>?_⟩
 obtain ⟨b,f,e,g,k⟩:=h.2.2.2 d
 have h0:=k 0 d
 have hi:∃ o z,w.cell? ⟨b,o,none⟩=some (Value.int .u32 z):=by
  have q:0 < xs.length:=by simpa [nums] using d
  refine ⟨f+0,((xs[0]:Nat):Int),?_⟩
  rw [h0]
  simp [nums,q]
 have m:=l.2 b g hi
 exact ⟨b,f,e,Nat.lt_of_lt_of_le g l.1,fun j p=>(World.cell?_of_block (a:=⟨b,f+j,none⟩) m).trans (k j p)⟩
theorem ValN.nkept {w w':World} {A:Option Addr} {n c:Nat} {b:Bool} {x:Nat} (h:ValN w A n c b x) (a:NatKeep w w'):ValN w' A n c b x:=⟨h.1,h.2.nkept a⟩
theorem BkAt.moveN {j w w':World} {k:BkH} {h:GH} {G:Gr} {S P:Nat→Prop} (C:BkAt j k h G S w) (g:Off P w w') (q:NatKeep w w') (h1:∀ b,P b→S b∧j.heap.size≤b∧b ≠ k.c∧b ≠ k.t):BkAt j k h G S w':=by
 have r:=C.map_lt
 refine ⟨C.base.trans (g.is_below C.base.size fun b l=>(h1 b l).2.1),g.blk C.box fun a=>(h1 _ a).2.2.1 rfl,C.low,?_⟩
 obtain ⟨ts,f⟩:=C.known
 refine ⟨ts,f.map.block (g.keep _ r fun a=>(h1 _ a).2.2.2 rfl),f.key,fun p a=>⟨?_,(f.val p a).2⟩⟩
 obtain ⟨A,n,c,d,m,o⟩:=(f.val p a).1
 exact ⟨A,n,c,d,(g.keep _ m.lt fun l=>(f.val p a).2 (h1 _ l).1).trans m,o.nkept q⟩
def RowI (w:World) (base:Nat) (A:Option Addr) (n c:Nat) (xs:List Int):Prop :=
 w.ownsRow base 3 1 (.slice A n c) n (ints .i64 xs)∧∀ g,(Value.slice A n c).ownBlock=some g→∀ (o:Nat) (v:Value),w.cell? ⟨g,o,none⟩=some v→∃ z,v = .int .i64 z
theorem RowI.no32 {w:World} {base:Nat} {A:Option Addr} {n c:Nat} {xs:List Int} (h:RowI w base A n c xs):∀ g,(Value.slice A n c).ownBlock=some g→∀ o z,w.cell? ⟨g,o,none⟩ ≠ some (Value.int .u32 z):=fun g b o z a=>by
 obtain ⟨y,d⟩:=h.2 g b o _ a
 cases d
theorem RowI.off {S:Nat→Prop} {w w':World} {base:Nat} {A:Option Addr} {n c:Nat} {xs:List Int} (h:RowI w base A n c xs) (f:Off S w w') (d:∀ g,(Value.slice A n c).ownBlock=some g→¬ S g):RowI w' base A n c xs :=
 ⟨f.row h.1 d,fun g b o v j=>h.2 g b o v ((World.cell?_of_block (a:=⟨g,o,none⟩) (f.keep g (h.1.lt g b).2 (d g b))).symm.trans j)⟩
theorem ints_all {o:Nat} {v:Value} {b:List Int} (h:(ints .i64 b)[o]? = some v):∃ z,v = .int .i64 z:=by
 simp only [ints,List.getElem?_map] at h
 cases a:b[o]? with
 | none=>rw [a] at h;cases h
 | some z=>rw [a] at h;injection h with h;exact ⟨z,h.symm⟩
section
variable {P:Program} {w:World}
theorem run_appendR (base:Nat) (t ty:TypeId) (bytes:Nat) (L:P.underlying t=some (.slice 3))
 (hi:(P.info? 3).map (fun i=>(i.zero,i.size,i.bytes))=some (some (.int .i64 0),1,bytes))
 (A:Option Addr) (n c:Nat) (xs:List Int) (s:RowI w base A n c xs)
 (a:Addr) (m c2:Nat) (k:List Int) (hl:k.length=m) (hm:0 < m) (I:∀ j u,(ints .i64 k)[j]? = some u→w.cell? (a.add j)=some u)
 (U:n+m≤maxLen) (S:(n+m) * bytes≤140737488355328) (Z:base≤w.heap.size) :
 ∃ M N w',(Builtin.append_ #[t,t] ty #[.slice A n c, .slice (some a) m c2]).run P w = .ok (.slice M (n+m) N) w'∧RowI w' base M (n+m) N (xs++k)∧w.grownBy w' (Value.slice A n c).ownBlock ∧
   (∀ b,(Value.slice M (n+m) N).ownBlock=some b→b < w.heap.size→(Value.slice A n c).ownBlock=some b):=by
 obtain ⟨i,J,T,y,R⟩:=info_parts hi
 have D:(ints .i64 k).length=m * 1:=by rw [ints_length,hl,Nat.mul_one]
 have h1:∀ u ∈ ints .i64 k,u.oneCell'=true:=ints_one _ _
 have al:n+m≤9223372036854775807:=by simp only [maxLen] at U;omega
 have H:ints .i64 (xs++k)=ints .i64 xs++ints .i64 k:=by simp [ints]
 obtain ⟨v',w',x,G,O,ah⟩:=run_append_own (P:=P) w base t ty 3 i (.int .i64 0) 1 bytes L J T y R rfl (by decide) _ n _ s.1 a m c2 _ D I h1 U S Z
 have X:∀ (cs:List Int) (q:Nat) (o:Nat) (v:Value),((ints .i64 cs).toArray++Builtin.zeroCells (Value.int .i64 0).cells q)[o]? = some v→∃ z,v = .int .i64 z:=by
  intro cs q o v h
  rw [Array.getElem?_append] at h
  split at h
  · rw [List.getElem?_toArray] at h;exact ints_all h
  · have d:=Array.mem_of_getElem? h
    have:v = .int .i64 0:=by
     simp [Builtin.zeroCells,Value.cells] at d
     obtain ⟨p,_,e⟩:=d
     rw [Nat.mod_one] at e
     exact e.symm
    exact ⟨0,this⟩
 rcases s.1.2 with ⟨e,rfl⟩ | ⟨g,cap,F,e,ai,r,ak,aj,aa,am⟩
 · injection e with e1 _ e2
   subst e1 e2
   have hx:xs=[]:=List.eq_nil_of_length_eq_zero (by have:=s.1.1;rw [ints_length] at this;omega)
   subst hx
   have l:=run_append_nil (P:=P) w t ty 3 i (.int .i64 0) L J T a m c2 _ (by rw [D,y]) I hm (by omega) (by rw [R];rw [Nat.zero_add] at S;omega)
   rw [l] at x
   injection x with hv hw
   subst hv hw
   simp only [Nat.zero_add] at G ⊢
   refine ⟨_,_,_,l,⟨by rw [H];exact G,fun g r o v f=>?_⟩,O,fun b B ae=>?_⟩
   · simp [Value.ownBlock] at r
     subst r
     rw [cell_of_row _ w.heap.size _ _ _ _ (heap_alloc_new w.drew _)] at f
     exact X _ _ _ _ f
   · simp [Value.ownBlock] at B
     omega
 · injection e with e1 _ e2
   subst e1 e2
   have V:∀ (o:Nat) (v:Value),F[o]? = some v→∃ z,v = .int .i64 z:=fun o v h=>s.2 g rfl o v (by rw [cell_of_row _ _ _ _ _ _ r];exact h)
   by_cases W:n+m≤c
   · have ab:n * i.size+(ints .i64 k).length≤F.size:=by rw [D,aa,y,← Nat.add_mul];exact Nat.mul_le_mul_right _ W
     have l:=run_append_room (P:=P) w t ty 3 i L J g n c F r a m c2 _ (by rw [D,y]) I h1 W ab
     rw [l] at x
     injection x with hv hw
     subst hv hw
     refine ⟨_,_,_,l,⟨by rw [H];exact G,fun Y C o v f=>?_⟩,O,fun b B _=>B⟩
     simp [Value.ownBlock] at C
     subst C
     rw [cell_of_row _ _ _ _ _ _ (setRow_heap w g F _ _ _ r)] at f
     rw [List.getElem?_toArray] at f
     have d:=List.mem_of_getElem? f
     rw [List.mem_append,List.mem_append] at d
     rcases d with (d | d) | d
     · obtain ⟨q,E⟩:=List.mem_iff_getElem?.1 (List.mem_of_mem_take d)
       exact V q v (by simpa using E)
     · obtain ⟨q,E⟩:=List.mem_iff_getElem?.1 d
       exact ints_all E
     · obtain ⟨q,E⟩:=List.mem_iff_getElem?.1 (List.mem_of_mem_drop d)
       exact V q v (by simpa using E)
   · have holds:∀ j u,(ints .i64 xs)[j]? = some u→w.cell? ((⟨g,0,none⟩:Addr).add j)=some u:=s.1.cells (g:=g) rfl
     have l:=run_append_grow (P:=P) w t ty 3 i (.int .i64 0) L J T ⟨g,0,none⟩ n c _ (by rw [y];exact s.1.1) holds a m c2 _ (by rw [D,y]) I (by omega) (by omega) (by rw [R];exact growslice_fits (by omega) S)
     rw [l] at x
     injection x with hv hw
     subst hv hw
     refine ⟨_,_,_,l,⟨by rw [H];exact G,fun Y C o v f=>?_⟩,O,fun b B ae=>?_⟩
     · simp [Value.ownBlock] at C
       subst C
       rw [cell_of_row _ w.heap.size _ _ _ _ (heap_alloc_new w.drew _)] at f
       refine X (xs++k) (grownCap w (n+m) c 3 - (n+m)) o v ?_
       rw [H]
       simpa using f
     · simp [Value.ownBlock] at B
       omega
theorem wpl_appendR {ops:Array Oper} {rest:List Oper} {o:Oper} {a:Act} {Q:Exit→Act→World→Prop} (D:o.guard=none) (s x:Operand) (t:TypeId)
 (F:o.op = .call { callee := .builtin .append,args:=#[s,x],argTypes:=#[t,t] })
 (base:Nat) (bytes:Nat) (L:P.underlying t=some (.slice 3))
 (hi:(P.info? 3).map (fun i=>(i.zero,i.size,i.bytes))=some (some (.int .i64 0),1,bytes))
 (A:Option Addr) (n c:Nat) (xs:List Int) (J:a.eval s = .slice A n c) (G:RowI w base A n c xs)
 (y:Int) (M:a.eval x = .slice (some ⟨w.heap.size,0,none⟩) 1 1)
 (q:n+1≤maxLen) (B:(n+1) * bytes≤140737488355328) (z:base≤w.heap.size)
 (h:∀ d f w',RowI w' base d (n+1) f (xs++[y])→(w.alloc (.cells #[.int .i64 y] 3)).grownBy w' (Value.slice A n c).ownBlock→(∀ b,(Value.slice d (n+1) f).ownBlock=some b→b < w.heap.size→(Value.slice A n c).ownBlock=some b) →
   wpList P ops Q rest (a.put o.dst (.slice d (n+1) f)) w'):wpList P ops Q (o::rest) a (w.alloc (.cells #[.int .i64 y] 3)):=by
 have g:=alloc_below w (.cells #[.int .i64 y] 3)
 have H:RowI (w.alloc (.cells #[.int .i64 y] 3)) base A n c xs:=G.off (S:=fun _=>False) (Off.of_below g) fun _ _ h=>h
 have C:∀ (j:Nat) (u:Value),(ints .i64 [y])[j]? = some u→(w.alloc (.cells #[.int .i64 y] 3)).cell? ((⟨w.heap.size,0,none⟩:Addr).add j)=some u:=fun j u k=>by
  rcases j with _ | j
  · rw [show (⟨w.heap.size,0,none⟩:Addr).add 0=⟨w.heap.size,0,none⟩ from rfl,cell_of_row _ w.heap.size _ _ _ _ (heap_alloc_new w _)]
    exact k
  · cases k
 obtain ⟨d,f,w',I,l,m,p⟩:=run_appendR (P:=P) base t o.type bytes L hi A n c xs H ⟨w.heap.size,0,none⟩ 1 1 [y] rfl (by decide) C q B (Nat.le_trans z g.size)
 refine wpList_plain D fun K r=>?_
 unfold Oper.wp execOp
 simp only [F,resolve,invoke,builtin,Sem.run_bind,Sem.run_pure,Result.andThen_ok,List.map_toArray,List.map_cons,List.map_nil,J,M,I]
 exact r _ _ (h d f w' l m fun b v E=>p b v (Nat.lt_of_lt_of_le E g.size))
end
section
variable {P:Program} {w:World}
end
theorem ApartV.symm {u v:Value} (h:ApartV u v):ApartV v u:=fun b a c=>h b c a
theorem aheadK_zero (T:Int→Nat→Nat) (s:Int) (l:List Int) (n:Nat):aheadK T s l n 0=0:=rfl
theorem aheadK_succ (T:Int→Nat→Nat) (s:Int) (l:List Int) (n k:Nat):aheadK T s l n (k+1)=aheadK T s l n k+T s k * forestT T l (n - k):=sum_range_succ (fun j=>T s j * forestT T l (n - j)) k
theorem aheadK_all (T:Int→Nat→Nat) (s:Int) (l:List Int) (n:Nat):aheadK T s l n (n+1)=forestT T (s::l) n:=rfl
theorem aheadK_mono (T:Int→Nat→Nat) (s:Int) (l:List Int) (n:Nat) {k a:Nat} (h:k≤a):aheadK T s l n k≤aheadK T s l n a:=by
 obtain ⟨d,rfl⟩:=Nat.exists_eq_add_of_le h
 induction d with
 | zero=>exact Nat.le_refl _
 | succ d b=>rw [← Nat.add_assoc,aheadK_succ];exact Nat.le_trans (b (Nat.le_add_right _ _)) (Nat.le_add_right _ _)
theorem aheadR_zero (T:Int→Nat→Nat) (b:List Rul) (a n:Nat):aheadR T b a 0 n=0:=rfl
theorem aheadR_succ (T:Int→Nat→Nat) {b:List Rul} {i:Nat} {x:Rul} (h:b[i]? = some x) (a n:Nat):aheadR T b a (i+1) n=aheadR T b a i n+(if x.left.toNat=a then forestT T x.right n else 0):=by
 unfold aheadR
 rw [List.take_add_one,h]
 exact rulesT_snoc T _ x a n
theorem aheadR_past (T:Int→Nat→Nat) {b:List Rul} {i:Nat} (h:b.length≤i) (a n:Nat):aheadR T b a i n=rulesT T b a n:=by
 unfold aheadR
 rw [List.take_of_length_le h]
theorem aheadR_mono (T:Int→Nat→Nat) (b:List Rul) (a n:Nat) {i f:Nat} (h:i≤f):aheadR T b a i n≤aheadR T b a f n:=by
 obtain ⟨d,rfl⟩:=Nat.exists_eq_add_of_le h
 induction d with
 | zero=>exact Nat.le_refl _
 | succ d j =>
   refine Nat.le_trans (j (Nat.le_add_right _ _)) ?_
   cases c:b[i+d]? with
   | none =>
     have g:b.length≤i+d:=List.getElem?_eq_none_iff.1 c
     rw [← Nat.add_assoc,aheadR_past T g,aheadR_past T (by omega)]
     exact Nat.le_refl _
   | some x=>rw [← Nat.add_assoc,aheadR_succ T c];exact Nat.le_add_right _ _
theorem aheadR_le (T:Int→Nat→Nat) (b:List Rul) (a n i:Nat):aheadR T b a i n≤rulesT T b a n:=by
 have h:=aheadR_mono T b a n (Nat.le_max_left i b.length)
 rwa [aheadR_past T (Nat.le_max_right i b.length)] at h
def UnT (G:Gr) (a n r:Nat) (t:List Nat):Prop:=∃ i x q b,G.rules[i]? = some x∧x.left.toNat=a∧UnL G x.right n q b∧r=aheadR (treeN G) G.rules a i n+q∧t=i::b
theorem InG.tail {G:Gr} {s:Int} {l:List Int} (h:InG G (s::l)):InG G l:=fun q a=>h q (List.mem_cons_of_mem _ a)
theorem InG.at {G:Gr} (a:G.Fits) {i:Nat} {x:Rul} (b:G.rules[i]? = some x):InG G x.right:=InG.rule a (List.mem_of_getElem? b)
theorem part_lt {a q T F r:Nat} (h1:a+q < T) (b:r < F):(a+q) * F+r < T * F :=
 Nat.lt_of_lt_of_le (Nat.add_lt_add_left b _) (by rw [← Nat.succ_mul];exact Nat.mul_le_mul_right _ h1)
theorem UnL.lt {G:Gr} (b:Plain G) {l:List Int} {n r:Nat} {t:List Nat} (h:UnL G l n r t) (a:InG G l):r < forestT (treeN G) l n:=by
 induction h with
 | nil=>exact Nat.one_pos
 | @term s l n r t h0 _ j =>
   have h1:=j a.tail
   rw [← aheadK_all]
   refine Nat.lt_of_lt_of_le ?_ (aheadK_mono (treeN G) s l (n+1) (k:=2) (by omega))
   rw [aheadK_succ,treeN_term G h0]
   show r < _+oneT 1 * _
   unfold oneT
   rw [if_pos rfl,Nat.one_mul]
   exact Nat.lt_of_lt_of_le h1 (Nat.le_add_left _ _)
 | @non s l n k i q r x p u h0 c g _ _ m o =>
   have h1:=m (InG.at b.fits c)
   have d:=o a.tail
   have f:aheadR (treeN G) G.rules (nonI s) i k+q < treeN G s k:=by
    rw [treeN_non b h0 (a s (List.mem_cons_self ..) h0)]
    refine Nat.lt_of_lt_of_le (Nat.add_lt_add_left h1 _) ?_
    have:=aheadR_succ (treeN G) c (nonI s) k
    rw [if_pos g] at this
    rw [← this]
    exact aheadR_le _ _ _ _ _
   rw [← aheadK_all,Nat.add_assoc]
   refine Nat.lt_of_lt_of_le (Nat.add_lt_add_left (part_lt f d) _) ?_
   have e:=aheadK_succ (treeN G) s l (k+n) k
   rw [Nat.add_sub_cancel_left] at e
   rw [← e]
   exact aheadK_mono _ _ _ _ (by omega)
theorem UnT.lt {G:Gr} (a:Plain G) {s:Int} (h0:s < 0) (c:nonI s < G.nons.length) {n r:Nat} {t:List Nat} (h:UnT G (nonI s) n r t):r < treeN G s n:=by
 obtain ⟨i,x,q,g,b,f,d,rfl,_⟩:=h
 rw [treeN_non a h0 c]
 refine Nat.lt_of_lt_of_le (Nat.add_lt_add_left (d.lt a (InG.at a.fits b)) _) ?_
 have:=aheadR_succ (treeN G) b (nonI s) n
 rw [if_pos f] at this
 rw [← this]
 exact aheadR_le _ _ _ _ _
theorem ahead_one {T:Int→Nat→Nat} {s:Int} {l:List Int} {n k c v f:Nat} (h1:v < T s k * forestT T l (n - k)) (g:f < T s c * forestT T l (n - c)) (h:aheadK T s l n k+v=aheadK T s l n c+f):k=c∧v=f:=by
 have a:=aheadK_succ T s l n k
 have b:=aheadK_succ T s l n c
 rcases Nat.lt_trichotomy k c with d | rfl | d
 · have:=aheadK_mono T s l n (show k+1≤c from d)
   omega
 · exact ⟨rfl,by omega⟩
 · have:=aheadK_mono T s l n (show c+1≤k from d)
   omega
theorem rule_one {T:Int→Nat→Nat} {c:List Rul} {a n i b v f:Nat} {x g:Rul} (o:c[i]? = some x) (p:c[b]? = some g) (l:x.left.toNat=a) (m:g.left.toNat=a) (h1:v < forestT T x.right n) (q:f < forestT T g.right n) (h:aheadR T c a i n+v=aheadR T c a b n+f):i=b∧v=f:=by
 have j:=aheadR_succ T o a n
 have k:=aheadR_succ T p a n
 rw [if_pos l] at j
 rw [if_pos m] at k
 rcases Nat.lt_trichotomy i b with d | rfl | d
 · have:=aheadR_mono T c a n (show i+1≤b from d)
   omega
 · exact ⟨rfl,by omega⟩
 · have:=aheadR_mono T c a n (show b+1≤i from d)
   omega
theorem quo_one {a b F r c:Nat} (h1:r < F) (j:c < F) (h:a * F+r=b * F+c):a=b∧r=c:=by
 have d:0 < F:=by omega
 have f:(a * F+r) / F=a:=by rw [Nat.add_comm,Nat.add_mul_div_right _ _ d,Nat.div_eq_of_lt h1,Nat.zero_add]
 have g:(b * F+c) / F=b:=by rw [Nat.add_comm,Nat.add_mul_div_right _ _ d,Nat.div_eq_of_lt j,Nat.zero_add]
 have:a=b:=by rw [← f,← g,h]
 subst this
 exact ⟨rfl,by omega⟩
theorem UnL.one {G:Gr} (a:Plain G) {l:List Int} {n r:Nat} {t:List Nat} (h:UnL G l n r t) (f:InG G l):∀ {c:Nat} {o:List Nat},UnL G l n c o→r=c→t=o:=by
 induction h with
 | nil=>intro c o b _;cases b;rfl
 | @term s l n r t h0 _ L =>
   intro c o b d
   generalize y:n+1=m at b
   cases b with
   | term _ F =>
     obtain rfl:=Nat.succ.inj y
     exact L f.tail F d
   | non h1=>exact absurd h1 (by omega)
 | @non s l n k i q r x R U h0 g z u1 u2 M N =>
   intro c o b d
   generalize y:k+n=m at b d
   cases b with
   | term h1=>exact absurd h1 (by omega)
   | @non _ _ p B J O c T S V _ j A u C =>
     have v:=f s (List.mem_cons_self ..) h0
     have a1:=u2.lt a f.tail
     have a2:=C.lt a f.tail
     have D:=UnT.lt a h0 v ⟨i,x,q,R,g,z,u1,rfl,rfl⟩
     have E:=UnT.lt a h0 v ⟨J,T,O,S,j,A,u,rfl,rfl⟩
     have c1:=part_lt D a1
     have c2:=part_lt E a2
     rw [Nat.add_assoc,Nat.add_assoc] at d
     obtain ⟨rfl,I⟩:=ahead_one (n:=B+p) (by rw [show B+p - k=n by omega];exact c1) (by rw [Nat.add_sub_cancel_left];exact c2) d
     obtain rfl:n=p:=by omega
     obtain ⟨H,rfl⟩:=quo_one a1 a2 I
     obtain ⟨rfl,rfl⟩:=rule_one g j z A (u1.lt a (InG.at a.fits g)) (u.lt a (InG.at a.fits j)) H
     rw [g] at j
     obtain rfl:=Option.some.inj j
     rw [M (InG.at a.fits g) u rfl,N f.tail C rfl]
theorem UnT.one {G:Gr} (b:Plain G) {a n r:Nat} {t j:List Nat} (h:UnT G a n r t) (k:UnT G a n r j):t=j:=by
 obtain ⟨i,x,q,u,c,m,f,rfl,rfl⟩:=h
 obtain ⟨p,y,s,v,d,o,g,l,rfl⟩:=k
 obtain ⟨rfl,rfl⟩:=rule_one c d m o (f.lt b (InG.at b.fits c)) (g.lt b (InG.at b.fits d)) l
 rw [c] at d
 obtain rfl:=Option.some.inj d
 rw [f.one b (InG.at b.fits c) g rfl]
theorem UnL.parse {G:Gr} {l:List Int} {n r:Nat} {t:List Nat} (h:UnL G l n r t):∀ {b c:Nat} {d z z':List Nat},UnL G l b c d→t++z=d++z'→n=b∧r=c∧t=d∧z=z':=by
 induction h with
 | nil=>intro b c d z z' f a;cases f;exact ⟨rfl,rfl,rfl,a⟩
 | @term s l n r t h0 _ p =>
   intro b c d z z' f a
   cases f with
   | term _ m =>
     obtain ⟨rfl,rfl,rfl,rfl⟩:=p m a
     exact ⟨rfl,rfl,rfl,rfl⟩
   | non h1=>exact absurd h1 (by omega)
 | @non s l n k i q r x H J h0 o B u1 u2 u v =>
   intro b c d z z' f a
   cases f with
   | term h1=>exact absurd h1 (by omega)
   | @non _ _ b E D F c M I L _ g C y A =>
     rw [List.cons_append,List.cons_append] at a
     injection a with e1 e2
     subst e1
     rw [o] at g
     obtain rfl:=Option.some.inj g
     rw [List.append_assoc,List.append_assoc] at e2
     obtain ⟨rfl,rfl,rfl,j⟩:=u y e2
     obtain ⟨rfl,rfl,rfl,rfl⟩:=v A j
     exact ⟨rfl,rfl,rfl,rfl⟩
theorem UnT.parse {G:Gr} {a n r f g:Nat} {t b z z':List Nat} (h:UnT G a n r t) (j:UnT G a f g b) (c:t++z=b++z'):n=f∧r=g∧t=b∧z=z':=by
 obtain ⟨i,x,q,v,m,o,k,rfl,rfl⟩:=h
 obtain ⟨s,A,u,y,d,p,l,rfl,rfl⟩:=j
 rw [List.cons_append,List.cons_append] at c
 injection c with e1 e2
 subst e1
 rw [m] at d
 obtain rfl:=Option.some.inj d
 obtain ⟨rfl,rfl,rfl,rfl⟩:=k.parse l e2
 exact ⟨rfl,rfl,rfl,rfl⟩
theorem UnL.non' {G:Gr} {s:Int} {l:List Int} {n k a r:Nat} {b c:List Nat} (h0:s < 0) (h1:UnT G (nonI s) k a b) (d:UnL G l n r c):UnL G (s::l) (k+n) (aheadK (treeN G) s l (k+n) k+a * forestT (treeN G) l n+r) (b++c):=by
 obtain ⟨i,x,q,j,g,h,f,rfl,rfl⟩:=h1
 exact .non h0 g h f d
theorem ahead_pick {T:Int→Nat→Nat} {s:Int} {l:List Int} {n r:Nat}:∀ {m:Nat},r < aheadK T s l n m→∃ k v,k < m∧r=aheadK T s l n k+v∧v < T s k * forestT T l (n - k)
 | 0,h=>absurd h (Nat.not_lt_zero _)
 | m+1,h=>by
   by_cases b:r < aheadK T s l n m
   · obtain ⟨k,v,c,h1,a⟩:=ahead_pick b
     exact ⟨k,v,by omega,h1,a⟩
   · rw [aheadK_succ] at h
     exact ⟨m,r - aheadK T s l n m,by omega,by omega,by omega⟩
theorem rule_pick {T:Int→Nat→Nat} {b:List Rul} {a n r:Nat}:∀ {m:Nat},r < aheadR T b a m n→∃ i x v,i < m∧b[i]? = some x∧x.left.toNat=a∧r=aheadR T b a i n+v∧v < forestT T x.right n
 | 0,h=>absurd h (Nat.not_lt_zero _)
 | m+1,h=>by
   by_cases d:r < aheadR T b a m n
   · obtain ⟨i,x,v,hi,h1,g,j,k⟩:=rule_pick d
     exact ⟨i,x,v,by omega,h1,g,j,k⟩
   · cases f:b[m]? with
     | none =>
       have c:b.length≤m:=List.getElem?_eq_none_iff.1 f
       rw [aheadR_past T (by omega)] at h
       rw [aheadR_past T c] at d
       exact absurd h d
     | some x =>
       rw [aheadR_succ T f] at h
       split at h
       · rename_i c
         exact ⟨m,x,r - aheadR T b a m n,by omega,f,c,by omega,by omega⟩
       · omega
theorem UnL.ex {G:Gr} (g:Plain G):∀ (l:List Int) (n r:Nat),(∀ (d:Nat) (s:Int) (m k:Nat),l[d]? = some s→s < 0→m≤n→k+lowN (nullN G) (l.drop (d+1))≤m→(m=n→∀ (p:Nat) q,p < d→l[p]? = some q→nulB (nullN G) q=true)→∀ q,q < treeN G s k→∃ t,UnT G (nonI s) k q t)→r < forestT (treeN G) l n→∃ t,UnL G l n r t
 | [],n,r,_,h=>by
   unfold forestT at h
   split at h
   · rename_i h0;subst h0
     obtain rfl:r=0:=by omega
     exact ⟨[], .nil⟩
   · omega
 | s::l,n,r,hT,h=>by
   rw [← aheadK_all] at h
   obtain ⟨k,v,O,rfl,x⟩:=ahead_pick h
   have f:0 < forestT (treeN G) l (n - k):=by
    rcases Nat.eq_zero_or_pos (forestT (treeN G) l (n - k)) with h0 | h0
    · rw [h0,Nat.mul_zero] at x;omega
    · exact h0
   have o:0 < treeN G s k:=by
    rcases Nat.eq_zero_or_pos (treeN G s k) with h0 | h0
    · rw [h0,Nat.zero_mul] at x;omega
    · exact h0
   have R:lowN (nullN G) l≤n - k:=by
    rcases Nat.lt_or_ge (n - k) (lowN (nullN G) l) with h1 | h1
    · rw [forest_least (fun s h=>treeN_null g h) h1] at f;omega
    · exact h1
   have J:v % forestT (treeN G) l (n - k) < forestT (treeN G) l (n - k):=Nat.mod_lt _ f
   have b:v / forestT (treeN G) l (n - k) < treeN G s k:=by rw [Nat.div_lt_iff_lt_mul f];exact x
   obtain ⟨B,c⟩:=UnL.ex g l (n - k) (v % forestT (treeN G) l (n - k)) (fun d q m j hd u S F E L I=>hT (d+1) q m j (by simpa using hd) u (by omega) (by simpa using F) (fun N p A y z=>by
    cases p with
    | zero =>
      obtain rfl:s=A:=by simpa using z
      obtain rfl:k=0:=by omega
      exact treeN_null g (by omega)
    | succ p=>exact E (by omega) p A (by omega) (by simpa using z)) L I) J
   have a:=Nat.div_add_mod v (forestT (treeN G) l (n - k))
   by_cases h0:0≤s
   · rw [treeN_term G h0] at b o
     have H:k=1:=by
      unfold oneT at o
      split at o
      · assumption
      · omega
     subst H
     have u:v / forestT (treeN G) l (n - 1)=0:=by have C:oneT 1=1:=rfl;rw [C] at b;exact Nat.lt_one_iff.1 b
     rw [u,Nat.mul_zero,Nat.zero_add] at a
     have D:aheadK (treeN G) s l n 1=0:=by
      rw [aheadK_succ,aheadK_zero,treeN_term G h0]
      simp [oneT]
     rw [a] at c
     refine ⟨B,?_⟩
     have:=UnL.term h0 c
     rw [show n - 1+1=n by omega] at this
     rw [D,Nat.zero_add]
     exact this
   · obtain ⟨M,h1⟩:=hT 0 s n k rfl (by omega) (Nat.le_refl _) (by simpa using (by omega:k+lowN (nullN G) l≤n)) (fun _ p q y=>absurd y (by omega)) _ b
     have:=UnL.non' (by omega) h1 c
     rw [show k+(n - k)=n by omega] at this
     refine ⟨M++B,?_⟩
     rw [Nat.mul_comm] at a
     rw [Nat.add_assoc,a] at this
     exact this
theorem UnT.ex {G:Gr} (a:Plain G):∀ (m n:Nat) (s:Int),s < 0→nonI s < G.nons.length→mu G n s=m→∀ r,r < treeN G s n→∃ t,UnT G (nonI s) n r t:=by
 intro m
 induction m using Nat.strongRecOn with
 | ind m A =>
   intro n s h0 o D r f
   rw [treeN_non a h0 o,← aheadR_past (treeN G) (Nat.le_refl G.rules.length)] at f
   obtain ⟨i,x,v,hi,g,h,rfl,z⟩:=rule_pick f
   have c:=List.mem_of_getElem? g
   obtain ⟨t,y⟩:=UnL.ex a x.right n v (fun d q E k hd b p l j B u=>by
    have C:=rule_down a c hd b p j l (s:=s) h.symm
    refine A _ (by omega) k q b (InG.rule a.fits c q (List.mem_of_getElem? hd) b) rfl B u) z
   exact ⟨i::t,i,x,v,t,g,h,y,rfl,rfl⟩
end Go.Proofs.YtggbjdmpjidhgaaGreatDoor
