/- ranks: a maker of trees in memory; what is asked of its two functions. -/
import Derived.Test.YtggbjdmpjidhgaaGreatDoorVInvG
set_option linter.unusedVariables false
set_option linter.unusedSimpArgs false
set_option maxHeartbeats 8000000
set_option maxRecDepth 100000
namespace Go.Proofs.YtggbjdmpjidhgaaGreatDoor
open Go.RowKit
theorem Blk.same_ty {w:World} {g:Nat} {t b:TypeId} {cs d:Array Value} (h:Blk w g t cs) (a:Blk w g b d):t=b:=by
 unfold Blk at h a
 rw [h] at a
 injection a with a
 injection a with _ h2 _
theorem RowI.blk {w:World} {base:Nat} {A:Option Addr} {n c:Nat} {xs:List Int} (h:RowI w base A n c xs) {g:Nat} (a:(Value.slice A n c).ownBlock=some g):base≤g∧g < w.heap.size∧∃ cs,Blk w g 3 cs:=by
 refine ⟨(h.1.lt g a).1,(h.1.lt g a).2,?_⟩
 rcases h.1.2 with ⟨e,_⟩ | ⟨f,cap,b,e,_,d,_⟩
 · rw [e] at a;cases a
 · rw [e] at a
   injection a with a
   subst a
   exact ⟨b,d⟩
theorem BkAt.wide {f w:World} {k:BkH} {h:GH} {G:Gr} {S P:Nat→Prop} (C:BkAt f k h G S w) (j:∀ q,P q→∀ cs,¬ Blk w q 174 cs):BkAt f k h G (fun q=>S q∨P q) w:=by
 refine ⟨C.base,C.box,C.low,?_⟩
 obtain ⟨ts,a⟩:=C.known
 refine ⟨ts,a.map,a.key,fun p b=>⟨(a.val p b).1,?_⟩⟩
 rintro (h1 | h1)
 · exact (a.val p b).2 h1
 · obtain ⟨A,n,c,d,g,_⟩:=(a.val p b).1
   exact j _ h1 _ g
structure MkIn (W0:World) (k:BkH) (h:GH) (G:Gr) (mk:Nat) (cs:List Nat) (S:Nat→Prop) (A:Option Addr) (c:Nat) (W:World):Prop where
 bk:BkAt W0 k h G S W
 box:Blk W mk 116 #[.pointer (some ⟨k.c,0,none⟩), .slice A cs.length c]
 row:RowI W W0.heap.size A cs.length c (cs.map fun i:Nat=>(i:Int))
 own:S mk∧∀ g,(Value.slice A cs.length c).ownBlock=some g→S g
 lt:∀ q,S q→q < W.heap.size
 low:W0.heap.size≤mk
 few:cs.length≤300
def MkAt (a:World) (k:BkH) (h:GH) (G:Gr) (mk:Nat) (cs:List Nat) (W:World):Prop:=∃ S A c,MkIn a k h G mk cs S A c W
section
variable {W0:World} {k:BkH} {h:GH} {G:Gr} {mk:Nat} {cs:List Nat} {S:Nat→Prop} {A:Option Addr} {c:Nat} {W:World}
theorem MkIn.ne_c (M:MkIn W0 k h G mk cs S A c W):mk ≠ k.c:=fun e=>by
 have h1:=M.bk.box
 rw [← e] at h1
 exact absurd (h1.same_ty M.box) (by decide)
theorem MkIn.off {a:World} (M:MkIn W0 k h G mk cs S A c W) (C:BkAt W0 k h G S a) (b:Off k.map W a):MkIn W0 k h G mk cs S A c a :=
 ⟨C,b.blk M.box (M.bk.not_map M.box),M.row.off b fun g f=>by
   obtain ⟨_,_,q,d⟩:=M.row.blk f
   exact M.bk.not_map d,M.own,fun q d=>Nat.lt_of_lt_of_le (M.lt q d) b.size,M.low,M.few⟩
theorem MkIn.below {a:World} (M:MkIn W0 k h G mk cs S A c W) (b:Below W.heap.size W a):MkIn W0 k h G mk cs S A c a:=M.off (M.bk.below b) (Off.of_below b)
theorem MkIn.push {n b:World} {f:Option Addr} {g i:Nat} (M:MkIn W0 k h G mk cs S A c W) (u:Below W.heap.size W n) (r:RowI b W0.heap.size f (cs.length+1) g (cs.map (fun i:Nat=>(i:Int))++[(i:Int)])) (E:n.grownBy b (Value.slice A cs.length c).ownBlock) (L:cs.length ≠ 300) :
 Blk b mk 116 #[.pointer (some ⟨k.c,0,none⟩), .slice A cs.length c]∧MkAt W0 k h G mk (cs++[i]) (b.setCell ⟨mk,1,none⟩ (.slice f (cs.length+1) g))∧NatKeep W (b.setCell ⟨mk,1,none⟩ (.slice f (cs.length+1) g)):=by
 have d:=M.below u
 have p:Off (fun q=>(Value.slice A cs.length c).ownBlock=some q) n b:=Off.of_grown E
 have y:NatKeep n b:=NatKeep.of_off p fun q a=>d.row.no32 q a
 have F:(Value.slice A cs.length c).ownBlock ≠ some mk:=fun e=>by
  obtain ⟨_,_,v,j⟩:=d.row.blk e
  exact absurd (j.same_ty d.box) (by decide)
 have s:=d.bk.moveN p y fun q a=>by
  obtain ⟨J,N,v,j⟩:=d.row.blk a
  refine ⟨d.own.2 q a,J,fun e=>?_,d.bk.not_map j⟩
  have h1:=d.bk.box
  rw [← e] at h1
  exact absurd (h1.same_ty j) (by decide)
 have l:=p.blk d.box F
 have m:=Off.of_set b mk 1 (.slice f (cs.length+1) g)
 have H:∀ o z,b.cell? ⟨mk,o,none⟩ ≠ some (Value.int .u32 z):=fun o z x=>by
  rw [l.cell o] at x
  rcases o with _ | _ | o <;> cases x
 have B:NatKeep b (b.setCell ⟨mk,1,none⟩ (.slice f (cs.length+1) g)):=NatKeep.of_off m fun q a o z=>by rw [a];exact H o z
 have C:(Value.slice f (cs.length+1) g).ownBlock ≠ some mk:=fun e=>by
  obtain ⟨_,_,v,j⟩:=r.blk e
  exact absurd (j.same_ty l) (by decide)
 have D:=(s.moveN m B fun q a=>by
  subst a
  exact ⟨M.own.1,M.low,M.ne_c,s.not_map l⟩).wide (P:=fun q=>(Value.slice f (cs.length+1) g).ownBlock=some q) fun q a v j=>by
   obtain ⟨_,_,O,I⟩:=(r.off m fun q a e=>C (by rw [a,e])).blk a
   exact absurd (j.same_ty I) (by decide)
 have t:=r.off m fun q a e=>C (by rw [a,e])
 refine ⟨l,⟨_,f,g,D,?_,?_,⟨.inl M.own.1,fun q a => .inr ?_⟩,fun q a=>?_,M.low,?_⟩,((NatKeep.of_below u).trans y).trans B⟩
 · rw [List.length_append]
   exact l.set 1 _
 · rw [List.length_append,List.map_append]
   exact t
 · rw [List.length_append] at a
   exact a
 · rcases a with a | a
   · exact Nat.lt_of_lt_of_le (d.lt q a) (Nat.le_trans p.size m.size)
   · exact (t.blk a).2.1
 · have:=M.few
   rw [List.length_append,List.length_singleton]
   omega
end
def MkRet (a:World) (k:BkH) (h:GH) (G:Gr) (mk:Nat) (cs t:List Nat) (w:World) (e:Ending) (w':World):Prop :=
 NatKeep w w'∧((cs.length+t.length≤300∧e = .returned (.bool true)∧MkAt a k h G mk (cs++t) w')∨(300 < cs.length+t.length∧e = .returned (.bool false)∧Below a.heap.size a w'))
def FC (a:World) (k:BkH) (h:GH) (G:Gr) (m:Nat):Prop:=∀ (mk:Nat) (cs:List Nat) (l:List Int) (n r:Nat) (t:List Nat) (Al:Option Addr) (b:Nat) (Ar:Option Addr) (cr:Nat) (w:World),t.length≤m→UnL G l n r t→InG G l→forestT (treeN G) l n < big→KeyOK l n→(∀ s ∈ l,G.has s=true)→Ints .i64 a Al l.length b l→Nums .u32 w Ar (limbs r).length cr (limbs r)→MkAt a k h G mk cs w →
 Calls Tryz.prog 130 #[.pointer (some ⟨mk,0,none⟩), .slice Al l.length b, .int .i64 (n:Int), .slice Ar (limbs r).length cr] w (MkRet a k h G mk cs t w)
def TC (a:World) (k:BkH) (h:GH) (G:Gr) (m:Nat):Prop:=∀ (mk:Nat) (cs:List Nat) (s:Int) (n r:Nat) (t:List Nat) (Ar:Option Addr) (cr:Nat) (w:World),t.length≤m→s < 0→nonI s < G.nons.length→UnT G (nonI s) n r t→treeN G s n < big→n≤10→Nums .u32 w Ar (limbs r).length cr (limbs r)→MkAt a k h G mk cs w →
 Calls Tryz.prog 77 #[.pointer (some ⟨mk,0,none⟩), .int .i64 (nonI s:Int), .int .i64 (n:Int), .slice Ar (limbs r).length cr] w (MkRet a k h G mk cs t w)
theorem UnL.parts {G:Gr} (d:Plain G) {s:Int} {l:List Int} {n r:Nat} {t:List Nat} (h:UnL G (s::l) n r t) (f:InG G (s::l)):∃ k q g a b,k≤n∧r=aheadK (treeN G) s l n k+(q * forestT (treeN G) l (n - k)+g)∧g < forestT (treeN G) l (n - k)∧q < treeN G s k∧UnL G l (n - k) g b∧t=a++b∧(0≤s→a=[]∧q=0∧k=1)∧(s < 0→UnT G (nonI s) k q a):=by
 cases h with
 | @term _ _ n r t h0 h1 =>
   refine ⟨1,0,r,[],t,by omega,?_,?_,?_,h1,rfl,fun _=>⟨rfl,rfl,rfl⟩,fun h=>by omega⟩
   · rw [aheadK_succ,aheadK_zero,treeN_term G h0]
     simp [oneT]
   · exact h1.lt d f.tail
   · rw [treeN_term G h0]
     simp [oneT]
 | @non _ _ n k i q r x a b h0 m o u1 u2 =>
   have j:UnT G (nonI s) k (aheadR (treeN G) G.rules (nonI s) i k+q) (i::a):=⟨i,x,q,a,m,o,u1,rfl,rfl⟩
   refine ⟨k,aheadR (treeN G) G.rules (nonI s) i k+q,r,i::a,b,by omega,?_,?_,?_,?_,rfl,fun h=>by omega,fun _=>j⟩
   · rw [Nat.add_sub_cancel_left,Nat.add_assoc]
   · rw [Nat.add_sub_cancel_left];exact u2.lt d f.tail
   · exact j.lt d h0 (f s (List.mem_cons_self ..) h0)
   · rw [Nat.add_sub_cancel_left];exact u2
theorem key_rule {G:Gr} (a:G.Fits) {x:Rul} (d:x ∈ G.rules) {n:Nat} (f:n≤10):KeyOK x.right n∧∀ s ∈ x.right,G.has s=true:=by
 have h1:=a.sym x d
 have g:=a.n2
 have j:=a.n1
 refine ⟨⟨fun s b=>⟨by have:=(h1 s b).1;omega,by have:=(h1 s b).2;omega⟩,a.len x d,f⟩,fun s b=>?_⟩
 have:=h1 s b
 unfold Gr.has
 split <;> (rw [decide_eq_true_iff];omega)
theorem Ints.kept {w w':World} {A:Option Addr} {n c:Nat} {d:List Int} (h:Ints .i64 w A n c d) (p:IntKeep w w'):Ints .i64 w' A n c d:=by
 refine ⟨h.1,h.2.1,h.2.2.1,fun f=>?_⟩
 obtain ⟨b,g,e,l,m⟩:=h.2.2.2 f
 have h0:=m 0 f
 have hi:∃ o q z,w.cell? ⟨b,o,none⟩=some (Value.int q z):=by
  have t:0 < d.length:=by simpa [ints] using f
  refine ⟨g+0, .i64,d[0],?_⟩
  rw [h0]
  simp [ints,t]
 have r:=p.2 b l hi
 exact ⟨b,g,e,Nat.lt_of_lt_of_le l p.1,fun j s=>(World.cell?_of_block (a:=⟨b,g+j,none⟩) r).trans (m j s)⟩
structure TlIn (W0:World) (k:BkH) (h:GH) (G:Gr) (tk:Nat) (z:List Int) (S:Nat→Prop) (A:Option Addr) (c:Nat) (W:World):Prop where
 bk:BkAt W0 k h G S W
 box:Blk W tk 108 #[.pointer (some ⟨k.c,0,none⟩), .slice A z.length c]
 row:Ints .i64 W A z.length c z
 own:S tk
 lt:∀ q,S q→q < W.heap.size
 low:W0.heap.size≤tk
def TlAt (a:World) (k:BkH) (h:GH) (G:Gr) (b:Nat) (z:List Int) (W:World):Prop:=∃ S A c,TlIn a k h G b z S A c W
section
variable {W0:World} {k:BkH} {h:GH} {G:Gr} {tk:Nat} {z:List Int} {S:Nat→Prop} {A:Option Addr} {c:Nat} {W:World}
theorem TlIn.off {a:World} (M:TlIn W0 k h G tk z S A c W) (C:BkAt W0 k h G S a) (b:Off k.map W a):TlIn W0 k h G tk z S A c a :=
 ⟨C,b.blk M.box (M.bk.not_map M.box),M.row.kept (M.bk.keep b),M.own,fun q d=>Nat.lt_of_lt_of_le (M.lt q d) b.size,M.low⟩
theorem TlIn.below {a:World} (M:TlIn W0 k h G tk z S A c W) (b:Below W.heap.size W a):TlIn W0 k h G tk z S A c a:=M.off (M.bk.below b) (Off.of_below b)
theorem TlIn.next {i:Int} {b o:Nat} (M:TlIn W0 k h G tk (i::z) S (some ⟨b,o,none⟩) c W) {a:Option Addr} (m:(if c=1 then some (⟨b,o,none⟩:Addr) else some ⟨b,o+1,none⟩)=a) :
 TlIn W0 k h G tk z S a (c - 1) (W.setCell ⟨tk,1,none⟩ (.slice a z.length (c - 1)))∧IntKeep W (W.setCell ⟨tk,1,none⟩ (.slice a z.length (c - 1))):=by
 have g:=Off.of_set W tk 1 (.slice a z.length (c - 1))
 have n:NoInt W tk:=fun o k z j=>by
  rw [M.box.cell o] at j
  rcases o with _ | _ | o <;> cases j
 have f:IntKeep W (W.setCell ⟨tk,1,none⟩ (.slice a z.length (c - 1))):=IntKeep.of_off g fun q d=>by rw [d];exact n
 have l:=M.row.tail1
 rw [m,show (i::z).length - 1=z.length from rfl] at l
 refine ⟨⟨M.bk.move g f fun q d=>?_,M.box.set 1 _,l.kept f,M.own,fun q d=>Nat.lt_of_lt_of_le (M.lt q d) g.size,M.low⟩,f⟩
 subst d
 refine ⟨M.own,M.low,fun e=>?_,M.bk.not_map M.box⟩
 have h1:=M.bk.box
 rw [← e] at h1
 exact absurd (h1.same_ty M.box) (by decide)
end
def TlRet (a:World) (k:BkH) (h:GH) (G:Gr) (b:Nat) (z:List Int) (n r:Nat) (w:World) (e:Ending) (w':World):Prop :=
 ∃ A c,e = .returned (.tuple #[.slice A (limbs r).length c, .int .i64 (n:Int)])∧Nums .u32 w' A (limbs r).length c (limbs r)∧TlAt a k h G b z w'∧IntKeep w w'
def FT (a:World) (k:BkH) (h:GH) (G:Gr) (m:Nat):Prop:=∀ (b:Nat) (l:List Int) (n r:Nat) (t:List Nat) (z:List Int) (Al:Option Addr) (d:Nat) (w:World),t.length≤m→UnL G l n r t→InG G l→forestT (treeN G) l n < big→KeyOK l n→(∀ s ∈ l,G.has s=true)→Ints .i64 a Al l.length d l→TlAt a k h G b (t.map (fun i:Nat=>(i:Int))++z) w →
 Calls Tryz.prog 123 #[.pointer (some ⟨b,0,none⟩), .slice Al l.length d] w (TlRet a k h G b z n r w)
def TT (b:World) (k:BkH) (h:GH) (G:Gr) (m:Nat):Prop:=∀ (a:Nat) (s:Int) (n r:Nat) (t:List Nat) (z:List Int) (w:World),t.length≤m→s < 0→nonI s < G.nons.length→UnT G (nonI s) n r t→treeN G s n < big→n≤10→TlAt b k h G a (t.map (fun i:Nat=>(i:Int))++z) w →
 Calls Tryz.prog 73 #[.pointer (some ⟨a,0,none⟩)] w (TlRet b k h G a z n r w)
end Go.Proofs.YtggbjdmpjidhgaaGreatDoor
