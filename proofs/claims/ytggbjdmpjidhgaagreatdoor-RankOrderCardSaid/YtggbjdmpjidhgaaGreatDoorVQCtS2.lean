/- counts: the reference's Is and Of, walked. -/
import Derived.Test.YtggbjdmpjidhgaaGreatDoorVQCtS1
import Derived.Test.YtggbjdmpjidhgaaGreatDoorVQCyR2
import Derived.Test.YtggbjdmpjidhgaaGreatDoorVQCtP4
import Derived.Test.YtggbjdmpjidhgaaGreatDoorVQCtW2
import Derived.Test.YtggbjdmpjidhgaaGreatDoorVQCyW9
set_option linter.unusedVariables false
set_option linter.unusedSimpArgs false
set_option maxHeartbeats 8000000
set_option maxRecDepth 100000
namespace Go.Proofs.YtggbjdmpjidhgaaGreatDoor
open Go.RowKit
noncomputable def isRed (G:Gr):Bool:=redOK G && eqG G (redG G)
theorem isRed_iff {G:Gr}:isRed G=true ↔ redOK G=true∧redG G=G:=by
 unfold isRed
 rw [Bool.and_eq_true,eqG_iff]
 exact ⟨fun h=>⟨h.1,h.2.symm⟩,fun h=>⟨h.1,h.2.symm⟩⟩
open Classical in
noncomputable def ofN22 (G:Gr) (l:List Int) (n:Int):List Nat × Nat :=
 if isRed G=false∨6 < l.length∨n < 0∨10 < n∨(∃ s ∈ l,G.has s=false) then ([],1)
 else if cycG G ≠ 0 then ([],10) else fitN (forestT (treeN G) l n.toNat)
theorem has_bd {G:Gr} {s:Int} (h:G.has s=true):-(G.nons.length:Int)≤s∧s < (G.terms.length:Int)∨(0≤s∧s < (G.terms.length:Int))∨(s < 0∧-(G.nons.length:Int)≤s):=by
 unfold Gr.has at h
 split at h
 · rename_i h0
   exact .inr (.inl ⟨h0,of_decide_eq_true h⟩)
 · have:=of_decide_eq_true h
   exact .inr (.inr ⟨by omega,by omega⟩)
theorem tr_Same (h k:GH) (A B:Gr) (w:World) (T:GrAt w h A) (U:GrAt w k B) :
 Calls Tryz.prog 85 #[GV h A.start,GV k B.start] w fun e w'=>e = .returned (.bool (eqG A B))∧Below w.heap.size w w':=by
 obtain ⟨a1,n1,c1,a2,n2,c2,a3,n3,c3⟩:=h
 obtain ⟨j,u,n,l,v,o,m,x,p⟩:=k
 have y:=LH T
 have z:=LH U
 have ad:=GBox.new w 26 ⟨a1,n1,c1,a2,n2,c2,a3,n3,c3⟩ A.start
 have t:=GBox.new (w.alloc (.cells #[.slice a1 n1 c1, .slice a2 n2 c2, .slice a3 n3 c3, .int .i64 A.start] 26)) 26 ⟨j,u,n,l,v,o,m,x,p⟩ B.start
 have X:=alloc_below w (.cells #[.slice a1 n1 c1, .slice a2 n2 c2, .slice a3 n3 c3, .int .i64 A.start] 26)
 have M:=alloc_below (w.alloc (.cells #[.slice a1 n1 c1, .slice a2 n2 c2, .slice a3 n3 c3, .int .i64 A.start] 26)) (.cells #[.slice j u n, .slice l v o, .slice m x p, .int .i64 B.start] 26)
 have ab:(w.alloc (.cells #[.slice a1 n1 c1, .slice a2 n2 c2, .slice a3 n3 c3, .int .i64 A.start] 26)).heap.size=w.heap.size+1:=alloc_size _ _
 have L:=ad.below M
 have V:=below_tail X M
 clear T U ad X M
 go_enter Tryz.func85,Tryz.ntmps85
 go_upto_region 1 with fail
 generalize (w.alloc (.cells #[.slice a1 n1 c1, .slice a2 n2 c2, .slice a3 n3 c3, .int .i64 A.start] 26)).alloc (.cells #[.slice j u n, .slice l v o, .slice m x p, .int .i64 B.start] 26)=W at *
 rw [ab] at t
 have R:=LH L
 have S:=LH t
 have f:=LH V
 have ⟨y5,y0,y1,y2,y3⟩:=L
 simp only [] at y0 y1 y2 y3
 have ⟨z5,z0,z1,z2,z3⟩:=t
 simp only [] at z0 z1 z2 z3
 clear L t ab V
 have g:Hid (A ≠ B→eqG A B=false):=LH fun h=>eqG_no h
 have N:=LH (tr_EqualT a1 n1 c1 A.terms j u n B.terms W (y.out.below f.out).terms (z.out.below f.out).terms)
 go_wp2_with fail
 (with_reducible refine N.out.mono ?_)
 rintro e W2 ⟨q1,rfl,Y,q⟩
 have H:=LH Y
 have c:=LH (below_tail f.out q)
 have D:=LH (R.out.below q)
 have F:=LH (S.out.below q)
 clear y0 y1 y2 y3 y5 z0 z1 z2 z3 z5 Y q N R S f
 have ⟨y5,y0,y1,y2,y3⟩:=D.out
 simp only [] at y0 y1 y2 y3
 have ⟨z5,z0,z1,z2,z3⟩:=F.out
 simp only [] at z0 z1 z2 z3
 cases q1
 case false =>
  have a:Hid (eqG A B=false):=LH (g.out fun e=>by have:=H.out.2 (by rw [e]);cases this)
  go_wp2_with fail
  go_ret
  exact ⟨by rw [a.out];rfl,c.out⟩
 have H1:Hid (A.terms=B.terms):=LH (H.out.1 rfl)
 have O:=LH (tr_EqualS a2 n2 c2 A.nons l v o B.nons W2 (y.out.below c.out).nons (z.out.below c.out).nons)
 clear H
 go_wp2_with fail
 (with_reducible refine O.out.mono ?_)
 rintro e W3 ⟨q2,rfl,Z,r⟩
 have I:=LH Z
 have d:=LH (below_tail c.out r)
 have E:=LH (D.out.below r)
 have G:=LH (F.out.below r)
 clear y0 y1 y2 y3 y5 z0 z1 z2 z3 z5 Z r O D F c
 have ⟨y5,y0,y1,y2,y3⟩:=E.out
 simp only [] at y0 y1 y2 y3
 have ⟨z5,z0,z1,z2,z3⟩:=G.out
 simp only [] at z0 z1 z2 z3
 cases q2
 case false =>
  have a:Hid (eqG A B=false):=LH (g.out fun e=>by have:=I.out.2 (by rw [e]);cases this)
  go_wp2_with fail
  go_ret
  exact ⟨by rw [a.out];rfl,d.out⟩
 have H2:Hid (A.nons=B.nons):=LH (I.out.1 rfl)
 have P:=LH (tr_EqualF a3 n3 c3 A.rules m x p B.rules W3 (y.out.below d.out).rules (z.out.below d.out).rules)
 clear I
 go_wp2_with fail
 (with_reducible refine P.out.mono ?_)
 rintro e W4 ⟨q3,rfl,aa,s⟩
 have J:=LH aa
 have C:=LH (below_tail d.out s)
 have ah:=LH (E.out.below s)
 have ai:=LH (G.out.below s)
 clear y0 y1 y2 y3 y5 z0 z1 z2 z3 z5 aa s P E G d
 have ⟨y5,y0,y1,y2,y3⟩:=ah.out
 simp only [] at y0 y1 y2 y3
 have ⟨z5,z0,z1,z2,z3⟩:=ai.out
 simp only [] at z0 z1 z2 z3
 cases q3
 case false =>
  have a:Hid (eqG A B=false):=LH (g.out fun e=>by have:=J.out.2 (by rw [e]);cases this)
  go_wp2_with fail
  go_ret
  exact ⟨by rw [a.out];rfl,C.out⟩
 have H3:Hid (A.rules=B.rules):=LH (J.out.1 rfl)
 clear J
 by_cases b:A.start=B.start
 case neg =>
  have i4:(A.start == B.start)=false:=by rw [beq_eq_false_iff_ne];exact b
  have a:Hid (eqG A B=false):=LH (g.out fun e=>b (by rw [e]))
  clear b
  go_wp2_with fail
  go_ret
  exact ⟨by rw [a.out];rfl,C.out⟩
 have i4:(A.start == B.start)=true:=by rw [beq_iff_eq];exact b
 have a:Hid (eqG A B=true):=LH (eqG_yes H1.out H2.out H3.out b)
 clear b
 go_wp2_with fail
 go_ret
 exact ⟨by rw [a.out];rfl,C.out⟩
theorem tr_Is (h:GH) (G:Gr) (w:World) (E:GrAt w h G) (M:∀ t ∈ G.terms,t.name.size≤maxLen) (h1:h.n1≤100) (z:h.n2≤100) (A:h.n3≤100) :
 Calls Tryz.prog 42 #[GV h G.start] w fun e w'=>e = .returned (.bool (isRed G))∧Below w.heap.size w w':=by
 obtain ⟨a1,n1,c1,a2,n2,c2,a3,n3,c3⟩:=h
 simp only [] at h1 z A
 have x:=LH E
 have R:=LH M
 have u:=alloc_below w (.cells #[.slice a1 n1 c1, .slice a2 n2 c2, .slice a3 n3 c3, .int .i64 G.start] 26)
 have o:=GBox.new w 26 ⟨a1,n1,c1,a2,n2,c2,a3,n3,c3⟩ G.start
 clear E M
 go_enter Tryz.func42,Tryz.ntmps42
 have ⟨z5,z0,z1,z2,z3⟩:=o
 simp only [] at z0 z1 z2 z3
 go_wp2_with fail
 generalize w.alloc (.cells #[.slice a1 n1 c1, .slice a2 n2 c2, .slice a3 n3 c3, .int .i64 G.start] 26)=S at *
 have g:=tr_Reduce ⟨a1,n1,c1,a2,n2,c2,a3,n3,c3⟩ G S (x.out.below u) R.out h1 z A
 unfold RetRed at g
 (with_reducible refine g.mono ?_)
 rintro e a ⟨n,⟨J,U,X,rfl⟩ | ⟨L,V,Ak,nk,ck,rfl,F,Y,Z,m3⟩⟩
 · have b:=below_tail u n
   have p:isRed G=false:=by unfold isRed;rw [J];rfl
   have af:(U == 0)=false:=by rw [beq_eq_false_iff_ne];exact X
   clear g J z0 z1 z2 z3 z5 o
   go_wp2_with fail
   go_ret
   exact ⟨by rw [p];rfl,b.trans ((alloc_below a _).mono b.size)⟩
 have b:=below_tail u n
 have B:=o.below n
 obtain ⟨c,q,j,d,r,k,f,s,l⟩:=V
 have p:isRed G=eqG G (redG G):=by unfold isRed;rw [L];rfl
 generalize redG G=H at *
 clear g z0 z1 z2 z3 z5 o L
 have m:=alloc_below a (.cells #[.slice c q j, .slice d r k, .slice f s l, .int .i64 H.start] 26)
 have D:=GBox.new a 26 ⟨c,q,j,d,r,k,f,s,l⟩ H.start
 have C:=B.below m
 have v:=below_tail b m
 have I:=F.below m
 go_upto_region 2 with fail
 generalize a.alloc (.cells #[.slice c q j, .slice d r k, .slice f s l, .int .i64 H.start] 26)=T at *
 generalize a.heap.size=gH at *
 have y:=tr_Same ⟨a1,n1,c1,a2,n2,c2,a3,n3,c3⟩ ⟨c,q,j,d,r,k,f,s,l⟩ G H T (x.out.below v) I
 have N:=LH y
 have P:=LH p
 have O:=LH v
 have ⟨y5,y0,y1,y2,y3⟩:=C
 simp only [] at y0 y1 y2 y3
 have ⟨x5,x0,x1,x2,x3⟩:=D
 simp only [] at x0 x1 x2 x3
 clear y p v C D I m n b B F Y Z m3
 go_wp2_with (go_at_call 85;(with_reducible refine N.out.mono ?_);rintro e w6 ⟨rfl,W⟩)
 go_ret
 exact ⟨by rw [P.out];rfl,below_tail O.out W⟩
theorem enters_bare:∀ args w,(callFunc 147 args).run Tryz.prog w = .ok (.enter 147 args) w:=enters_of Tryz.func147 (by kernel_rfl) rfl
theorem sb_list {n:Nat}:∀ (ss:List Int),(∀ s ∈ ss,-(n:Int)≤s∧s≤1000)→∃ ds:List (Sb n),ds.map (fun s=>s.1)=ss
 | [],_=>⟨[],rfl⟩
 | s::ss,h=>by
   obtain ⟨ds,hd⟩:=sb_list ss fun s a=>h s (List.mem_cons_of_mem _ a)
   exact ⟨⟨s,h s (List.mem_cons_self ..)⟩::ds,by rw [List.map_cons,hd]⟩
theorem bare_map {n:Nat} (N:List Bool) (ds:List (Sb n)):(ds.filter fun x=>!nulB N x.1).map (fun s=>s.1)=bareL N (ds.map fun s=>s.1):=by
 unfold bareL
 rw [List.filter_map]
 rfl
theorem tr_Del_nil (b:Value) (w:World):Calls Tryz.prog 146 #[.slice none 0 0,b] w fun e w'=>e = .returned (.slice none 0 0)∧w=w':=by
 have a:=Tryz.slices_IndexFunc_empty_f86 (α:=Int) none 0 b w
 have c:=LH a
 clear a
 go_enter Tryz.func146,Tryz.ntmps146
 go_wp2_with (go_at_call 86;(with_reducible refine c.out.mono ?_);rintro e w' ⟨rfl,rfl⟩)
 go_ret
 exact ⟨rfl,rfl⟩
open Go.Lib Go.Sort in
theorem tr_Del (B f g a n:Nat) (N:List Bool) (ss:List Int) (v:Value) (w:World) (O:w.ownsRow B 3 1 v n (ints .i64 ss)) (z:BareW w f g a N) (W:f < B) (U:g < B) (C:B≤w.heap.size) (y:a≤1000) (P:∀ s ∈ ss,-(a:Int)≤s∧s≤1000) :
 Calls Tryz.prog 146 #[v, .func (.func 147) #[] #[.pointer (some ⟨f,0,none⟩)]] w fun e w'=>(∃ A c,e = .returned (.slice A (bareL N ss).length c)∧Ints .i64 w' A (bareL N ss).length c (bareL N ss))∧Below B w w':=by
 obtain ⟨r,⟨rfl,rfl⟩ | ⟨b,cap,o,rfl,E,I,T,u,X,S⟩⟩:=O
 · have R:ss=[]:=by
    rw [ints_length] at r
    exact List.length_eq_zero_iff.1 (by omega)
   subst R
   refine (tr_Del_nil _ w).mono ?_
   rintro e w' ⟨rfl,rfl⟩
   exact ⟨⟨none,0,rfl,Ints.nil _ _ _ _ (by decide)⟩,Below.refl _ _⟩
 · obtain ⟨ds,l⟩:=sb_list ss P
   have h:Blk w b 3 o:=I
   have t:ds.length=n:=by
    rw [ints_length] at r
    rw [← List.length_map (fun s:Sb a=>s.1),l]
    omega
   have p:Holds (encB a) w b 0 ds.toArray:=fun j d=>by
    have J:j < ds.length:=by simpa using d
    refine ⟨?_,Blk.frozen h _⟩
    rw [Nat.zero_add,Blk.cell h j]
    have h1:o[j]? = (ints .i64 ss)[j]? := by
     rw [← S,Nat.mul_one,List.getElem?_take_of_lt (by omega),Array.getElem?_toList]
    rw [h1,← l]
    rw [getElem!_pos ds.toArray j d]
    simp [ints,encB,J]
   have M:ds.toArray.size=n:=by simpa using t
   have m:=bare_map N ds
   rw [l] at m
   have k:=Tryz.slices_DeleteFunc (encB a) (fun _=>rfl) (fun s=>nulB N s.1) 147 #[.pointer (some ⟨f,0,none⟩)] enters_bare (⟨0,by omega,by omega⟩:Sb a) (fun w=>by kernel_rfl) b 0 cap ds.toArray w
    (pred_bare z (by omega) (by omega) y) (over_bare z (by omega) (by omega) y 0 ds.toArray.size (by omega) (by omega)) p (by simp [maxLen] at u;omega) (by omega)
   rw [M] at k
   refine k.mono ?_
   clear k
   have D:(bareL N ss).length=(ds.filter fun x=>!nulB N x.1).length:=by rw [← m,List.length_map]
   have V:(ds.filter fun x=>!nulB N x.1).length≤n:=by rw [← t];exact List.length_filter_le _ _
   have G:=h.lt
   simp only [List.toList_toArray]
   rw [D,← m]
   generalize (ds.filter fun x=>!nulB N x.1)=F at *
   rintro e w' ⟨rfl,q,rfl⟩
   refine ⟨⟨_,_,rfl,?_⟩,grown_is_below (put_grown w q b 0 _) C E⟩
   have H:=holds_putRow (encB a) (Sort.ahead w q) b 0 ds.toArray (F++List.replicate (n - F.length) (⟨0,by omega,by omega⟩:Sb a)).toArray p (by simp;omega)
   refine ⟨by simp [ints],by omega,by simp [maxLen] at u;omega,fun _=>⟨b,0,rfl,by simpa using G,fun j d=>?_⟩⟩
   have L:j < F.length:=by simpa [ints] using d
   rw [(H j (by simp;omega)).1]
   rw [getElem!_pos _ j (by simp;omega)]
   simp [ints,encB,L]
def StepsSaid:Prop:=∀ (h:GH) (G:Gr) (w:World),GrAt w h G→(∀ t ∈ G.terms,t.name.size≤maxLen)→h.n1≤100→h.n2≤100→h.n3≤100 →
    Calls Tryz.prog 88 #[GV h G.start] w fun e w'=>Below w.heap.size w w' ∧
     ((G.right=false∧e = .returned (.slice none 0 0))∨(G.right=true∧∃ g,w.heap.size≤g∧e = .returned (.slice (some ⟨g,0,none⟩) h.n2 h.n2)∧SetT w' g (stepsN G)))
theorem and_one (c:Nat) (d:c < 4294967296) (j:Nat):c &&& bitN (j:Int)=if c.testBit j then bitN (j:Int) else 0:=by
 apply Nat.eq_of_testBit_eq
 intro t
 rw [Nat.testBit_and]
 cases b:c.testBit j
 · rw [if_neg (by decide),Nat.zero_testBit,bitN_test]
   by_cases a:t=j
   · subst a;simp [b]
   · simp [a]
 · rw [if_pos rfl,bitN_test]
   by_cases a:t=j
   · subst a;simp [b]
   · simp [a]
theorem tr_Cycles (l:StepsSaid) (h:GH) (G:Gr) (w:World) (d:GrAt w h G) (C:∀ t ∈ G.terms,t.name.size≤maxLen) (u:TabAt w) (h1:h.n1≤100) (h2:h.n2≤100) (h3:h.n3≤100) :
 Calls Tryz.prog 47 #[GV h G.start] w fun e w'=>Below w.heap.size w w'∧e = .returned (.int .u32 ((cycG G:Nat):Int)):=by
 obtain ⟨a1,n1,c1,a2,n2,c2,a3,n3,c3⟩:=h
 have q:G.nons.length=n2:=d.nons.len
 have k2:=d.nons.cap
 simp only [] at h1 h2 h3 k2
 have N:=LH u
 unfold StepsSaid at l
 have L:=LH l
 have k:=alloc_below w (.cells #[.slice a1 n1 c1, .slice a2 n2 c2, .slice a3 n3 c3, .int .i64 G.start] 26)
 have A:=GBox.new w 26 ⟨a1,n1,c1,a2,n2,c2,a3,n3,c3⟩ G.start
 have P:=LH d
 have U:=LH C
 clear d C u l
 go_enter Tryz.func47,Tryz.ntmps47
 have ⟨z5,z0,z1,z2,z3⟩:=A
 simp only [] at z0 z1 z2 z3
 go_wp2_with fail
 generalize w.alloc (.cells #[.slice a1 n1 c1, .slice a2 n2 c2, .slice a3 n3 c3, .int .i64 G.start] 26)=Z at *
 (with_reducible refine (L.out ⟨a1,n1,c1,a2,n2,c2,a3,n3,c3⟩ G Z (P.out.below k) U.out (by simp only [];omega) (by simp only [];omega) (by simp only [];omega)).mono ?_)
 rintro e p ⟨y,aj⟩
 have f:=LH (below_tail k y)
 clear z0 z1 z2 z3 z5 A k y
 rcases aj with ⟨a,rfl⟩ | ⟨a,gS,ag,rfl,r⟩
 · have g:Hid (cycG G=0):=LH (by unfold cycG;rw [a];rfl)
   clear a
   go_wp2_with fail
   go_loop [2,9] (fun s i=>s = .int .u32 0∧i = .int .i64 0) (fun s i=>0)
   case atStart=>exact ⟨rfl,rfl⟩
   case round =>
    obtain ⟨rfl,rfl⟩:=hrel
    go_wp2_with fail
    go_ret
    exact ⟨f.out,by rw [g.out];rfl⟩
 · have m:=Gr.fits a
   have T:=m.n2.2
   rw [q] at T
   have B:=stepsN_in G m
   have n:(stepsN G).length=n2:=by rw [stepsN_len];exact q
   have o:=stepsN_small G
   have g:Hid (cycG G=setB (fun i=>comesTo (stepsN G) i i) n2):=LH (by unfold cycG cycS;rw [a,n];rfl)
   have M:=LH r
   generalize stepsN G=S at *
   have R:=LH B
   have W:=LH n
   have Y:=LH o
   have O:=LH (closeS_small o)
   clear m a r ag o B n
   go_wp2_with fail
   go_loopw [2,9] (fun s i wr=>∃ j:Nat,j≤n2∧i = .int .i64 (j:Int)∧s = .int .u32 ((setB (fun i=>comesTo S i i) j:Nat):Int)∧Hid (Below p.heap.size p wr)) (fun s i _=>n2 - (intOf i).toNat)
   case atStart=>exact ⟨0,Nat.zero_le _,rfl,rfl,LH (Below.refl _ _)⟩
   case round =>
    obtain ⟨j,hj,rfl,rfl,b⟩:=hrel
    by_cases ah:j < n2
    case neg =>
     obtain rfl:j=n2:=by omega
     go_wp2_with fail
     go_ret
     exact ⟨below_tail f.out b.out,by rw [g.out];rfl⟩
    case pos =>
     have J:=LH (tr_reach gS n2 j S wr (Blk.ext M.out b.out) W.out (by omega) ah Y.out R.out (N.out.below (below_tail f.out b.out)))
     have I:=LH fun X=>tr_one (j:Int) X
     have c:=O.out.get j
     have am:=and32 ((closeS S).getD j 0) (bitN (j:Int)) c (bitN_lt _)
     have x:=and_one _ c j
     have H:((closeS S).getD j 0).testBit j=comesTo S j j:=rfl
     have E:=setB_succ (fun i=>comesTo S i i) j
     have ai:=or32 (setB (fun i=>comesTo S i i) j) ((closeS S).getD j 0 &&& bitN (j:Int)) (setB_lt _ _) (Nat.lt_of_le_of_lt Nat.and_le_left c)
     have F:setB (fun i=>comesTo S i i) j ||| ((closeS S).getD j 0 &&& bitN (j:Int))=setB (fun i=>comesTo S i i) (j+1):=by
      rw [E,x,H]
      cases comesTo S j j
      · simp
      · rfl
     rw [F] at ai
     generalize D:setB (fun i=>comesTo S i i) (j+1)=s1 at *
     have V:=LH D
     clear D
     generalize setB (fun i=>comesTo S i i) j=s0 at *
     generalize (closeS S).getD j 0 &&& bitN (j:Int)=z at *
     generalize (closeS S).getD j 0=v at *
     generalize bitN (j:Int)=bj at *
     clear x H E F c
     go_wp2_with (first
      | (go_at_call 89;(with_reducible refine J.out.mono ?_);rintro e w2 ⟨rfl,ae⟩)
      | (go_at_call 90;(with_reducible refine (I.out _).mono ?_);rintro e w3 ⟨rfl,af⟩))
     go_roundw
     case rel=>exact ⟨j+1,by omega,by go_num,by rw [V.out],LH (below_tail (below_tail b.out ae) af)⟩
     case measure=>simp [intOf];omega
end Go.Proofs.YtggbjdmpjidhgaaGreatDoor
