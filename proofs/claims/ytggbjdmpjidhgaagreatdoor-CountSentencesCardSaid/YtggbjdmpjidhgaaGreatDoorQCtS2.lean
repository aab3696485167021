/- counts: the reference's Is and Of, walked. -/
import Derived.Test.YtggbjdmpjidhgaaGreatDoorQCtS1
import Derived.Test.YtggbjdmpjidhgaaGreatDoorQCyR2
import Derived.Test.YtggbjdmpjidhgaaGreatDoorQCtP4
import Derived.Test.YtggbjdmpjidhgaaGreatDoorQCtW3
import Derived.Test.YtggbjdmpjidhgaaGreatDoorQCtW2
import Derived.Test.YtggbjdmpjidhgaaGreatDoorQCyW9
set_option linter.unusedVariables false
set_option linter.unusedSimpArgs false
set_option maxHeartbeats 8000000
set_option maxRecDepth 100000
namespace Go.Proofs.YtggbjdmpjidhgaaGreatDoor
open Go.RowKit
noncomputable def isRed (G:Gr):Bool:=redOK G && eqG G (redG G)
theorem isRed_iff {G:Gr}:isRed G=true ↔ redOK G=true∧redG G=G:=by
 unfold isRed
 rw [Bool.and_eq_true,eqG_iff]
 exact ⟨fun h=>⟨h.1,h.2.symm⟩,fun h=>⟨h.1,h.2.symm⟩⟩
open Classical in
noncomputable def ofN22 (G:Gr) (l:List Int) (n:Int):List Nat × Nat :=
 if isRed G=false∨6 < l.length∨n < 0∨10 < n∨(∃ s ∈ l,G.has s=false) then ([],1)
 else if cycG G ≠ 0 then ([],10) else fitN (forestT (treeN G) l n.toNat)
theorem has_bd {G:Gr} {s:Int} (h:G.has s=true):-(G.nons.length:Int)≤s∧s < (G.terms.length:Int)∨(0≤s∧s < (G.terms.length:Int))∨(s < 0∧-(G.nons.length:Int)≤s):=by
 unfold Gr.has at h
 split at h
 · rename_i h0
   exact .inr (.inl ⟨h0,of_decide_eq_true h⟩)
 · have:=of_decide_eq_true h
   exact .inr (.inr ⟨by omega,by omega⟩)
theorem tr_Same (h k:GH) (A B:Gr) (w:World) (hA:GrAt w h A) (hB:GrAt w k B) :
 Calls Tryz.prog 85 #[GV h A.start,GV k B.start] w fun e w'=>e = .returned (.bool (eqG A B))∧Below w.heap.size w w':=by
 obtain ⟨a1,n1,c1,a2,n2,c2,a3,n3,c3⟩:=h
 obtain ⟨b1,m1,d1,b2,m2,d2,b3,m3,d3⟩:=k
 have HA:=LH hA
 have HB:=LH hB
 have hx1:=GBox.new w 26 ⟨a1,n1,c1,a2,n2,c2,a3,n3,c3⟩ A.start
 have hx2:=GBox.new (w.alloc (.cells #[.slice a1 n1 c1, .slice a2 n2 c2, .slice a3 n3 c3, .int .i64 A.start] 26)) 26 ⟨b1,m1,d1,b2,m2,d2,b3,m3,d3⟩ B.start
 have hl1:=alloc_below w (.cells #[.slice a1 n1 c1, .slice a2 n2 c2, .slice a3 n3 c3, .int .i64 A.start] 26)
 have hl2:=alloc_below (w.alloc (.cells #[.slice a1 n1 c1, .slice a2 n2 c2, .slice a3 n3 c3, .int .i64 A.start] 26)) (.cells #[.slice b1 m1 d1, .slice b2 m2 d2, .slice b3 m3 d3, .int .i64 B.start] 26)
 have hsz:(w.alloc (.cells #[.slice a1 n1 c1, .slice a2 n2 c2, .slice a3 n3 c3, .int .i64 A.start] 26)).heap.size=w.heap.size+1:=alloc_size _ _
 have hbx1:=hx1.below hl2
 have hW:=below_tail hl1 hl2
 clear hA hB hx1 hl1 hl2
 go_enter Tryz.func85,Tryz.ntmps85
 go_upto_region 1 with fail
 generalize (w.alloc (.cells #[.slice a1 n1 c1, .slice a2 n2 c2, .slice a3 n3 c3, .int .i64 A.start] 26)).alloc (.cells #[.slice b1 m1 d1, .slice b2 m2 d2, .slice b3 m3 d3, .int .i64 B.start] 26)=W at *
 rw [hsz] at hx2
 have HX1:=LH hbx1
 have HX2:=LH hx2
 have HW:=LH hW
 have ⟨y5,y0,y1,y2,y3⟩:=hbx1
 simp only [] at y0 y1 y2 y3
 have ⟨z5,z0,z1,z2,z3⟩:=hx2
 simp only [] at z0 z1 z2 z3
 clear hbx1 hx2 hsz hW
 have Hno:Hid (A ≠ B→eqG A B=false):=LH fun h=>eqG_no h
 have C1:=LH (tr_EqualT a1 n1 c1 A.terms b1 m1 d1 B.terms W (HA.out.below HW.out).terms (HB.out.below HW.out).terms)
 go_wp2_with fail
 (with_reducible refine C1.out.mono ?_)
 rintro e W2 ⟨q1,rfl,hq1,hb2⟩
 have Hq1:=LH hq1
 have HW2:=LH (below_tail HW.out hb2)
 have HX1b:=LH (HX1.out.below hb2)
 have HX2b:=LH (HX2.out.below hb2)
 clear y0 y1 y2 y3 y5 z0 z1 z2 z3 z5 hq1 hb2 C1 HX1 HX2 HW
 have ⟨y5,y0,y1,y2,y3⟩:=HX1b.out
 simp only [] at y0 y1 y2 y3
 have ⟨z5,z0,z1,z2,z3⟩:=HX2b.out
 simp only [] at z0 z1 z2 z3
 cases q1
 case false =>
  have Hf:Hid (eqG A B=false):=LH (Hno.out fun e=>by have:=Hq1.out.2 (by rw [e]);cases this)
  go_wp2_with fail
  go_ret
  exact ⟨by rw [Hf.out];rfl,HW2.out⟩
 have H1:Hid (A.terms=B.terms):=LH (Hq1.out.1 rfl)
 have C2:=LH (tr_EqualS a2 n2 c2 A.nons b2 m2 d2 B.nons W2 (HA.out.below HW2.out).nons (HB.out.below HW2.out).nons)
 clear Hq1
 go_wp2_with fail
 (with_reducible refine C2.out.mono ?_)
 rintro e W3 ⟨q2,rfl,hq2,hb3⟩
 have Hq2:=LH hq2
 have HW3:=LH (below_tail HW2.out hb3)
 have HX1c:=LH (HX1b.out.below hb3)
 have HX2c:=LH (HX2b.out.below hb3)
 clear y0 y1 y2 y3 y5 z0 z1 z2 z3 z5 hq2 hb3 C2 HX1b HX2b HW2
 have ⟨y5,y0,y1,y2,y3⟩:=HX1c.out
 simp only [] at y0 y1 y2 y3
 have ⟨z5,z0,z1,z2,z3⟩:=HX2c.out
 simp only [] at z0 z1 z2 z3
 cases q2
 case false =>
  have Hf:Hid (eqG A B=false):=LH (Hno.out fun e=>by have:=Hq2.out.2 (by rw [e]);cases this)
  go_wp2_with fail
  go_ret
  exact ⟨by rw [Hf.out];rfl,HW3.out⟩
 have H2:Hid (A.nons=B.nons):=LH (Hq2.out.1 rfl)
 have C3:=LH (tr_EqualF a3 n3 c3 A.rules b3 m3 d3 B.rules W3 (HA.out.below HW3.out).rules (HB.out.below HW3.out).rules)
 clear Hq2
 go_wp2_with fail
 (with_reducible refine C3.out.mono ?_)
 rintro e W4 ⟨q3,rfl,hq3,hb4⟩
 have Hq3:=LH hq3
 have HW4:=LH (below_tail HW3.out hb4)
 have HX1d:=LH (HX1c.out.below hb4)
 have HX2d:=LH (HX2c.out.below hb4)
 clear y0 y1 y2 y3 y5 z0 z1 z2 z3 z5 hq3 hb4 C3 HX1c HX2c HW3
 have ⟨y5,y0,y1,y2,y3⟩:=HX1d.out
 simp only [] at y0 y1 y2 y3
 have ⟨z5,z0,z1,z2,z3⟩:=HX2d.out
 simp only [] at z0 z1 z2 z3
 cases q3
 case false =>
  have Hf:Hid (eqG A B=false):=LH (Hno.out fun e=>by have:=Hq3.out.2 (by rw [e]);cases this)
  go_wp2_with fail
  go_ret
  exact ⟨by rw [Hf.out];rfl,HW4.out⟩
 have H3:Hid (A.rules=B.rules):=LH (Hq3.out.1 rfl)
 clear Hq3
 by_cases q4:A.start=B.start
 case neg =>
  have i4:(A.start == B.start)=false:=by rw [beq_eq_false_iff_ne];exact q4
  have Hf:Hid (eqG A B=false):=LH (Hno.out fun e=>q4 (by rw [e]))
  clear q4
  go_wp2_with fail
  go_ret
  exact ⟨by rw [Hf.out];rfl,HW4.out⟩
 have i4:(A.start == B.start)=true:=by rw [beq_iff_eq];exact q4
 have Hf:Hid (eqG A B=true):=LH (eqG_yes H1.out H2.out H3.out q4)
 clear q4
 go_wp2_with fail
 go_ret
 exact ⟨by rw [Hf.out];rfl,HW4.out⟩
theorem tr_Is (h:GH) (G:Gr) (w:World) (hg:GrAt w h G) (hs:∀ t ∈ G.terms,t.name.size≤maxLen) (h1:h.n1≤100) (h2:h.n2≤100) (h3:h.n3≤100) :
 Calls Tryz.prog 42 #[GV h G.start] w fun e w'=>e = .returned (.bool (isRed G))∧Below w.heap.size w w':=by
 obtain ⟨a1,n1,c1,a2,n2,c2,a3,n3,c3⟩:=h
 simp only [] at h1 h2 h3
 have Hg:=LH hg
 have Hs:=LH hs
 have hB0:=alloc_below w (.cells #[.slice a1 n1 c1, .slice a2 n2 c2, .slice a3 n3 c3, .int .i64 G.start] 26)
 have hbox:=GBox.new w 26 ⟨a1,n1,c1,a2,n2,c2,a3,n3,c3⟩ G.start
 clear hg hs
 go_enter Tryz.func42,Tryz.ntmps42
 have ⟨z5,z0,z1,z2,z3⟩:=hbox
 simp only [] at z0 z1 z2 z3
 go_wp2_with fail
 generalize w.alloc (.cells #[.slice a1 n1 c1, .slice a2 n2 c2, .slice a3 n3 c3, .int .i64 G.start] 26)=W0 at *
 have cR:=tr_Reduce ⟨a1,n1,c1,a2,n2,c2,a3,n3,c3⟩ G W0 (Hg.out.below hB0) Hs.out h1 h2 h3
 unfold RetRed at cR
 (with_reducible refine cR.mono ?_)
 rintro e W1 ⟨hb1,⟨hno,er,her,rfl⟩ | ⟨hok,h',Ak,nk,ck,rfl,hg',m1,m2,m3⟩⟩
 · have hB1:=below_tail hB0 hb1
   have hf:isRed G=false:=by unfold isRed;rw [hno];rfl
   have hne:(er == 0)=false:=by rw [beq_eq_false_iff_ne];exact her
   clear cR hno z0 z1 z2 z3 z5 hbox
   go_wp2_with fail
   go_ret
   exact ⟨by rw [hf];rfl,hB1.trans ((alloc_below W1 _).mono hB1.size)⟩
 have hB1:=below_tail hB0 hb1
 have hbx1:=hbox.below hb1
 obtain ⟨b1,k1,d1,b2,k2,d2,b3,k3,d3⟩:=h'
 have hf:isRed G=eqG G (redG G):=by unfold isRed;rw [hok];rfl
 generalize redG G=H at *
 clear cR z0 z1 z2 z3 z5 hbox hok
 have hal:=alloc_below W1 (.cells #[.slice b1 k1 d1, .slice b2 k2 d2, .slice b3 k3 d3, .int .i64 H.start] 26)
 have hbxH:=GBox.new W1 26 ⟨b1,k1,d1,b2,k2,d2,b3,k3,d3⟩ H.start
 have hbx4:=hbx1.below hal
 have hB4:=below_tail hB1 hal
 have hg4:=hg'.below hal
 go_upto_region 2 with fail
 generalize W1.alloc (.cells #[.slice b1 k1 d1, .slice b2 k2 d2, .slice b3 k3 d3, .int .i64 H.start] 26)=W4 at *
 generalize W1.heap.size=gH at *
 have cS:=tr_Same ⟨a1,n1,c1,a2,n2,c2,a3,n3,c3⟩ ⟨b1,k1,d1,b2,k2,d2,b3,k3,d3⟩ G H W4 (Hg.out.below hB4) hg4
 have CS:=LH cS
 have Hf:=LH hf
 have HB4:=LH hB4
 have ⟨y5,y0,y1,y2,y3⟩:=hbx4
 simp only [] at y0 y1 y2 y3
 have ⟨x5,x0,x1,x2,x3⟩:=hbxH
 simp only [] at x0 x1 x2 x3
 clear cS hf hB4 hbx4 hbxH hg4 hal hb1 hB1 hbx1 hg' m1 m2 m3
 go_wp2_with (go_at_call 85;(with_reducible refine CS.out.mono ?_);rintro e w6 ⟨rfl,hb6⟩)
 go_ret
 exact ⟨by rw [Hf.out];rfl,below_tail HB4.out hb6⟩
theorem enters_bare:∀ args w,(callFunc 147 args).run Tryz.prog w = .ok (.enter 147 args) w:=enters_of Tryz.func147 (by kernel_rfl) rfl
theorem sb_list {n:Nat}:∀ (ss:List Int),(∀ s ∈ ss,-(n:Int)≤s∧s≤1000)→∃ ds:List (Sb n),ds.map (fun s=>s.1)=ss
 | [],_=>⟨[],rfl⟩
 | s::ss,h=>by
   obtain ⟨ds,hd⟩:=sb_list ss fun s hs=>h s (List.mem_cons_of_mem _ hs)
   exact ⟨⟨s,h s (List.mem_cons_self ..)⟩::ds,by rw [List.map_cons,hd]⟩
theorem bare_map {n:Nat} (N:List Bool) (ds:List (Sb n)):(ds.filter fun x=>!nulB N x.1).map (fun s=>s.1)=bareL N (ds.map fun s=>s.1):=by
 unfold bareL
 rw [List.filter_map]
 rfl
theorem tr_Del_nil (fv:Value) (w:World):Calls Tryz.prog 146 #[.slice none 0 0,fv] w fun e w'=>e = .returned (.slice none 0 0)∧w=w':=by
 have cI:=Tryz.slices_IndexFunc_empty_f86 (α:=Int) none 0 fv w
 have CI:=LH cI
 clear cI
 go_enter Tryz.func146,Tryz.ntmps146
 go_wp2_with (go_at_call 86;(with_reducible refine CI.out.mono ?_);rintro e w' ⟨rfl,rfl⟩)
 go_ret
 exact ⟨rfl,rfl⟩
open Go.Lib Go.Sort in
theorem tr_Del (B pb g nn n:Nat) (N:List Bool) (ss:List Int) (v:Value) (w:World) (hown:w.ownsRow B 3 1 v n (ints .i64 ss)) (hw:BareW w pb g nn N) (hp:pb < B) (hg:g < B) (hB:B≤w.heap.size) (hnn:nn≤1000) (hs:∀ s ∈ ss,-(nn:Int)≤s∧s≤1000) :
 Calls Tryz.prog 146 #[v, .func (.func 147) #[] #[.pointer (some ⟨pb,0,none⟩)]] w fun e w'=>(∃ A c,e = .returned (.slice A (bareL N ss).length c)∧Ints .i64 w' A (bareL N ss).length c (bareL N ss))∧Below B w w':=by
 obtain ⟨hlen,⟨rfl,rfl⟩ | ⟨g',cap,cur,rfl,hg',hheap,hcap,hmax,hsz,htake⟩⟩:=hown
 · have hss:ss=[]:=by
    rw [ints_length] at hlen
    exact List.length_eq_zero_iff.1 (by omega)
   subst hss
   refine (tr_Del_nil _ w).mono ?_
   rintro e w' ⟨rfl,rfl⟩
   exact ⟨⟨none,0,rfl,Ints.nil _ _ _ _ (by decide)⟩,Below.refl _ _⟩
 · obtain ⟨ds,hds⟩:=sb_list ss hs
   have hblk:Blk w g' 3 cur:=hheap
   have hln:ds.length=n:=by
    rw [ints_length] at hlen
    rw [← List.length_map (fun s:Sb nn=>s.1),hds]
    omega
   have hH:Holds (encB nn) w g' 0 ds.toArray:=fun j hj=>by
    have hj':j < ds.length:=by simpa using hj
    refine ⟨?_,Blk.frozen hblk _⟩
    rw [Nat.zero_add,Blk.cell hblk j]
    have h1:cur[j]? = (ints .i64 ss)[j]? := by
     rw [← htake,Nat.mul_one,List.getElem?_take_of_lt (by omega),Array.getElem?_toList]
    rw [h1,← hds]
    rw [getElem!_pos ds.toArray j hj]
    simp [ints,encB,hj']
   have hn':ds.toArray.size=n:=by simpa using hln
   have hfil:=bare_map N ds
   rw [hds] at hfil
   have hc:=Tryz.slices_DeleteFunc (encB nn) (fun _=>rfl) (fun s=>nulB N s.1) 147 #[.pointer (some ⟨pb,0,none⟩)] enters_bare (⟨0,by omega,by omega⟩:Sb nn) (fun w=>by kernel_rfl) g' 0 cap ds.toArray w
    (pred_bare hw (by omega) (by omega) hnn) (over_bare hw (by omega) (by omega) hnn 0 ds.toArray.size (by omega) (by omega)) hH (by simp [maxLen] at hmax;omega) (by omega)
   rw [hn'] at hc
   refine hc.mono ?_
   clear hc
   have hfl:(bareL N ss).length=(ds.filter fun x=>!nulB N x.1).length:=by rw [← hfil,List.length_map]
   have hle:(ds.filter fun x=>!nulB N x.1).length≤n:=by rw [← hln];exact List.length_filter_le _ _
   have hgl:=hblk.lt
   simp only [List.toList_toArray]
   rw [hfl,← hfil]
   generalize (ds.filter fun x=>!nulB N x.1)=F at *
   rintro e w' ⟨rfl,q,rfl⟩
   refine ⟨⟨_,_,rfl,?_⟩,grown_is_below (put_grown w q g' 0 _) hB hg'⟩
   have hh:=holds_putRow (encB nn) (Sort.ahead w q) g' 0 ds.toArray (F++List.replicate (n - F.length) (⟨0,by omega,by omega⟩:Sb nn)).toArray hH (by simp;omega)
   refine ⟨by simp [ints],by omega,by simp [maxLen] at hmax;omega,fun _=>⟨g',0,rfl,by simpa using hgl,fun j hj=>?_⟩⟩
   have hjF:j < F.length:=by simpa [ints] using hj
   rw [(hh j (by simp;omega)).1]
   rw [getElem!_pos _ j (by simp;omega)]
   simp [ints,encB,hjF]
def StepsSaid:Prop:=∀ (h:GH) (G:Gr) (w:World),GrAt w h G→(∀ t ∈ G.terms,t.name.size≤maxLen)→h.n1≤100→h.n2≤100→h.n3≤100 →
    Calls Tryz.prog 88 #[GV h G.start] w fun e w'=>Below w.heap.size w w' ∧
     ((G.right=false∧e = .returned (.slice none 0 0))∨(G.right=true∧∃ g,w.heap.size≤g∧e = .returned (.slice (some ⟨g,0,none⟩) h.n2 h.n2)∧SetT w' g (stepsN G)))
theorem and_one (c:Nat) (hc:c < 4294967296) (j:Nat):c &&& bitN (j:Int)=if c.testBit j then bitN (j:Int) else 0:=by
 apply Nat.eq_of_testBit_eq
 intro t
 rw [Nat.testBit_and]
 cases hb:c.testBit j
 · rw [if_neg (by decide),Nat.zero_testBit,bitN_test]
   by_cases ht:t=j
   · subst ht;simp [hb]
   · simp [ht]
 · rw [if_pos rfl,bitN_test]
   by_cases ht:t=j
   · subst ht;simp [hb]
   · simp [ht]
theorem tr_Cycles (hS:StepsSaid) (h:GH) (G:Gr) (w:World) (hg:GrAt w h G) (hs:∀ t ∈ G.terms,t.name.size≤maxLen) (hTab:TabAt w) (h1:h.n1≤100) (h2:h.n2≤100) (h3:h.n3≤100) :
 Calls Tryz.prog 47 #[GV h G.start] w fun e w'=>Below w.heap.size w w'∧e = .returned (.int .u32 ((cycG G:Nat):Int)):=by
 obtain ⟨a1,n1,c1,a2,n2,c2,a3,n3,c3⟩:=h
 have e2:G.nons.length=n2:=hg.nons.len
 have k2:=hg.nons.cap
 simp only [] at h1 h2 h3 k2
 have HTab:=LH hTab
 unfold StepsSaid at hS
 have HS:=LH hS
 have hB0:=alloc_below w (.cells #[.slice a1 n1 c1, .slice a2 n2 c2, .slice a3 n3 c3, .int .i64 G.start] 26)
 have hbox:=GBox.new w 26 ⟨a1,n1,c1,a2,n2,c2,a3,n3,c3⟩ G.start
 have Hg:=LH hg
 have Hs:=LH hs
 clear hg hs hTab hS
 go_enter Tryz.func47,Tryz.ntmps47
 have ⟨z5,z0,z1,z2,z3⟩:=hbox
 simp only [] at z0 z1 z2 z3
 go_wp2_with fail
 generalize w.alloc (.cells #[.slice a1 n1 c1, .slice a2 n2 c2, .slice a3 n3 c3, .int .i64 G.start] 26)=W0 at *
 (with_reducible refine (HS.out ⟨a1,n1,c1,a2,n2,c2,a3,n3,c3⟩ G W0 (Hg.out.below hB0) Hs.out (by simp only [];omega) (by simp only [];omega) (by simp only [];omega)).mono ?_)
 rintro e W1 ⟨hb1,hres⟩
 have HB1:=LH (below_tail hB0 hb1)
 clear z0 z1 z2 z3 z5 hbox hB0 hb1
 rcases hres with ⟨hrt,rfl⟩ | ⟨hrt,gS,hgS,rfl,hT⟩
 · have Hz:Hid (cycG G=0):=LH (by unfold cycG;rw [hrt];rfl)
   clear hrt
   go_wp2_with fail
   go_loop [2,9] (fun s i=>s = .int .u32 0∧i = .int .i64 0) (fun s i=>0)
   case atStart=>exact ⟨rfl,rfl⟩
   case round =>
    obtain ⟨rfl,rfl⟩:=hrel
    go_wp2_with fail
    go_ret
    exact ⟨HB1.out,by rw [Hz.out];rfl⟩
 · have hfit:=Gr.fits hrt
   have Hn16:=hfit.n2.2
   rw [e2] at Hn16
   have hin:=stepsN_in G hfit
   have hsl:(stepsN G).length=n2:=by rw [stepsN_len];exact e2
   have hss:=stepsN_small G
   have Hz:Hid (cycG G=setB (fun i=>comesTo (stepsN G) i i) n2):=LH (by unfold cycG cycS;rw [hrt,hsl];rfl)
   have HT:=LH hT
   generalize stepsN G=S at *
   have Hin:=LH hin
   have Hsl:=LH hsl
   have Hss:=LH hss
   have Hcs:=LH (closeS_small hss)
   clear hfit hrt hT hgS hss hin hsl
   go_wp2_with fail
   go_loopw [2,9] (fun s i wr=>∃ j:Nat,j≤n2∧i = .int .i64 (j:Int)∧s = .int .u32 ((setB (fun i=>comesTo S i i) j:Nat):Int)∧Hid (Below W1.heap.size W1 wr)) (fun s i _=>n2 - (intOf i).toNat)
   case atStart=>exact ⟨0,Nat.zero_le _,rfl,rfl,LH (Below.refl _ _)⟩
   case round =>
    obtain ⟨j,hj,rfl,rfl,HB⟩:=hrel
    by_cases hjj:j < n2
    case neg =>
     obtain rfl:j=n2:=by omega
     go_wp2_with fail
     go_ret
     exact ⟨below_tail HB1.out HB.out,by rw [Hz.out];rfl⟩
    case pos =>
     have CR:=LH (tr_reach gS n2 j S wr (Blk.ext HT.out HB.out) Hsl.out (by omega) hjj Hss.out Hin.out (HTab.out.below (below_tail HB1.out HB.out)))
     have CO:=LH fun X=>tr_one (j:Int) X
     have hcl:=Hcs.out.get j
     have hand:=and32 ((closeS S).getD j 0) (bitN (j:Int)) hcl (bitN_lt _)
     have hao:=and_one _ hcl j
     have hx:((closeS S).getD j 0).testBit j=comesTo S j j:=rfl
     have hsc:=setB_succ (fun i=>comesTo S i i) j
     have hor:=or32 (setB (fun i=>comesTo S i i) j) ((closeS S).getD j 0 &&& bitN (j:Int)) (setB_lt _ _) (Nat.lt_of_le_of_lt Nat.and_le_left hcl)
     have hst:setB (fun i=>comesTo S i i) j ||| ((closeS S).getD j 0 &&& bitN (j:Int))=setB (fun i=>comesTo S i i) (j+1):=by
      rw [hsc,hao,hx]
      cases comesTo S j j
      · simp
      · rfl
     rw [hst] at hor
     generalize hs1:setB (fun i=>comesTo S i i) (j+1)=s1 at *
     have Hs1:=LH hs1
     clear hs1
     generalize setB (fun i=>comesTo S i i) j=s0 at *
     generalize (closeS S).getD j 0 &&& bitN (j:Int)=z at *
     generalize (closeS S).getD j 0=v at *
     generalize bitN (j:Int)=bj at *
     clear hao hx hsc hst hcl
     go_wp2_with (first
      | (go_at_call 89;(with_reducible refine CR.out.mono ?_);rintro e w2 ⟨rfl,hb2⟩)
      | (go_at_call 90;(with_reducible refine (CO.out _).mono ?_);rintro e w3 ⟨rfl,hb3⟩))
     go_roundw
     case rel=>exact ⟨j+1,by omega,by go_num,by rw [Hs1.out],LH (below_tail (below_tail HB.out hb2) hb3)⟩
     case measure=>simp [intOf];omega
end Go.Proofs.YtggbjdmpjidhgaaGreatDoor
