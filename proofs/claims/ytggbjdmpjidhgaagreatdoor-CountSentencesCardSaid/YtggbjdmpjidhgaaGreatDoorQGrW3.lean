/- grammars: the reference's Right, walked. -/
import Derived.Test.YtggbjdmpjidhgaaGreatDoorQGrS1
import Derived.Shelf.Abstract
import Derived.Test.YtggbjdmpjidhgaaGreatDoorQGrP2
import Derived.Maps.OwnOps
import Derived.Maps.OwnSet
set_option linter.unusedVariables false
set_option linter.unusedSimpArgs false
set_option maxHeartbeats 8000000
set_option maxRecDepth 100000
namespace Go.Proofs.YtggbjdmpjidhgaaGreatDoor
open Go.RowKit
theorem rf_nons (h:GH) (G:Gr) (w:World) (hg:GrAt w h G) (hT:h.n1≤1000) :
 Calls Tryz.prog 65 #[GV h G.start] w fun e w'=>e = .returned (.bool G.nonsOK)∧Below w.heap.size w w':=by
 obtain ⟨a1,n1,c1,a2,n2,c2,a3,n3,c3⟩:=h
 have ht:Strs w a2 n2 c2 G.nons:=hg.nons
 have hl:G.nons.length=n2:=ht.len
 have hcap:=ht.cap
 simp only [] at hT
 have Hf:Hid (G.nonsOK=(decide (1≤n2∧n2≤16) && allI G.nonOK G.nons)):=LH (by unfold Gr.nonsOK;rw [hl])
 by_cases h1:1≤n2∧n2≤16
 case neg =>
  have Hfin:Hid (G.nonsOK=false):=LH (by rw [Hf.out];simp only [h1,decide_false,Bool.false_and])
  have hw:((n2:Int) < 1)∨((1:Int)≤(n2:Int)∧(16:Int) < (n2:Int)):=by omega
  clear hg h1
  rcases hw with d | ⟨d,d2⟩
  all_goals
   go_enter Tryz.func65,Tryz.ntmps65
   go_wp2_with fail
   go_ret
   exact ⟨by rw [Hfin.out];rfl,alloc_below _ _⟩
 have Hf2:Hid (G.nonsOK=allI G.nonOK G.nons):=LH (by rw [Hf.out];simp only [h1,and_self,decide_true,Bool.true_and])
 obtain ⟨hn1,hn2⟩:=h1
 have Hg:=LH hg
 clear Hf hg
 go_enter Tryz.func65,Tryz.ntmps65
 have hbox:=GBox.new w 26 ⟨a1,n1,c1,a2,n2,c2,a3,n3,c3⟩ G.start
 go_wp2_with fail
 go_loopw [3] (fun i wr=>∃ (k:Nat),k≤n2∧i = .int .i64 (k:Int)∧Below w.heap.size w wr∧GBox wr w.heap.size ⟨a1,n1,c1,a2,n2,c2,a3,n3,c3⟩ G.start∧Hid (∀ j,j < k→∀ y,G.nons[j]? = some y→(!G.nonOK j y)=false)) (fun i _=>n2 - (intOf i).toNat)
 case atStart=>exact ⟨0,Nat.zero_le _,rfl,alloc_below _ _,hbox,LH fun j hj=>by omega⟩
 case round =>
  clear hbox
  obtain ⟨k,hk,rfl,hB,hbx,Hk⟩:=hrel
  have ⟨z5,z0,z1,z2,z3⟩:=hbx
  simp only [] at z0 z1 z2 z3
  by_cases hkk:k < n2
  · obtain ⟨b,off,s,rfl,hb,Hs,q0⟩:=ht.get hkk
    rw [← hB.cell (by exact hb)] at q0
    have hb':b < wr.heap.size:=Nat.lt_of_lt_of_le hb hB.size
    have hg1:=Hg.out.below hB
    have cN:=fun w=>ref_name s w
    have cO:=fun (x:Ext wr)=>rf_non ⟨a1,n1,c1,some ⟨b,off,none⟩,n2,c2,a3,n3,c3⟩ G s (bl wr x) (hg1.below (bl_below wr x)) (by simp only [];omega)
    have cT:=fun (x:Ext wr)=>rf_term ⟨a1,n1,c1,some ⟨b,off,none⟩,n2,c2,a3,n3,c3⟩ G s (bl wr x) (hg1.below (bl_below wr x)) (by simp only [];omega)
    have hdef:G.nonOK k s=(nameB (bytesOf s) && decide (G.non s=(k:Int)) && decide (G.term s < 0)):=rfl
    have Hdef:=LH hdef
    have hlo:=(findI_lo (fun t=>decide (t=s)) G.nons).1
    have bc:=bl_cell wr
    have Hx:=LH hbx
    have HB:=LH hB
    clear hdef hg1 hbx hB
    generalize nameB (bytesOf s)=b1 at *
    generalize G.non s=nn at *
    generalize G.term s=tm at *
    have CN:=LH cN
    have CO:=LH cO
    have CT:=LH cT
    clear cN cO cT hlo
    have hways:(b1=false∨(b1=true∧nn ≠ (k:Int))∨(b1=true∧nn=(k:Int)∧0≤tm))∨(b1=true∧nn=(k:Int)∧tm < 0):=by
     cases b1
     · simp
     · simp only [Bool.true_eq_false,false_or,true_and]
       omega
    rcases hways with hbad | ⟨rfl,rfl,g⟩
    · have Hbad:Hid (G.nonsOK=false):=LH (by
       rw [Hf2.out]
       refine allI_false Hs.out ?_
       rw [Hdef.out]
       rcases hbad with rfl | ⟨rfl,g⟩ | ⟨rfl,rfl,g⟩
       · simp
       · simp [g]
       · simp;omega)
      rcases hbad with rfl | ⟨rfl,g⟩ | ⟨rfl,rfl,g⟩
      · go_wp2_with fail
        refine wp_region_below (by kernel_rfl) (by kernel_rfl) ?_
        repeat (go_big_quiet_step (first
         | (go_at_call 119;with_reducible exact bl_of_same (CN.out _))
         | (go_at_call 120;with_reducible exact bl_of (CO.out _))
         | (go_at_call 117;with_reducible exact bl_of (CT.out _))))
        refine wpQuiet_nil ?_
        rintro _ ⟨x,rfl⟩
        go_wp2_with fail
        go_ret
        exact ⟨by rw [Hbad.out];rfl,HB.out.trans ((bl_below wr x).mono HB.out.size)⟩
      · have d:(nn != (k:Int))=true:=by rw [bne_iff_ne];exact g
        clear g
        go_wp2_with fail
        refine wp_region_below (by kernel_rfl) (by kernel_rfl) ?_
        repeat (go_big_quiet_step (first
         | (go_at_call 119;with_reducible exact bl_of_same (CN.out _))
         | (go_at_call 120;with_reducible exact bl_of (CO.out _))
         | (go_at_call 117;with_reducible exact bl_of (CT.out _))))
        refine wpQuiet_nil ?_
        rintro _ ⟨x,rfl⟩
        go_wp2_with fail
        go_ret
        exact ⟨by rw [Hbad.out];rfl,HB.out.trans ((bl_below wr x).mono HB.out.size)⟩
      · go_wp2_with fail
        refine wp_region_below (by kernel_rfl) (by kernel_rfl) ?_
        repeat (go_big_quiet_step (first
         | (go_at_call 119;with_reducible exact bl_of_same (CN.out _))
         | (go_at_call 120;with_reducible exact bl_of (CO.out _))
         | (go_at_call 117;with_reducible exact bl_of (CT.out _))))
        refine wpQuiet_nil ?_
        rintro _ ⟨x,rfl⟩
        go_wp2_with fail
        go_ret
        exact ⟨by rw [Hbad.out];rfl,HB.out.trans ((bl_below wr x).mono HB.out.size)⟩
    · have Hnext:Hid ((!G.nonOK k s)=false):=LH (by rw [Hdef.out];simp;omega)
      have d:decide (0≤tm)=false:=by simp;omega
      go_wp2_with fail
      refine wp_region_below (by kernel_rfl) (by kernel_rfl) ?_
      repeat (go_big_quiet_step (first
       | (go_at_call 119;with_reducible exact bl_of_same (CN.out _))
       | (go_at_call 120;with_reducible exact bl_of (CO.out _))
       | (go_at_call 117;with_reducible exact bl_of (CT.out _))))
      refine wpQuiet_nil ?_
      rintro _ ⟨x,rfl⟩
      go_wp2_with fail
      go_roundw
      case rel=>exact ⟨k+1,by omega,by go_num,HB.out.trans ((bl_below wr x).mono HB.out.size),Hx.out.below (bl_below wr x),LH (next_noneI Hk.out Hs.out Hnext.out)⟩
      case measure=>simp [intOf];omega
  · obtain rfl:k=n2:=by omega
    have Hfin:Hid (G.nonsOK=true):=LH (by
     rw [Hf2.out]
     refine allI_true fun j y hy=>?_
     have:=Hk.out j (by have:=(List.getElem?_eq_some_iff.1 hy).1;omega) y hy
     simpa using this)
    go_wp2_with fail
    go_ret
    exact ⟨by rw [Hfin.out];rfl,hB⟩
def RBox (w:World) (g:Nat) (left:Int) (Ar:Option Addr) (nr cr:Nat) (prec:Int):Prop :=
 g < w.heap.size∧w.cell? ⟨g,0,none⟩=some (.int .i64 left)∧w.cell? ⟨g,1,none⟩=some (.slice Ar nr cr)∧w.cell? ⟨g,2,none⟩=some (.int .i64 prec)
theorem RBox.new (w:World) (t:TypeId) (left:Int) (Ar:Option Addr) (nr cr:Nat) (prec:Int):RBox (w.alloc (.cells #[.int .i64 left, .slice Ar nr cr, .int .i64 prec] t)) w.heap.size left Ar nr cr prec:=by
 refine ⟨by simp,?_,?_,?_⟩ <;> (rw [alloc_cell];rfl)
theorem RBox.below {w w':World} {g:Nat} {left:Int} {Ar:Option Addr} {nr cr:Nat} {prec:Int} (hg:RBox w g left Ar nr cr prec) (hb:Below w.heap.size w w'):RBox w' g left Ar nr cr prec:=by
 obtain ⟨h0,h1,h2,h3⟩:=hg
 refine ⟨Nat.lt_of_lt_of_le h0 hb.size,?_,?_,?_⟩
 · rw [hb.cell (p:=⟨g,0,none⟩) h0];exact h1
 · rw [hb.cell (p:=⟨g,1,none⟩) h0];exact h2
 · rw [hb.cell (p:=⟨g,2,none⟩) h0];exact h3
theorem two_boxes (w:World) (t u:TypeId) (h:GH) (st left:Int) (Ar:Option Addr) (nr cr:Nat) (prec:Int) :
 let X:=(w.alloc (.cells #[.slice h.a1 h.n1 h.c1, .slice h.a2 h.n2 h.c2, .slice h.a3 h.n3 h.c3, .int .i64 st] t)).alloc (.cells #[.int .i64 left, .slice Ar nr cr, .int .i64 prec] u)
 Below w.heap.size w X∧GBox X w.heap.size h st∧RBox X (w.heap.size+1) left Ar nr cr prec:=by
 intro X
 have h1:=GBox.new w t h st
 have hs:=alloc_size w (.cells #[.slice h.a1 h.n1 h.c1, .slice h.a2 h.n2 h.c2, .slice h.a3 h.n3 h.c3, .int .i64 st] t)
 refine ⟨(alloc_below w _).alloc (by rw [hs];omega) _,h1.below (alloc_below _ _),?_⟩
 have h2:=RBox.new (w.alloc (.cells #[.slice h.a1 h.n1 h.c1, .slice h.a2 h.n2 h.c2, .slice h.a3 h.n3 h.c3, .int .i64 st] t)) u left Ar nr cr prec
 rw [hs] at h2
 exact h2
theorem rf_rule (h:GH) (G:Gr) (r:Rul) (Ar:Option Addr) (cr:Nat) (w:World) (hg:GrAt w h G) (hr:Ints .i64 w Ar r.right.length cr r.right) (hw:∀ s ∈ r.right,InI64 s) (h1:h.n1≤1000) (h2:h.n2≤1000) :
 Calls Tryz.prog 66 #[GV h G.start, .agg #[.int .i64 r.left, .slice Ar r.right.length cr, .int .i64 r.prec]] w fun e w'=>e = .returned (.bool (G.ruleOK r))∧Below w.heap.size w w':=by
 obtain ⟨a1,n1,c1,a2,n2,c2,a3,n3,c3⟩:=h
 have e1:G.terms.length=n1:=hg.terms.len
 have hcap:=hr.cap
 simp only [] at h1 h2
 have Hf:Hid (G.ruleOK r=(decide (r.right.length≤6) && decide (-1≤r.prec∧r.prec < (n1:Int)) && r.right.all (G.symOK r.prec))):=LH (by unfold Gr.ruleOK;rw [e1])
 clear e1
 have hways:(6 < (r.right.length:Int)∨((r.right.length:Int)≤6∧r.prec < -1)∨((r.right.length:Int)≤6∧-1≤r.prec∧(n1:Int)≤r.prec))∨((r.right.length:Int)≤6∧-1≤r.prec∧r.prec < (n1:Int)):=by omega
 rcases hways with hbad | ⟨g1,g2,g3⟩
 · have Hfin:Hid (G.ruleOK r=false):=LH (by
    rw [Hf.out]
    rcases hbad with g | ⟨g,g2⟩ | ⟨g,g2,g3⟩
    · have:decide (r.right.length≤6)=false:=by simp;omega
      rw [this];rfl
    · have:decide (-1≤r.prec∧r.prec < (n1:Int))=false:=by simp;omega
      rw [this];simp
    · have:decide (-1≤r.prec∧r.prec < (n1:Int))=false:=by simp;omega
      rw [this];simp)
   clear hg
   rcases hbad with g | ⟨g,g2⟩ | ⟨g,g2,g3⟩
   all_goals
    go_enter Tryz.func66,Tryz.ntmps66
    go_wp2_with fail
    go_ret
    exact ⟨by rw [Hfin.out];rfl,(two_boxes w _ _ ⟨a1,n1,c1,a2,n2,c2,a3,n3,c3⟩ _ _ _ _ _ _).1⟩
 have Hf2:Hid (G.ruleOK r=r.right.all (G.symOK r.prec)):=LH (by
  rw [Hf.out]
  have e1:decide (r.right.length≤6)=true:=by simp;omega
  have e2:decide (-1≤r.prec∧r.prec < (n1:Int))=true:=by simp;omega
  rw [e1,e2];rfl)
 have Hg:=LH hg
 have Hr:=LH hr
 have Hw:=LH hw
 clear Hf hg hr hw
 go_enter Tryz.func66,Tryz.ntmps66
 obtain ⟨hB0,hb1,hb2⟩:=two_boxes w 26 52 ⟨a1,n1,c1,a2,n2,c2,a3,n3,c3⟩ G.start r.left Ar r.right.length cr r.prec
 go_wp2_with fail
 go_loopw [5] (fun i wr=>∃ (k:Nat),k≤r.right.length∧i = .int .i64 (k:Int)∧Below w.heap.size w wr∧GBox wr w.heap.size ⟨a1,n1,c1,a2,n2,c2,a3,n3,c3⟩ G.start∧RBox wr (w.heap.size+1) r.left Ar r.right.length cr r.prec∧Hid (∀ j,j < k→∀ y,r.right[j]? = some y→(!G.symOK r.prec y)=false)) (fun i _=>r.right.length - (intOf i).toNat)
 case atStart=>exact ⟨0,Nat.zero_le _,rfl,hB0,hb1,hb2,LH fun j hj=>by omega⟩
 case round =>
  clear hB0 hb1 hb2
  obtain ⟨k,hk,rfl,hB,hx,hy,Hk⟩:=hrel
  have ⟨z5,z0,z1,z2,z3⟩:=hx
  have ⟨y5,y0,y1,y2⟩:=hy
  simp only [] at z0 z1 z2 z3
  by_cases hkk:k < r.right.length
  · obtain ⟨b,off,s,rfl,hb,Hs,q0⟩:=Hr.out.get hkk
    rw [← hB.cell (by exact hb)] at q0
    have hb':b < wr.heap.size:=Nat.lt_of_lt_of_le hb hB.size
    have hg1:=Hg.out.below hB
    have cH:=fun (x:Ext wr)=>rf_has ⟨a1,n1,c1,a2,n2,c2,a3,n3,c3⟩ G s (bl wr x) (hg1.below (bl_below wr x)) (Hw.out s (List.mem_of_getElem? Hs.out)) h1 h2
    have hdef:G.symOK r.prec s=(G.has s && !(decide (0≤s) && decide (r.prec=-1))):=rfl
    have Hdef:=LH hdef
    have bc:=bl_cell wr
    have Hx:=LH hx
    have Hy:=LH hy
    have HB:=LH hB
    clear hdef hg1 hx hy hB
    generalize G.has s=b1 at *
    have CH:=LH cH
    clear cH
    have hways:(b1=false∨(b1=true∧0≤s∧r.prec=-1))∨(b1=true∧0≤s∧r.prec ≠ -1)∨(b1=true∧s < 0):=by
     cases b1
     · simp
     · simp only [Bool.true_eq_false,false_or,true_and]
       omega
    rcases hways with (rfl | ⟨rfl,g,g2⟩) | ⟨rfl,g,g2⟩ | ⟨rfl,g⟩
    · have Hbad:Hid (G.ruleOK r=false):=LH (by rw [Hf2.out];exact all_false Hs.out (by rw [Hdef.out];rfl))
      go_wp2_with fail
      refine wp_region_below (by kernel_rfl) (by kernel_rfl) ?_
      repeat (go_big_quiet_step ((go_at_call 51;with_reducible exact bl_of (CH.out _))))
      refine wpQuiet_nil ?_
      rintro _ ⟨x,rfl⟩
      go_wp2_with fail
      go_ret
      exact ⟨by rw [Hbad.out];rfl,HB.out.trans ((bl_below wr x).mono HB.out.size)⟩
    · have Hbad:Hid (G.ruleOK r=false):=LH (by rw [Hf2.out];exact all_false Hs.out (by rw [Hdef.out];simp [g,g2]))
      have d1:decide (0≤s)=true:=by simp;omega
      have d2:(r.prec == -1)=true:=by rw [beq_iff_eq];exact g2
      clear g2
      go_wp2_with fail
      refine wp_region_below (by kernel_rfl) (by kernel_rfl) ?_
      repeat (go_big_quiet_step ((go_at_call 51;with_reducible exact bl_of (CH.out _))))
      refine wpQuiet_nil ?_
      rintro _ ⟨x,rfl⟩
      go_wp2_with fail
      go_ret
      exact ⟨by rw [Hbad.out];rfl,HB.out.trans ((bl_below wr x).mono HB.out.size)⟩
    · have Hnext:Hid ((!G.symOK r.prec s)=false):=LH (by rw [Hdef.out];simp [g2])
      have d1:decide (0≤s)=true:=by simp;omega
      have d2:(r.prec == -1)=false:=by rw [beq_eq_false_iff_ne];exact g2
      clear g2
      go_wp2_with fail
      refine wp_region_below (by kernel_rfl) (by kernel_rfl) ?_
      repeat (go_big_quiet_step ((go_at_call 51;with_reducible exact bl_of (CH.out _))))
      refine wpQuiet_nil ?_
      rintro _ ⟨x,rfl⟩
      go_wp2_with fail
      go_roundw
      case rel=>exact ⟨k+1,by omega,by go_num,HB.out.trans ((bl_below wr x).mono HB.out.size),Hx.out.below (bl_below wr x),Hy.out.below (bl_below wr x),LH (next_none Hk.out Hs.out Hnext.out)⟩
      case measure=>simp [intOf];omega
    · have Hnext:Hid ((!G.symOK r.prec s)=false):=LH (by rw [Hdef.out];simp;omega)
      have d1:decide (0≤s)=false:=by simp;omega
      go_wp2_with fail
      refine wp_region_below (by kernel_rfl) (by kernel_rfl) ?_
      repeat (go_big_quiet_step ((go_at_call 51;with_reducible exact bl_of (CH.out _))))
      refine wpQuiet_nil ?_
      rintro _ ⟨x,rfl⟩
      go_wp2_with fail
      go_roundw
      case rel=>exact ⟨k+1,by omega,by go_num,HB.out.trans ((bl_below wr x).mono HB.out.size),Hx.out.below (bl_below wr x),Hy.out.below (bl_below wr x),LH (next_none Hk.out Hs.out Hnext.out)⟩
      case measure=>simp [intOf];omega
  · obtain rfl:k=r.right.length:=by omega
    have Hfin:Hid (G.ruleOK r=true):=LH (by
     rw [Hf2.out]
     refine all_true fun j y hy=>?_
     have:=Hk.out j (List.getElem?_eq_some_iff.1 hy).1 y hy
     simpa using this)
    go_wp2_with fail
    go_ret
    exact ⟨by rw [Hfin.out];rfl,hB⟩
theorem lefts_next {G:Gr} {k:Nat} {r:Rul} {top:Int} (h:G.leftsGo (G.rules.take k) (-1)=some top) (hr:G.rules[k]? = some r) :
 G.leftsGo (G.rules.take (k+1)) (-1)=if 0≤r.left∧r.left≤top+1∧G.ruleOK r=true then some (max top r.left) else none:=by
 rw [List.take_add_one,hr]
 show G.leftsGo (_++[r]) _=_
 rw [Gr.leftsGo_snoc,h]
 rfl
theorem lefts_bad {G:Gr} {k:Nat} (h:G.leftsGo (G.rules.take k) (-1)=none):G.leftsGo G.rules (-1)=none:=by
 rw [← List.take_append_drop k G.rules]
 exact G.leftsGo_none _ _ _ h
theorem rf_right9 (h:GH) (G:Gr) (w:World) (hg:GrAt w h G) (h1:h.n1≤1000) (h2:h.n2≤1000) (h3:h.n3≤1000) :
 Calls Tryz.prog 29 #[GV h G.start] w fun e w'=>e = .returned (.bool G.right)∧Below w.heap.size w w':=by
 have cT:=fun W (hh:GrAt W h G)=>rf_terms h G W hh
 have cN:=fun W (hh:GrAt W h G)=>rf_nons h G W hh h1
 have cR9:=fun W r Ar cr (hh:GrAt W h G) hi' hw=>rf_rule h G r Ar cr W hh hi' hw h1 h2
 obtain ⟨a1,n1,c1,a2,n2,c2,a3,n3,c3⟩:=h
 have e2:G.nons.length=n2:=hg.nons.len
 have e3:G.rules.length=n3:=hg.rules.len
 have ht:Ruls w a3 n3 c3 G.rules:=hg.rules
 have hcap:=ht.cap
 simp only [] at h1 h2 h3
 have Hf:Hid (G.right=(G.termsOK && G.nonsOK && decide (1≤n3∧n3≤40) && decide (0≤G.start∧G.start < (n2:Int)) && decide (G.leftsGo G.rules (-1)=some ((n2:Int) - 1)))):=LH (by unfold Gr.right;rw [e2,e3])
 clear e2
 generalize hst:G.start=st at *
 clear hst
 generalize G.termsOK=b1 at *
 generalize G.nonsOK=b2 at *
 have hways:(b1=false∨(b1=true∧b2=false)∨(b1=true∧b2=true∧(n3:Int) < 1)∨(b1=true∧b2=true∧1≤(n3:Int)∧40 < (n3:Int))∨(b1=true∧b2=true∧1≤(n3:Int)∧(n3:Int)≤40∧st < 0)∨(b1=true∧b2=true∧1≤(n3:Int)∧(n3:Int)≤40∧0≤st∧(n2:Int)≤st)) ∨
  (b1=true∧b2=true∧1≤(n3:Int)∧(n3:Int)≤40∧0≤st∧st < (n2:Int)):=by
  cases b1
  · simp
  · cases b2
    · simp
    · simp only [Bool.true_eq_false,false_or,true_and]
      omega
 have Hg:=LH hg
 have CT:=LH cT
 have CN:=LH cN
 have CR9:=LH cR9
 clear hg cT cN cR9
 have hbox:=GBox.new w 26 ⟨a1,n1,c1,a2,n2,c2,a3,n3,c3⟩ st
 have hB0:=alloc_below w (.cells #[.slice a1 n1 c1, .slice a2 n2 c2, .slice a3 n3 c3, .int .i64 st] 26)
 rcases hways with hbad | ⟨rfl,rfl,g1,g2,g3,g4⟩
 · have Hfin:Hid (G.right=false):=LH (by
    rw [Hf.out]
    rcases hbad with rfl | ⟨rfl,rfl⟩ | ⟨rfl,rfl,g⟩ | ⟨rfl,rfl,g,g2⟩ | ⟨rfl,rfl,g,g2,g3⟩ | ⟨rfl,rfl,g,g2,g3,g4⟩
    · simp
    · simp
    · have:decide (1≤n3∧n3≤40)=false:=by simp;omega
      rw [this];simp
    · have:decide (1≤n3∧n3≤40)=false:=by simp;omega
      rw [this];simp
    · have:decide (0≤st∧st < (n2:Int))=false:=by simp;omega
      rw [this];simp
    · have:decide (0≤st∧st < (n2:Int))=false:=by simp;omega
      rw [this];simp)
   clear Hf
   rcases hbad with rfl | ⟨rfl,rfl⟩ | ⟨rfl,rfl,g⟩ | ⟨rfl,rfl,g,g2⟩ | ⟨rfl,rfl,g,g2,g3⟩ | ⟨rfl,rfl,g,g2,g3,g4⟩
   · go_enter Tryz.func29,Tryz.ntmps29
     go_wp2_with fail
     (with_reducible refine (CT.out _ (Hg.out.below hB0)).mono ?_)
     rintro e w1 ⟨rfl,hb1⟩
     go_wp2_with fail
     go_ret
     exact ⟨by rw [Hfin.out];rfl,below_tail hB0 hb1⟩
   all_goals
    go_enter Tryz.func29,Tryz.ntmps29
    go_wp2_with fail
    (with_reducible refine (CT.out _ (Hg.out.below hB0)).mono ?_)
    rintro e w1 ⟨rfl,hb1⟩
    have hB1:=below_tail hB0 hb1
    have ⟨z5,z0,z1,z2,z3⟩:=hbox.below hb1
    simp only [] at z0 z1 z2 z3
    clear hb1
    go_wp2_with fail
    (with_reducible refine (CN.out _ (Hg.out.below hB1)).mono ?_)
    rintro e w2 ⟨rfl,hb2⟩
    obtain ⟨hc2,_⟩:=bcell hb2
    have HB2:=LH (below_tail hB1 hb2)
    clear hb2 hB1 hB0 hbox
    go_wp2_with fail
    go_ret
    exact ⟨by rw [Hfin.out];rfl,HB2.out⟩
 · have Hf2:Hid (G.right=decide (G.leftsGo G.rules (-1)=some ((n2:Int) - 1))):=LH (by
    rw [Hf.out]
    have e1:decide (1≤n3∧n3≤40)=true:=by simp;omega
    have e2:decide (0≤st∧st < (n2:Int))=true:=by simp;omega
    rw [e1,e2];rfl)
   clear Hf
   go_enter Tryz.func29,Tryz.ntmps29
   go_wp2_with fail
   (with_reducible refine (CT.out _ (Hg.out.below hB0)).mono ?_)
   rintro e w1 ⟨rfl,hb1⟩
   have hB1:=below_tail hB0 hb1
   have hx1:=hbox.below hb1
   have ⟨z5,z0,z1,z2,z3⟩:=hx1
   simp only [] at z0 z1 z2 z3
   clear hb1
   go_wp2_with fail
   (with_reducible refine (CN.out _ (Hg.out.below hB1)).mono ?_)
   rintro e w2 ⟨rfl,hb2⟩
   have hB2:=below_tail hB1 hb2
   have hx2:=hx1.below hb2
   clear z0 z1 z2 z3 z5
   have ⟨z5,z0,z1,z2,z3⟩:=hx2
   simp only [] at z0 z1 z2 z3
   clear hb2 hB1 hB0 hbox hx1
   go_wp2_with fail
   clear z0 z1 z2 z3 z5
   go_loopw [3,4,5] (fun tp i t wr=>∃ (k:Nat) (top:Int),k≤n3∧i = .int .i64 (k:Int)∧tp = .int .i64 top∧-1≤top∧top≤(k:Int)∧Below w.heap.size w wr∧GBox wr w.heap.size ⟨a1,n1,c1,a2,n2,c2,a3,n3,c3⟩ st∧Hid (G.leftsGo (G.rules.take k) (-1)=some top)) (fun _ i _ _=>n3 - (intOf i).toNat)
   case atStart=>exact ⟨0,-1,Nat.zero_le _,rfl,rfl,by omega,by omega,hB2,hx2,LH rfl⟩
   case round =>
    clear hB2 hx2
    obtain ⟨k,top,hk,rfl,rfl,ht1,ht2,hB,hx,Hk⟩:=hrel
    have ⟨z5,z0,z1,z2,z3⟩:=hx
    simp only [] at z0 z1 z2 z3
    by_cases hkk:k < n3
    · obtain ⟨b,off,r,Ar,cr,rfl,hb,Hr,q0,q1,q2,hi⟩:=ht.get hkk
      rw [← hB.cell (by exact hb)] at q0 q1 q2
      have hnx:=lefts_next Hk.out Hr.out
      have hB1:=hB.alloc (Nat.le_of_lt z5) (.cells #[.int .i64 r.left, .slice Ar r.right.length cr, .int .i64 r.prec] 52)
      have hx1:=hx.below (alloc_below wr (.cells #[.int .i64 r.left, .slice Ar r.right.length cr, .int .i64 r.prec] 52))
      have hy1:=RBox.new wr 52 r.left Ar r.right.length cr r.prec
      have cR:=fun W hh hi'=>CR9.out W r Ar cr hh hi' (Hg.out.wf r (List.mem_of_getElem? Hr.out))
      generalize G.ruleOK r=b3 at *
      have CR:=LH cR
      have Hnx:=LH hnx
      clear cR hnx
      have hways:(r.left < 0∨(0≤r.left∧top+1 < r.left)∨(0≤r.left∧r.left≤top+1∧b3=false))∨(0≤r.left∧r.left≤top+1∧b3=true∧top < r.left)∨(0≤r.left∧r.left≤top+1∧b3=true∧r.left≤top):=by
       cases b3
       · simp only [Bool.false_eq_true,and_false,false_and,or_false,and_true]
         omega
       · simp only [Bool.true_eq_false,and_false,or_false,true_and,and_true]
         omega
      rcases hways with hbad | hok
      · have Hbad:Hid (G.right=false):=LH (by
         rw [Hf2.out]
         have:G.leftsGo G.rules (-1)=none:=by
          refine lefts_bad (k:=k+1) ?_
          rw [Hnx.out,if_neg]
          intro ⟨h5,h6,h7⟩
          rcases hbad with g | ⟨g,g'⟩ | ⟨g,g',g''⟩
          · omega
          · omega
          · rw [h7] at g'';cases g''
         rw [this];rfl)
        rcases hbad with g | ⟨g,g'⟩ | ⟨g,g',rfl⟩
        · clear hx1 hy1
          go_wp2_with fail
          go_ret
          exact ⟨by rw [Hbad.out];rfl,hB1⟩
        · clear hx1 hy1
          go_wp2_with fail
          go_ret
          exact ⟨by rw [Hbad.out];rfl,hB1⟩
        · have HB1:=LH hB1
          have Hg1:=LH (Hg.out.below hB1)
          have Hi1:=LH (hi.below hB1)
          clear hB1 hx1 hy1
          go_wp2_with fail
          (with_reducible refine (CR.out _ Hg1.out Hi1.out).mono ?_)
          rintro e w6 ⟨rfl,hb6⟩
          go_wp2_with fail
          go_ret
          exact ⟨by rw [Hbad.out];rfl,below_tail HB1.out hb6⟩
      · have HB1:=LH hB1
        have Hg1:=LH (Hg.out.below hB1)
        have Hi1:=LH (hi.below hB1)
        have Hx1:=LH hx1
        have Hy1:=LH hy1
        clear hB1 hx1 hy1
        rcases hok with ⟨g,g',rfl,g''⟩ | ⟨g,g',rfl,g''⟩
        all_goals
         have Hn2:Hid (G.leftsGo (G.rules.take (k+1)) (-1)=some (max top r.left)):=LH (by rw [Hnx.out,if_pos ⟨g,g',rfl⟩])
         go_wp2_with fail
         (with_reducible refine (CR.out _ Hg1.out Hi1.out).mono ?_)
         rintro e w6 ⟨rfl,hb6⟩
         have ⟨y5,y0,y1,y2⟩:=Hy1.out.below hb6
         have Hx6:=LH (Hx1.out.below hb6)
         have HB6:=LH (below_tail HB1.out hb6)
         clear hb6 z0 z1 z2 z3 y1 y2
         go_wp2_with fail
         go_roundw
         case rel=>first
          | exact ⟨k+1,r.left,by omega,by go_num,rfl,by omega,by omega,HB6.out,Hx6.out,LH (by rw [Hn2.out,Int.max_eq_right (by omega)])⟩
          | exact ⟨k+1,top,by omega,by go_num,rfl,by omega,by omega,HB6.out,Hx6.out,LH (by rw [Hn2.out,Int.max_eq_left (by omega)])⟩
         case measure=>simp [intOf];omega
    · obtain rfl:k=n3:=by omega
      have Hfin:Hid (G.right=(top == (n2:Int) - 1)):=LH (by
       rw [Hf2.out]
       have:=Hk.out
       rw [List.take_of_length_le (by omega)] at this
       rw [this,Bool.eq_iff_iff]
       simp)
      have hi64:IntKind.i64.wrap ((n2:Int) - 1)=(n2:Int) - 1:=IntWalk.i64_in _ (by omega)
      go_wp2_with fail
      go_ret
      exact ⟨by rw [Hfin.out];rfl,hB⟩
theorem cf_non (s:Int) (w:World) (hs:InI64 s) (h0:s < 0) :
 Calls Tryz.prog 87 #[.int .i64 s] w fun e w'=>e = .returned (.int .i64 (-1 - s))∧w=w':=by
 obtain ⟨s1,s2⟩:=hs
 go_enter Tryz.func87,Tryz.ntmps87
 go_wp2_with fail
 go_ret
 exact ⟨rfl,rfl⟩
def withinB (n a b:Int):Bool:=decide (a≤n∧n≤b)
theorem cf_within (n a b:Int) (w:World) :
 Calls Tryz.prog 99 #[.int .i64 n, .int .i64 a, .int .i64 b] w fun e w'=>e = .returned (.bool (withinB n a b))∧w=w':=by
 have hf:withinB n a b=(decide (a≤n) && decide (n≤b)):=by unfold withinB;rw [Bool.decide_and]
 rw [hf]
 clear hf
 by_cases h:a≤n
 all_goals
  go_enter Tryz.func99,Tryz.ntmps99
  go_wp2_with fail
  go_ret
  exact ⟨by first | rfl | (simp [h];done) | (simp [h];omega),rfl⟩
theorem cf_has (h:GH) (G:Gr) (s:Int) (w:World) (hg:GrAt w h G) (hs:InI64 s) (h1:h.n1≤1000) (h2:h.n2≤1000) :
 Calls Tryz.prog 46 #[GV h G.start, .int .i64 s] w fun e w'=>e = .returned (.bool (G.has s))∧Below w.heap.size w w':=by
 obtain ⟨a1,n1,c1,a2,n2,c2,a3,n3,c3⟩:=h
 have e1:G.terms.length=n1:=hg.terms.len
 have e2:G.nons.length=n2:=hg.nons.len
 have hf:G.has s=if 0≤s then decide (s < (n1:Int)) else decide (-1 - s < (n2:Int)):=by unfold Gr.has;rw [e1,e2]
 rw [hf]
 simp only [] at h1 h2
 clear hf e1 e2 hg
 by_cases h0:0≤s
 · rw [if_pos h0]
   obtain ⟨s1,s2⟩:=hs
   go_enter Tryz.func46,Tryz.ntmps46
   go_wp2_with fail
   go_ret
   exact ⟨by simp,alloc_below _ _⟩
 · rw [if_neg h0]
   have cN:=fun w=>cf_non s w hs (by omega)
   obtain ⟨s1,s2⟩:=hs
   have d:decide (s < 0)=true:=by simp;omega
   go_enter Tryz.func46,Tryz.ntmps46
   have hbox:=GBox.new w 26 ⟨a1,n1,c1,a2,n2,c2,a3,n3,c3⟩ G.start
   have hB0:=alloc_below w (.cells #[.slice a1 n1 c1, .slice a2 n2 c2, .slice a3 n3 c3, .int .i64 G.start] 26)
   have CN:=LH cN
   clear cN
   go_wp2_with fail
   generalize w.alloc (.cells #[.slice a1 n1 c1, .slice a2 n2 c2, .slice a3 n3 c3, .int .i64 G.start] 26)=W1 at *
   obtain ⟨z5,z0,z1,z2,z3⟩:=hbox
   simp only [] at z0 z1 z2 z3
   have bc:=bl_cell W1
   refine wp_region_below (by kernel_rfl) (by kernel_rfl) ?_
   repeat (go_big_quiet_step ((go_at_call 87;with_reducible exact bl_of_same (CN.out _))))
   refine wpQuiet_nil ?_
   rintro _ ⟨x,rfl⟩
   go_wp2_with fail
   go_ret
   exact ⟨by simp,hB0.trans ((bl_below W1 x).mono hB0.size)⟩
theorem cf_named (s:ByteArray) (w:World) (hs:s.size≤maxLen) :
 Calls Tryz.prog 159 #[.string s] w fun e w'=>e = .returned (.bool (namedB s))∧Below w.heap.size w w':=by
 have c1:=lx_name s w
 have c2:=lx_Literal s w hs
 unfold namedB
 generalize nameB (bytesOf s)=p at *
 generalize litB (bytesOf s)=q at *
 have C1:=LH c1
 have C2:=LH c2
 clear c1 c2
 cases p
 · go_enter Tryz.func159,Tryz.ntmps159
   go_wp2_with (first
    | (go_at_call 103;(with_reducible refine C1.out.mono ?_);rintro e w' ⟨rfl,rfl⟩)
    | (go_at_call 203;(with_reducible refine C2.out.mono ?_);rintro e w' ⟨rfl,hb⟩))
   go_ret
   exact ⟨rfl,hb⟩
 · go_enter Tryz.func159,Tryz.ntmps159
   go_wp2_with (first
    | (go_at_call 103;(with_reducible refine C1.out.mono ?_);rintro e w' ⟨rfl,rfl⟩)
    | (go_at_call 203;(with_reducible refine C2.out.mono ?_);rintro e w' ⟨rfl,hb⟩))
   go_ret
   exact ⟨rfl,Below.refl _ _⟩
def Tells {α:Type} (g:FuncId) (caps:Array Value) (enc:α→Value) (w:World) (xs:List α) (p:α→Bool):Prop :=
 ∀ s ∈ xs,∀ w',Below w.heap.size w w'→Calls Tryz.prog g (#[enc s]++caps) w' fun e w''=>e = .returned (.bool (p s))∧Below w'.heap.size w' w''
theorem sl_index_ints (A:Option Addr) (n c:Nat) (xs:List Int) (g:FuncId) (caps:Array Value) (p:Int→Bool) (w:World) (eg:∀ args w,(callFunc g args).run Tryz.prog w = .ok (.enter g args) w)
 (h:Ints .i64 w A n c xs) (hp:Tells g caps (Value.int .i64) w xs p) :
 Calls Tryz.prog 86 #[.slice A n c, .func (.func g) #[] caps] w fun e w'=>e = .returned (.int .i64 (findI p xs))∧Below w.heap.size w w':=by
 obtain rfl:=h.len
 have hcap:=h.cap
 have Hp:=LH hp
 clear hp
 go_enter Tryz.func86,Tryz.ntmps86
 go_wp2_with fail
 go_loopw [5,8] (fun _ i wr=>∃ k:Nat,k≤xs.length∧i = .int .i64 (k:Int)∧Below w.heap.size w wr∧Hid (∀ j,j < k→∀ y,xs[j]? = some y→p y=false)) (fun _ i _=>xs.length - (intOf i).toNat)
 case atStart=>exact ⟨0,Nat.zero_le _,rfl,Below.refl _ _,LH fun j hj=>by omega⟩
 case round =>
  obtain ⟨k,hk,rfl,hB,Hk⟩:=hrel
  by_cases hkk:k < xs.length
  · obtain ⟨b,off,s,rfl,hb,Hs,q0⟩:=h.get hkk
    rw [← hB.cell (by exact hb)] at q0
    have hc:=Hp.out s (List.mem_of_getElem? Hs.out) wr hB
    cases hq:p s
    · rw [hq] at hc
      have Hq:=LH hq
      have Hc:=LH hc
      clear hq hc
      go_wp2_with (go_at_fn g;refine Hc.out.mono ?_;rintro e w2 ⟨rfl,hb2⟩)
      go_roundw
      case rel=>exact ⟨k+1,by omega,by go_num,below_tail hB hb2,LH (next_none Hk.out Hs.out Hq.out)⟩
      case measure=>simp [intOf];omega
    · rw [hq] at hc
      have Hf:=LH (findI_at Hs.out hq Hk.out)
      have Hc:=LH hc
      clear hq hc
      go_wp2_with (go_at_fn g;refine Hc.out.mono ?_;rintro e w2 ⟨rfl,hb2⟩)
      go_ret
      exact ⟨by rw [Hf.out];rfl,below_tail hB hb2⟩
  · obtain rfl:k=xs.length:=by omega
    have Hf:Hid (findI p xs=-1):=LH (findI_none fun j y hy=>Hk.out j (List.getElem?_eq_some_iff.1 hy).1 y hy)
    go_wp2_with fail
    go_ret
    exact ⟨by rw [Hf.out];rfl,hB⟩
theorem sl_index_strs (A:Option Addr) (n c:Nat) (xs:List ByteArray) (g:FuncId) (caps:Array Value) (p:ByteArray→Bool) (w:World) (eg:∀ args w,(callFunc g args).run Tryz.prog w = .ok (.enter g args) w)
 (h:Strs w A n c xs) (hp:Tells g caps Value.string w xs p) :
 Calls Tryz.prog 164 #[.slice A n c, .func (.func g) #[] caps] w fun e w'=>e = .returned (.int .i64 (findI p xs))∧Below w.heap.size w w':=by
 obtain rfl:=h.len
 have hcap:=h.cap
 have Hp:=LH hp
 clear hp
 go_enter Tryz.func164,Tryz.ntmps164
 go_wp2_with fail
 go_loopw [5,8] (fun _ i wr=>∃ k:Nat,k≤xs.length∧i = .int .i64 (k:Int)∧Below w.heap.size w wr∧Hid (∀ j,j < k→∀ y,xs[j]? = some y→p y=false)) (fun _ i _=>xs.length - (intOf i).toNat)
 case atStart=>exact ⟨0,Nat.zero_le _,rfl,Below.refl _ _,LH fun j hj=>by omega⟩
 case round =>
  obtain ⟨k,hk,rfl,hB,Hk⟩:=hrel
  by_cases hkk:k < xs.length
  · obtain ⟨b,off,s,rfl,hb,Hs,q0⟩:=h.get hkk
    rw [← hB.cell (by exact hb)] at q0
    have hc:=Hp.out s (List.mem_of_getElem? Hs.out) wr hB
    cases hq:p s
    · rw [hq] at hc
      have Hq:=LH hq
      have Hc:=LH hc
      clear hq hc
      go_wp2_with (go_at_fn g;refine Hc.out.mono ?_;rintro e w2 ⟨rfl,hb2⟩)
      go_roundw
      case rel=>exact ⟨k+1,by omega,by go_num,below_tail hB hb2,LH (next_none Hk.out Hs.out Hq.out)⟩
      case measure=>simp [intOf];omega
    · rw [hq] at hc
      have Hf:=LH (findI_at Hs.out hq Hk.out)
      have Hc:=LH hc
      clear hq hc
      go_wp2_with (go_at_fn g;refine Hc.out.mono ?_;rintro e w2 ⟨rfl,hb2⟩)
      go_ret
      exact ⟨by rw [Hf.out];rfl,below_tail hB hb2⟩
  · obtain rfl:k=xs.length:=by omega
    have Hf:Hid (findI p xs=-1):=LH (findI_none fun j y hy=>Hk.out j (List.getElem?_eq_some_iff.1 hy).1 y hy)
    go_wp2_with fail
    go_ret
    exact ⟨by rw [Hf.out];rfl,hB⟩
theorem findI_any {α:Type} (p:α→Bool) (l:List α):decide (0≤findI p l)=l.any p:=by
 rw [Bool.eq_iff_iff,decide_eq_true_iff,List.any_eq_true]
 constructor
 · intro h
   obtain ⟨k,hk⟩:∃ k:Nat,findI p l=(k:Int):=⟨(findI p l).toNat,by omega⟩
   obtain ⟨x,hx,hp,_⟩:=findI_pos hk
   exact ⟨x,List.mem_of_getElem? hx,hp⟩
 · rintro ⟨x,hx,hp⟩
   have hlo:=(findI_lo p l).1
   by_cases h:findI p l < 0
   · obtain ⟨j,hj⟩:=List.getElem?_of_mem hx
     rw [findI_neg h j x hj] at hp
     cases hp
   · omega
theorem sl_contains_ints (A:Option Addr) (n c:Nat) (xs:List Int) (g:FuncId) (caps:Array Value) (p:Int→Bool) (w:World) (eg:∀ args w,(callFunc g args).run Tryz.prog w = .ok (.enter g args) w)
 (h:Ints .i64 w A n c xs) (hp:Tells g caps (Value.int .i64) w xs p) :
 Calls Tryz.prog 44 #[.slice A n c, .func (.func g) #[] caps] w fun e w'=>e = .returned (.bool (xs.any p))∧Below w.heap.size w w':=by
 have hc:=sl_index_ints A n c xs g caps p w eg h hp
 rw [← findI_any]
 generalize findI p xs=r at *
 have Hc:=LH hc
 clear hc hp h
 go_enter Tryz.func44,Tryz.ntmps44
 go_wp2_with (go_at_call 86;(with_reducible refine Hc.out.mono ?_);rintro e w2 ⟨rfl,hb2⟩)
 go_ret
 exact ⟨rfl,hb2⟩
theorem sl_contains_strs (A:Option Addr) (n c:Nat) (xs:List ByteArray) (g:FuncId) (caps:Array Value) (p:ByteArray→Bool) (w:World) (eg:∀ args w,(callFunc g args).run Tryz.prog w = .ok (.enter g args) w)
 (h:Strs w A n c xs) (hp:Tells g caps Value.string w xs p) :
 Calls Tryz.prog 101 #[.slice A n c, .func (.func g) #[] caps] w fun e w'=>e = .returned (.bool (xs.any p))∧Below w.heap.size w w':=by
 have hc:=sl_index_strs A n c xs g caps p w eg h hp
 rw [← findI_any]
 generalize findI p xs=r at *
 have Hc:=LH hc
 clear hc hp h
 go_enter Tryz.func101,Tryz.ntmps101
 go_wp2_with (go_at_call 164;(with_reducible refine Hc.out.mono ?_);rintro e w2 ⟨rfl,hb2⟩)
 go_ret
 exact ⟨rfl,hb2⟩
theorem enters_rule1:∀ args w,(callFunc 167 args).run Tryz.prog w = .ok (.enter 167 args) w:=fun args w=>by kernel_rfl
theorem enters_right1:∀ args w,(callFunc 102 args).run Tryz.prog w = .ok (.enter 102 args) w:=fun args w=>by kernel_rfl
theorem cf_right1 (s:ByteArray) (w:World) :
 Calls Tryz.prog 102 #[.string s] w fun e w'=>e = .returned (.bool (!nameB (bytesOf s)))∧w=w':=by
 have c1:=lx_name s w
 generalize nameB (bytesOf s)=p at *
 have C1:=LH c1
 clear c1
 go_enter Tryz.func102,Tryz.ntmps102
 go_wp2_with (go_at_call 103;(with_reducible refine C1.out.mono ?_);rintro e w' ⟨rfl,rfl⟩)
 go_ret
 exact ⟨rfl,rfl⟩
theorem cf_rule1 (h:GH) (G:Gr) (gb rb:Nat) (s left:Int) (Ar:Option Addr) (nr cr:Nat) (prec:Int) (w:World) (hg:GrAt w h G) (hs:InI64 s) (h1:h.n1≤1000) (h2:h.n2≤1000)
 (hx:GBox w gb h G.start) (hy:RBox w rb left Ar nr cr prec) :
 Calls Tryz.prog 167 #[.int .i64 s, .pointer (some ⟨gb,0,none⟩), .pointer (some ⟨rb,0,none⟩)] w fun e w'=>e = .returned (.bool (!G.symOK prec s))∧Below w.heap.size w w':=by
 have cH:=cf_has h G s w hg hs h1 h2
 obtain ⟨a1,n1,c1,a2,n2,c2,a3,n3,c3⟩:=h
 have hdef:G.symOK prec s=(G.has s && !(decide (0≤s) && decide (prec=-1))):=rfl
 rw [hdef]
 obtain ⟨z5,z0,z1,z2,z3⟩:=hx
 obtain ⟨y5,y0,y1,y2⟩:=hy
 simp only [] at z0 z1 z2 z3
 generalize G.has s=b at *
 have CH:=LH cH
 clear cH hg hdef
 have hways:(b=false)∨(b=true∧s < 0)∨(b=true∧0≤s∧prec=-1)∨(b=true∧0≤s∧prec ≠ -1):=by
  cases b
  · simp
  · simp only [Bool.true_eq_false,false_or,true_and];omega
 rcases hways with rfl | ⟨rfl,g⟩ | ⟨rfl,g,g2⟩ | ⟨rfl,g,g2⟩
 · go_enter Tryz.func167,Tryz.ntmps167
   go_wp2_with (go_at_call 46;(with_reducible refine CH.out.mono ?_);rintro e w2 ⟨rfl,hb2⟩)
   go_ret
   exact ⟨rfl,hb2⟩
 · have d:decide (0≤s)=false:=by simp;omega
   go_enter Tryz.func167,Tryz.ntmps167
   go_wp2_with (go_at_call 46;(with_reducible refine CH.out.mono ?_);rintro e w2 ⟨rfl,hb2⟩)
   go_ret
   exact ⟨by simp [d],hb2⟩
 · have d:decide (0≤s)=true:=by simp;omega
   have d2:(prec == -1)=true:=by rw [beq_iff_eq];exact g2
   have D3:Hid (decide (prec=-1)=true):=LH (by simp [g2])
   clear g2
   go_enter Tryz.func167,Tryz.ntmps167
   go_wp2_with (go_at_call 46;(with_reducible refine CH.out.mono ?_);rintro e w2 ⟨rfl,hb2⟩;have hc2:=(bcell hb2).1)
   go_ret
   exact ⟨by rw [d,D3.out];rfl,hb2⟩
 · have d:decide (0≤s)=true:=by simp;omega
   have d2:(prec == -1)=false:=by rw [beq_eq_false_iff_ne];exact g2
   have D3:Hid (decide (prec=-1)=false):=LH (by simp [g2])
   clear g2
   go_enter Tryz.func167,Tryz.ntmps167
   go_wp2_with (go_at_call 46;(with_reducible refine CH.out.mono ?_);rintro e w2 ⟨rfl,hb2⟩;have hc2:=(bcell hb2).1)
   go_ret
   exact ⟨by rw [d,D3.out];rfl,hb2⟩
theorem cf_rule (h:GH) (G:Gr) (r:Rul) (Ar:Option Addr) (cr:Nat) (w:World) (hg:GrAt w h G) (hr:Ints .i64 w Ar r.right.length cr r.right) (hw:∀ s ∈ r.right,InI64 s) (h1:h.n1≤1000) (h2:h.n2≤1000) :
 Calls Tryz.prog 104 #[GV h G.start, .agg #[.int .i64 r.left, .slice Ar r.right.length cr, .int .i64 r.prec]] w fun e w'=>e = .returned (.bool (G.ruleOK r))∧Below w.heap.size w w':=by
 have c1:=fun gb rb (s:Int) w' (hg':GrAt w' h G) hs hx hy=>cf_rule1 h G gb rb s r.left Ar r.right.length cr r.prec w' hg' hs h1 h2 hx hy
 obtain ⟨a1,n1,c1',a2,n2,c2,a3,n3,c3⟩:=h
 have e1:G.terms.length=n1:=hg.terms.len
 have hcap:=hr.cap
 simp only [] at h1 h2
 have Hf:Hid (G.ruleOK r=(decide (r.right.length≤6) && decide (-1≤r.prec∧r.prec < (n1:Int)) && r.right.all (G.symOK r.prec))):=LH (by unfold Gr.ruleOK;rw [e1])
 clear e1
 have cW:=fun w=>cf_within r.prec (-1) ((n1:Int) - 1) w
 have hwi:withinB r.prec (-1) ((n1:Int) - 1)=decide (-1≤r.prec∧r.prec < (n1:Int)):=by
  unfold withinB
  rw [Bool.eq_iff_iff,decide_eq_true_iff,decide_eq_true_iff];omega
 rw [hwi] at cW
 clear hwi
 generalize decide (-1≤r.prec∧r.prec < (n1:Int))=bw at *
 have CW:=LH cW
 have C1:=LH c1
 have Hg:=LH hg
 have Hr:=LH hr
 have Hw:=LH hw
 clear cW c1 hg hr hw
 obtain ⟨hB0,hb1,hb2⟩:=two_boxes w 26 52 ⟨a1,n1,c1',a2,n2,c2,a3,n3,c3⟩ G.start r.left Ar r.right.length cr r.prec
 have hs0:IntKind.i64.wrap ((n1:Int) - 1)=(n1:Int) - 1:=IntWalk.i64_in _ (by omega)
 have hways:(6 < (r.right.length:Int))∨((r.right.length:Int)≤6∧bw=false)∨((r.right.length:Int)≤6∧bw=true):=by
  cases bw <;> simp <;> omega
 rcases hways with g | ⟨g,rfl⟩ | ⟨g,rfl⟩
 · have Hfin:Hid (G.ruleOK r=false):=LH (by
    rw [Hf.out]
    have:decide (r.right.length≤6)=false:=by simp;omega
    rw [this];rfl)
   clear hb1 hb2
   have HB0:=LH hB0
   clear hB0
   go_enter Tryz.func104,Tryz.ntmps104
   go_wp2_with fail
   go_ret
   exact ⟨by rw [Hfin.out];rfl,HB0.out⟩
 · have Hfin:Hid (G.ruleOK r=false):=LH (by rw [Hf.out];simp)
   clear hb1 hb2
   have HB0:=LH hB0
   clear hB0
   go_enter Tryz.func104,Tryz.ntmps104
   go_wp2_with fail
   (with_reducible refine (CW.out _).mono ?_)
   rintro e w2 ⟨rfl,rfl⟩
   go_wp2_with fail
   go_ret
   exact ⟨by rw [Hfin.out];rfl,HB0.out⟩
 · have Hfin:Hid (G.ruleOK r=r.right.all (G.symOK r.prec)):=LH (by
    rw [Hf.out]
    have:decide (r.right.length≤6)=true:=by simp;omega
    rw [this];rfl)
   go_enter Tryz.func104,Tryz.ntmps104
   go_wp2_with fail
   (with_reducible refine (CW.out _).mono ?_)
   rintro e w2 ⟨rfl,rfl⟩
   go_wp2_with fail
   generalize (w.alloc (.cells #[.slice a1 n1 c1', .slice a2 n2 c2, .slice a3 n3 c3, .int .i64 G.start] 26)).alloc (.cells #[.int .i64 r.left, .slice Ar r.right.length cr, .int .i64 r.prec] 52)=W1 at *
   have hT:Tells 167 #[.pointer (some ⟨w.heap.size,0,none⟩), .pointer (some ⟨w.heap.size+1,0,none⟩)] (Value.int .i64) W1 r.right (fun s=>!G.symOK r.prec s):=fun s hs w' hb' =>
    C1.out w.heap.size (w.heap.size+1) s w' ((Hg.out.below hB0).below hb') (Hw.out s hs) (hb1.below hb') (hb2.below hb')
   have hc:=sl_contains_ints Ar r.right.length cr r.right _ _ _ W1 enters_rule1 (Hr.out.below hB0) hT
   (with_reducible refine hc.mono ?_)
   rintro e w3 ⟨rfl,hb3⟩
   go_wp2_with fail
   go_ret
   have hq:(!r.right.any fun s=>!G.symOK r.prec s)=r.right.all (G.symOK r.prec):=by
    rw [List.all_eq_not_any_not]
   exact ⟨by rw [Hfin.out,← hq];rfl,below_tail hB0 hb3⟩
open Go.RowKit Go.Shelf Go.Sort
theorem grow_none (w:World):grow w #[]=w:=by unfold grow;simp
theorem cf_alone (A:Option Addr) (n c:Nat) (zs:List ByteArray) (w:World) (h:Strs w A n c zs) (hn:n≤1000) :
 Calls Tryz.prog 100 #[.slice A n c] w fun e w'=>e = .returned (.bool (decide zs.Nodup))∧Below w.heap.size w w':=by
 obtain rfl:=h.len
 have hcap:=h.cap
 have cV:=values_in A zs.length c w
 have hB0:=alloc_below w (.cells #[.slice A zs.length c] 23)
 have hbx:=alloc_cell w 23 #[.slice A zs.length c] 0
 simp only [List.getElem?_toArray,List.getElem?_cons_zero] at hbx
 have cS:=sorted_s w.heap.size zs.length c A zs hn (w.alloc (.cells #[.slice A zs.length c] 23)) (by simp) hbx (h.below hB0)
 have hsz:=alloc_size w (.cells #[.slice A zs.length c] 23)
 have CV:=LH cV
 have CS:=LH cS
 clear cV cS hbx
 go_enter Tryz.func100,Tryz.ntmps100
 go_wp2_with fail
 (with_reducible refine CV.out.mono ?_)
 rintro e w1 ⟨rfl,rfl⟩
 go_wp2_with fail
 (with_reducible refine CS.out.mono ?_)
 rintro e w2 ⟨hb2,hret⟩
 have hB2:=below_tail hB0 hb2
 rcases hret with ⟨rfl,rfl⟩ | ⟨g,cap,rfl,hbase,hgl,hcp,hH⟩
 · have Hc:=LH (Tryz.slices_Compact_string_empty none 0 w2)
   go_wp2_with fail
   (with_reducible refine Hc.out.mono ?_)
   rintro e w3 ⟨rfl,rfl⟩
   go_wp2_with fail
   go_ret
   exact ⟨by simp,hB2⟩
 · have hlen:((byL zs).mergeSort fun x y=>decide (x≤y)).length=zs.length:=by simp [byL]
   have cC:=Tryz.slices_Compact_string g 0 cap ((byL zs).mergeSort fun x y=>decide (x≤y)) w2 hH (by omega) (by omega)
   rw [hlen] at cC
   have hf:decide zs.Nodup=decide ((Lib.compact ((byL zs).mergeSort fun x y=>decide (x≤y))).length=zs.length):=by
    have:=sorted_len (byL zs)
    rw [byL_nodup,show (byL zs).length=zs.length by simp [byL]] at this
    rw [Bool.eq_iff_iff,decide_eq_true_iff,decide_eq_true_iff]
    exact this.symm
   have Hf:=LH hf
   have HB:Hid (∀ q d,Below w.heap.size w (putRow encStr (Sort.ahead w2 q) g 0 d)):=LH fun q d=>by
    have:=hB2.grown (grownBy_sorted (n:=q) (os:=#[]) (g:=g) d) hB2.size (fun j hj=>by cases hj;omega)
    rwa [grow_none] at this
   generalize (Lib.compact ((byL zs).mergeSort fun x y=>decide (x≤y))).length=m at *
   have CC:=LH cC
   clear cC hH hf hlen
   go_wp2_with fail
   (with_reducible refine CC.out.mono ?_)
   rintro e w3 ⟨rfl,q,rfl⟩
   have Hq:=LH (HB.out q (Lib.compact ((byL zs).mergeSort fun x y=>decide (x≤y))++List.replicate (zs.length - m) []).toArray)
   generalize putRow encStr (Sort.ahead w2 q) g 0 (Lib.compact ((byL zs).mergeSort fun x y=>decide (x≤y))++List.replicate (zs.length - m) []).toArray=w4 at *
   have Hm:Hid (((m:Int) == (zs.length:Int))=decide (m=zs.length)):=LH (by rw [Bool.eq_iff_iff];simp;omega)
   go_wp2_with fail
   go_ret
   exact ⟨by rw [Hf.out,← Hm.out];rfl,Hq.out⟩
end Go.Proofs.YtggbjdmpjidhgaaGreatDoor
