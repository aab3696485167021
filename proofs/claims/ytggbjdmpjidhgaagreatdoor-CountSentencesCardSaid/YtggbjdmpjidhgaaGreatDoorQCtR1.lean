/- numbers that may be too great: the reference's sum and product, walked. -/
import Derived.Test.YtggbjdmpjidhgaaGreatDoorQCtK
import Derived.Test.YtggbjdmpjidhgaaGreatDoorQNatR2
set_option linter.unusedVariables false
set_option linter.unusedSimpArgs false
set_option maxHeartbeats 8000000
set_option maxRecDepth 100000
namespace Go.Proofs.YtggbjdmpjidhgaaGreatDoor
open Go.RowKit
def RetV (w:World) (z:Nat) (e:Ending) (w':World):Prop:=Below w.heap.size w w'∧∃ A n c b,e = .returned (.agg #[.slice A n c, .bool b])∧ValN w' A n c b z
theorem ValN.over (w:World) {z:Nat} (h:¬ z < big):ValN w none 0 0 true z:=by
 unfold ValN
 rw [capV_big h]
 exact ⟨rfl,Nums.nil _ _ _ _ (by omega)⟩
theorem capV_lim (x:Nat):Lim (capV x).1:=by
 unfold capV
 split
 · exact limbs_lim x
 · exact fun y hy=>by cases hy
theorem ValN.cases {w:World} {A:Option Addr} {n c:Nat} {b:Bool} {x:Nat} (h:ValN w A n c b x):(x < big∧b=false∧(capV x).1=limbs x)∨(¬ x < big∧b=true∧(capV x).1=[]):=by
 obtain ⟨rfl,_⟩:=h
 by_cases hx:x < big
 · rw [capV_small hx];exact .inl ⟨hx,rfl,rfl⟩
 · rw [capV_big hx];exact .inr ⟨hx,rfl,rfl⟩
theorem valcell_end {w W2:World} {g:Nat} (hX:Blk W2 g 46 #[.slice none 0 0, .bool false]) (hB:Below w.heap.size w W2) (hg:w.heap.size≤g) (A:Option Addr) (n c:Nat) (b:Bool) :
 Below w.heap.size w ((W2.setCell ⟨g,0,none⟩ (.slice A n c)).setCell ⟨g,1,none⟩ (.bool b)) ∧
 Blk ((W2.setCell ⟨g,0,none⟩ (.slice A n c)).setCell ⟨g,1,none⟩ (.bool b)) g 46 #[.slice A n c, .bool b]∧IntKeep W2 ((W2.setCell ⟨g,0,none⟩ (.slice A n c)).setCell ⟨g,1,none⟩ (.bool b)):=by
 refine ⟨(hB.trans (grown_is_below (grown_set _ _ _ _) hB.size hg)).trans (grown_is_below (grown_set _ _ _ _) (by simpa using hB.size) hg),(hX.set 0 _).set 1 _,?_⟩
 refine IntKeep.of_off ((Off.of_set W2 g 0 (.slice A n c)).trans (Off.of_set _ g 1 (.bool b)) fun _ _ h=>h) fun q hq=>?_
 rw [hq]
 intro o k z hc
 rw [hX.cell o] at hc
 rcases o with _ | _ | o <;> cases hc
theorem rf_Plus (A1:Option Addr) (n1 c1:Nat) (b1:Bool) (x:Nat) (A2:Option Addr) (n2 c2:Nat) (b2:Bool) (y:Nat) (w:World) (h1:ValN w A1 n1 c1 b1 x) (h2:ValN w A2 n2 c2 b2 y) :
 Calls Tryz.prog 25 #[.agg #[.slice A1 n1 c1, .bool b1], .agg #[.slice A2 n2 c2, .bool b2]] w (RetV w (x+y)):=by
 have k1:=h1.cases
 have k2:=h2.cases
 have z1:=h1.none_iff
 have z2:=h2.none_iff
 have H1:=LH h1.2
 have H2:=LH h2.2
 clear h1 h2
 have hB1:=alloc_below w (.cells #[.slice A1 n1 c1, .bool b1] 46)
 have hB2:=alloc_below (w.alloc (.cells #[.slice A1 n1 c1, .bool b1] 46)) (.cells #[.slice A2 n2 c2, .bool b2] 46)
 have hB3:=alloc_below ((w.alloc (.cells #[.slice A1 n1 c1, .bool b1] 46)).alloc (.cells #[.slice A2 n2 c2, .bool b2] 46)) (.cells #[.slice none 0 0, .bool false] 46)
 have hx1:=(Blk.new w 46 #[.slice A1 n1 c1, .bool b1])
 have hx2:=(Blk.new (w.alloc (.cells #[.slice A1 n1 c1, .bool b1] 46)) 46 #[.slice A2 n2 c2, .bool b2])
 have hx3:=(Blk.new ((w.alloc (.cells #[.slice A1 n1 c1, .bool b1] 46)).alloc (.cells #[.slice A2 n2 c2, .bool b2] 46)) 46 #[.slice none 0 0, .bool false])
 have e1:(w.alloc (.cells #[.slice A1 n1 c1, .bool b1] 46)).heap.size=w.heap.size+1:=alloc_size _ _
 have e2:((w.alloc (.cells #[.slice A1 n1 c1, .bool b1] 46)).alloc (.cells #[.slice A2 n2 c2, .bool b2] 46)).heap.size=w.heap.size+2:=by rw [alloc_size,e1]
 have hX1:=Blk.ext (Blk.ext hx1 hB2) hB3
 have hX2:=Blk.ext hx2 hB3
 have hB:=below_tail (below_tail hB1 hB2) hB3
 rw [e1] at hX2
 rw [e2] at hx3
 go_enter Tryz.func25,Tryz.ntmps25
 go_upto_region 1 with fail
 generalize ((w.alloc (.cells #[.slice A1 n1 c1, .bool b1] 46)).alloc (.cells #[.slice A2 n2 c2, .bool b2] 46)).alloc (.cells #[.slice none 0 0, .bool false] 46)=W at *
 clear hx1 hx2 e1 e2 hB1 hB2 hB3
 have l1:=hX1.lt
 have l2:=hX2.lt
 have l3:=hx3.lt
 have c10:W.cell? ⟨w.heap.size,0,none⟩=some (.slice A1 n1 c1):=hX1.cell 0
 have c11:W.cell? ⟨w.heap.size,1,none⟩=some (.bool b1):=hX1.cell 1
 have c20:W.cell? ⟨w.heap.size+1,0,none⟩=some (.slice A2 n2 c2):=hX2.cell 0
 have c21:W.cell? ⟨w.heap.size+1,1,none⟩=some (.bool b2):=hX2.cell 1
 have CA:=LH (ref_add A1 n1 c1 (capV x).1 A2 n2 c2 (capV y).1 W (H1.out.below hB) (H2.out.below hB) (capV_lim x) (capV_lim y))
 have HX1:=LH hX1
 have HX2:=LH hX2
 have HX3:=LH hx3
 have HB:=LH hB
 clear hX1 hX2 hx3 hB z1 z2
 go_wp2_with fail
 (with_reducible refine CA.out.mono ?_)
 rintro e W2 ⟨A3,c3,rfl,hN3,hB3⟩
 clear c10 c11 c20 c21 CA
 have X1:=HX1.out.ext hB3
 have X2:=HX2.out.ext hB3
 have X3:=HX3.out.ext hB3
 have HBW:=LH (below_tail HB.out hB3)
 have c11:W2.cell? ⟨w.heap.size,1,none⟩=some (.bool b1):=X1.cell 1
 have c21:W2.cell? ⟨w.heap.size+1,1,none⟩=some (.bool b2):=X2.cell 1
 have c30:W2.cell? ⟨w.heap.size+2,0,none⟩=some (.slice none 0 0):=X3.cell 0
 have c31:W2.cell? ⟨w.heap.size+2,1,none⟩=some (.bool false):=X3.cell 1
 have f30:=X3.frozen 0
 have f31:=X3.frozen 1
 have m1:=X1.lt
 have m2:=X2.lt
 have m3:=X3.lt
 have HN:=LH hN3
 have Hend:=LH (valcell_end X3 HBW.out (Nat.le_add_right _ _))
 clear X1 X2 X3 hN3 hB3
 generalize hp:addN (capV x).1 (capV y).1=p at *
 obtain ⟨zs,er⟩:=p
 simp only [] at HN
 have Hp:=LH hp
 clear hp
 rcases k1 with ⟨hx,rfl,ex⟩ | ⟨hx,rfl,ex⟩
 rcases k2 with ⟨hy,rfl,ey⟩ | ⟨hy,rfl,ey⟩
 · have hq:fitN (x+y)=(zs,er):=by rw [← Hp.out,ex,ey,addN_limbs x y hx hy]
   by_cases hz:x+y < big
   · unfold fitN at hq
     rw [if_pos hz] at hq
     obtain ⟨rfl,rfl⟩:=Prod.mk.inj hq
     obtain ⟨hb,hr⟩:=Hend.out A3 (limbs (x+y)).length c3 false
     have Hb:=LH hb
     have Hr:=LH hr
     have Hz:=LH hz
     clear hb hr hq ex ey hz hx hy
     go_wp2_with fail
     refine bodyPost_ret (results_cell_row (p:=4) (by kernel_rfl) _ _ (w.heap.size+2) 46 #[.slice A3 (limbs (x+y)).length c3, .bool false] (0,0) _ rfl Hr.out.1 Tryz.underlying46 rfl (by kernel_rfl)) rfl ?_
     refine ⟨Hb.out,_,_,_,_,rfl,?_⟩
     unfold ValN
     rw [capV_small Hz.out]
     exact ⟨rfl,HN.out.kept Hr.out.2⟩
   · unfold fitN at hq
     rw [if_neg hz] at hq
     obtain ⟨rfl,rfl⟩:=Prod.mk.inj hq
     clear hq ex ey
     · obtain ⟨hb,hr⟩:=Hend.out none 0 0 true
       have Hb:=LH hb
       have Hr:=LH hr
       have Hz:Hid (¬ x+y < big):=LH (by exact hz)
       clear hb hr
       go_wp2_with fail
       refine bodyPost_ret (results_cell_row (p:=4) (by kernel_rfl) _ _ (w.heap.size+2) 46 #[.slice none 0 0, .bool true] (0,0) _ rfl Hr.out.1 Tryz.underlying46 rfl (by kernel_rfl)) rfl ?_
       exact ⟨Hb.out,_,_,_,_,rfl,ValN.over _ Hz.out⟩
 · obtain ⟨hb,hr⟩:=Hend.out none 0 0 true
   have Hb:=LH hb
   have Hr:=LH hr
   have Hz:Hid (¬ x+y < big):=LH (by omega)
   clear hb hr
   go_wp2_with fail
   refine bodyPost_ret (results_cell_row (p:=4) (by kernel_rfl) _ _ (w.heap.size+2) 46 #[.slice none 0 0, .bool true] (0,0) _ rfl Hr.out.1 Tryz.underlying46 rfl (by kernel_rfl)) rfl ?_
   exact ⟨Hb.out,_,_,_,_,rfl,ValN.over _ Hz.out⟩
 · obtain ⟨hb,hr⟩:=Hend.out none 0 0 true
   have Hb:=LH hb
   have Hr:=LH hr
   have Hz:Hid (¬ x+y < big):=LH (by omega)
   clear hb hr
   go_wp2_with fail
   refine bodyPost_ret (results_cell_row (p:=4) (by kernel_rfl) _ _ (w.heap.size+2) 46 #[.slice none 0 0, .bool true] (0,0) _ rfl Hr.out.1 Tryz.underlying46 rfl (by kernel_rfl)) rfl ?_
   exact ⟨Hb.out,_,_,_,_,rfl,ValN.over _ Hz.out⟩
end Go.Proofs.YtggbjdmpjidhgaaGreatDoor
