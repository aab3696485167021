/- numbers that may be too great: the reference's product, walked. -/
import Derived.Test.YtggbjdmpjidhgaaGreatDoorQCtR1
set_option linter.unusedVariables false
set_option linter.unusedSimpArgs false
set_option maxHeartbeats 8000000
set_option maxRecDepth 100000
namespace Go.Proofs.YtggbjdmpjidhgaaGreatDoor
open Go.RowKit
theorem rf_Times (A1:Option Addr) (n1 c1:Nat) (b1:Bool) (x:Nat) (A2:Option Addr) (n2 c2:Nat) (b2:Bool) (y:Nat) (w:World) (h1:ValN w A1 n1 c1 b1 x) (h2:ValN w A2 n2 c2 b2 y) :
 Calls Tryz.prog 26 #[.agg #[.slice A1 n1 c1, .bool b1], .agg #[.slice A2 n2 c2, .bool b2]] w (RetV w (x * y)):=by
 have k1:=h1.cases
 have k2:=h2.cases
 have z1:=h1.none_iff
 have z2:=h2.none_iff
 have H1:=LH h1.2
 have H2:=LH h2.2
 clear h1 h2
 have hB1:=alloc_below w (.cells #[.slice A1 n1 c1, .bool b1] 46)
 have hB2:=alloc_below (w.alloc (.cells #[.slice A1 n1 c1, .bool b1] 46)) (.cells #[.slice A2 n2 c2, .bool b2] 46)
 have hB3:=alloc_below ((w.alloc (.cells #[.slice A1 n1 c1, .bool b1] 46)).alloc (.cells #[.slice A2 n2 c2, .bool b2] 46)) (.cells #[.slice none 0 0, .bool false] 46)
 have hx1:=(Blk.new w 46 #[.slice A1 n1 c1, .bool b1])
 have hx2:=(Blk.new (w.alloc (.cells #[.slice A1 n1 c1, .bool b1] 46)) 46 #[.slice A2 n2 c2, .bool b2])
 have hx3:=(Blk.new ((w.alloc (.cells #[.slice A1 n1 c1, .bool b1] 46)).alloc (.cells #[.slice A2 n2 c2, .bool b2] 46)) 46 #[.slice none 0 0, .bool false])
 have e1:(w.alloc (.cells #[.slice A1 n1 c1, .bool b1] 46)).heap.size=w.heap.size+1:=alloc_size _ _
 have e2:((w.alloc (.cells #[.slice A1 n1 c1, .bool b1] 46)).alloc (.cells #[.slice A2 n2 c2, .bool b2] 46)).heap.size=w.heap.size+2:=by rw [alloc_size,e1]
 have hX1:=Blk.ext (Blk.ext hx1 hB2) hB3
 have hX2:=Blk.ext hx2 hB3
 have hB:=below_tail (below_tail hB1 hB2) hB3
 rw [e1] at hX2
 rw [e2] at hx3
 go_enter Tryz.func26,Tryz.ntmps26
 go_upto_region 1 with fail
 generalize ((w.alloc (.cells #[.slice A1 n1 c1, .bool b1] 46)).alloc (.cells #[.slice A2 n2 c2, .bool b2] 46)).alloc (.cells #[.slice none 0 0, .bool false] 46)=W at *
 clear hx1 hx2 e1 e2 hB1 hB2 hB3
 have l1:=hX1.lt
 have l2:=hX2.lt
 have l3:=hx3.lt
 have c10:W.cell? ⟨w.heap.size,0,none⟩=some (.slice A1 n1 c1):=hX1.cell 0
 have c11:W.cell? ⟨w.heap.size,1,none⟩=some (.bool b1):=hX1.cell 1
 have c20:W.cell? ⟨w.heap.size+1,0,none⟩=some (.slice A2 n2 c2):=hX2.cell 0
 have c21:W.cell? ⟨w.heap.size+1,1,none⟩=some (.bool b2):=hX2.cell 1
 have c30:W.cell? ⟨w.heap.size+2,0,none⟩=some (.slice none 0 0):=hx3.cell 0
 have c31:W.cell? ⟨w.heap.size+2,1,none⟩=some (.bool false):=hx3.cell 1
 have f30:=hx3.frozen 0
 have f31:=hx3.frozen 1
 have Hend0:=LH (valcell_end hx3 hB (Nat.le_add_right _ _))
 have CM:=LH (ref_mul A1 n1 c1 (capV x).1 A2 n2 c2 (capV y).1 W (H1.out.below hB) (H2.out.below hB) (capV_lim x) (capV_lim y))
 have HX1:=LH hX1
 have HX2:=LH hX2
 have HX3:=LH hx3
 have HB:=LH hB
 clear hX1 hX2 hx3 hB
 by_cases hx0:x=0
 · obtain ⟨rfl,rfl⟩:=z1.2 hx0
   clear k1 k2 z1 z2
   obtain ⟨hb,hr⟩:=Hend0.out none 0 0 false
   have Hb:=LH hb
   have Hr:=LH hr
   have Hz:Hid (x * y=0):=LH (by rw [hx0,Nat.zero_mul])
   clear hb hr
   go_wp2_with fail
   refine bodyPost_ret (results_cell_row (p:=4) (by kernel_rfl) _ _ (w.heap.size+2) 46 #[.slice none 0 0, .bool false] (0,0) _ rfl Hr.out.1 Tryz.underlying46 rfl (by kernel_rfl)) rfl ?_
   refine ⟨Hb.out,_,_,_,_,rfl,?_⟩
   rw [Hz.out]
   exact ValN.zero _ _ _ (by omega)
 by_cases hy0:y=0
 · obtain ⟨rfl,rfl⟩:=z2.2 hy0
   have hn1:b1=false→((n1:Int) == 0)=false:=fun hb=>by rw [beq_eq_false_iff_ne];intro h;exact hx0 (z1.1 ⟨hb,by omega⟩)
   clear k1 k2 z1 z2
   rcases b1 with _ | _
   all_goals
    first
     | (have hn1':=hn1 rfl
        clear hn1)
     | clear hn1
    obtain ⟨hb,hr⟩:=Hend0.out none 0 0 false
    have Hb:=LH hb
    have Hr:=LH hr
    have Hz:Hid (x * y=0):=LH (by rw [hy0,Nat.mul_zero])
    clear hb hr
    go_wp2_with fail
    refine bodyPost_ret (results_cell_row (p:=4) (by kernel_rfl) _ _ (w.heap.size+2) 46 #[.slice none 0 0, .bool false] (0,0) _ rfl Hr.out.1 Tryz.underlying46 rfl (by kernel_rfl)) rfl ?_
    refine ⟨Hb.out,_,_,_,_,rfl,?_⟩
    rw [Hz.out]
    exact ValN.zero _ _ _ (by omega)
 have hn1:b1=false→((n1:Int) == 0)=false:=fun hb=>by rw [beq_eq_false_iff_ne];intro h;exact hx0 (z1.1 ⟨hb,by omega⟩)
 have hn2:b2=false→((n2:Int) == 0)=false:=fun hb=>by rw [beq_eq_false_iff_ne];intro h;exact hy0 (z2.1 ⟨hb,by omega⟩)
 have hge1:x≤x * y:=Nat.le_mul_of_pos_right x (by omega)
 have hge2:y≤x * y:=Nat.le_mul_of_pos_left y (by omega)
 have Hg1:=LH hge1
 have Hg2:=LH hge2
 clear z1 z2 Hend0 hge1 hge2
 rcases k1 with ⟨hx,rfl,ex⟩ | ⟨hx,rfl,ex⟩
 all_goals
  rcases k2 with ⟨hy,rfl,ey⟩ | ⟨hy,rfl,ey⟩
  all_goals
   try (have hn1':=hn1 rfl)
   try (have hn2':=hn2 rfl)
   have Hxx:=LH hx
   have Hyy:=LH hy
   have Ex:=LH ex
   have Ey:=LH ey
   clear hn1 hn2 hx hy ex ey
   go_upto_region 4 with (first
    | (go_at_call 60;(with_reducible refine CM.out.mono ?_);rintro e W2 ⟨A3,c3,rfl,hN3,hB3⟩))
   have X1:=HX1.out.ext hB3
   have X2:=HX2.out.ext hB3
   have X3:=HX3.out.ext hB3
   have HBW:=LH (below_tail HB.out hB3)
   have c11:W2.cell? ⟨w.heap.size,1,none⟩=_:=X1.cell 1
   have c21:W2.cell? ⟨w.heap.size+1,1,none⟩=_:=X2.cell 1
   have c30:W2.cell? ⟨w.heap.size+2,0,none⟩=some (.slice none 0 0):=X3.cell 0
   have c31:W2.cell? ⟨w.heap.size+2,1,none⟩=some (.bool false):=X3.cell 1
   have f30:=X3.frozen 0
   have f31:=X3.frozen 1
   have m1:=X1.lt
   have m2:=X2.lt
   have m3:=X3.lt
   have HN:=LH hN3
   have Hend:=LH (valcell_end X3 HBW.out (Nat.le_add_right _ _))
   clear X1 X2 X3 hN3 hB3
   generalize hp:mulN (capV x).1 (capV y).1=p at *
   obtain ⟨zs,er⟩:=p
   simp only [] at HN
   have Hp:=LH hp
   clear hp
   have hzz:(¬ x * y < big)∨(x * y < big∧x < big∧y < big):=by
    by_cases hz:x * y < big
    · exact .inr ⟨hz,by have:=Hg1.out;omega,by have:=Hg2.out;omega⟩
    · exact .inl hz
   rcases hzz with hz | ⟨hz,hxs,hys⟩
   · have her:(fun (_:Unit)=>er) ()=er:=rfl
     clear her
     by_cases hsm:x < big∧y < big
     · have hq:fitN (x * y)=(zs,er):=by rw [← Hp.out,← mulN_limbs x y hsm.1 hsm.2,capV_small hsm.1,capV_small hsm.2]
       unfold fitN at hq
       rw [if_neg hz] at hq
       obtain ⟨rfl,rfl⟩:=Prod.mk.inj hq
       clear hq
       obtain ⟨hb,hr⟩:=Hend.out none 0 0 true
       have Hb:=LH hb
       have Hr:=LH hr
       have Hz:=LH hz
       clear hb hr hz hsm
       go_wp2_with fail
       refine bodyPost_ret (results_cell_row (p:=4) (by kernel_rfl) _ _ (w.heap.size+2) 46 #[.slice none 0 0, .bool true] (0,0) _ rfl Hr.out.1 Tryz.underlying46 rfl (by kernel_rfl)) rfl ?_
       exact ⟨Hb.out,_,_,_,_,rfl,ValN.over _ Hz.out⟩
     · first
        | exact absurd (And.intro Hxx.out Hyy.out) hsm
        | (obtain ⟨hb,hr⟩:=Hend.out none 0 0 true
           have Hb:=LH hb
           have Hr:=LH hr
           have Hz:=LH hz
           clear hb hr hz hsm
           go_wp2_with fail
           refine bodyPost_ret (results_cell_row (p:=4) (by kernel_rfl) _ _ (w.heap.size+2) 46 #[.slice none 0 0, .bool true] (0,0) _ rfl Hr.out.1 Tryz.underlying46 rfl (by kernel_rfl)) rfl ?_
           exact ⟨Hb.out,_,_,_,_,rfl,ValN.over _ Hz.out⟩)
   · first
      | exact absurd hxs Hxx.out
      | exact absurd hys Hyy.out
      | (have hq:fitN (x * y)=(zs,er):=by rw [← Hp.out,← mulN_limbs x y hxs hys,capV_small hxs,capV_small hys]
         unfold fitN at hq
         rw [if_pos hz] at hq
         obtain ⟨rfl,rfl⟩:=Prod.mk.inj hq
         obtain ⟨hb,hr⟩:=Hend.out A3 (limbs (x * y)).length c3 false
         have Hb:=LH hb
         have Hr:=LH hr
         have Hz:=LH hz
         clear hb hr hq hz hxs hys
         go_wp2_with fail
         refine bodyPost_ret (results_cell_row (p:=4) (by kernel_rfl) _ _ (w.heap.size+2) 46 #[.slice A3 (limbs (x * y)).length c3, .bool false] (0,0) _ rfl Hr.out.1 Tryz.underlying46 rfl (by kernel_rfl)) rfl ?_
         refine ⟨Hb.out,_,_,_,_,rfl,?_⟩
         unfold ValN
         rw [capV_small Hz.out]
         exact ⟨rfl,HN.out.kept Hr.out.2⟩)
end Go.Proofs.YtggbjdmpjidhgaaGreatDoor
