/- the program's numbers that may be too great: their sum and product, walked. -/
import Derived.Test.YtggbjdmpjidhgaaGreatDoorQCtM1
import Derived.Test.YtggbjdmpjidhgaaGreatDoorQCtR3
set_option linter.unusedVariables false
set_option linter.unusedSimpArgs false
set_option maxHeartbeats 8000000
set_option maxRecDepth 100000
namespace Go.Proofs.YtggbjdmpjidhgaaGreatDoor
open Go.RowKit
theorem vcell_end {w W2:World} {g:Nat} {A0:Option Addr} {n0 c0:Nat} {b0:Bool} (hX:Blk W2 g 77 #[.slice A0 n0 c0, .bool b0]) (hB:Below w.heap.size w W2) (hg:w.heap.size≤g) (A:Option Addr) (n c:Nat) (b:Bool) :
 Below w.heap.size w ((W2.setCell ⟨g,0,none⟩ (.slice A n c)).setCell ⟨g,1,none⟩ (.bool b)) ∧
 Blk ((W2.setCell ⟨g,0,none⟩ (.slice A n c)).setCell ⟨g,1,none⟩ (.bool b)) g 77 #[.slice A n c, .bool b]∧IntKeep W2 ((W2.setCell ⟨g,0,none⟩ (.slice A n c)).setCell ⟨g,1,none⟩ (.bool b)):=by
 refine ⟨(hB.trans (grown_is_below (grown_set _ _ _ _) hB.size hg)).trans (grown_is_below (grown_set _ _ _ _) (by simpa using hB.size) hg),(hX.set 0 _).set 1 _,?_⟩
 refine IntKeep.of_off ((Off.of_set W2 g 0 (.slice A n c)).trans (Off.of_set _ g 1 (.bool b)) fun _ _ h=>h) fun q hq=>?_
 rw [hq]
 exact cell_noInt hX
theorem tr_cof (A:Option Addr) (n c:Nat) (er:Int) (w:World) :
 Calls Tryz.prog 202 #[.slice A n c, .int .i64 er] w fun e w'=>e = .returned (.agg #[.slice A n c, .bool (er == 2)])∧Below w.heap.size w w':=by
 have hB1:=alloc_below w (.cells #[.slice none 0 0, .bool false] 77)
 have hX:=Blk.new w 77 #[.slice none 0 0, .bool false]
 go_enter Tryz.func202,Tryz.ntmps202
 go_upto_region 1 with fail
 generalize w.alloc (.cells #[.slice none 0 0, .bool false] 77)=W at *
 have c0:W.cell? ⟨w.heap.size,0,none⟩=some (.slice none 0 0):=hX.cell 0
 have c1:W.cell? ⟨w.heap.size,1,none⟩=some (.bool false):=hX.cell 1
 have f0:=hX.frozen 0
 have f1:=hX.frozen 1
 have l1:=hX.lt
 obtain ⟨bq,hbq⟩:∃ bq,bq=(er == 2):=⟨_,rfl⟩
 have Hend:=LH (vcell_end hX hB1 (Nat.le_refl _) A n c bq)
 have Hbq:=LH hbq
 have hbq2:(er == 2)=bq:=hbq.symm
 clear hX hB1 hbq
 go_wp2_with fail
 refine bodyPost_ret (results_cell_row (p:=4) (by kernel_rfl) _ _ w.heap.size 77 #[.slice A n c, .bool bq] (0,0) _ rfl Hend.out.2.1 Tryz.underlying77 rfl (by kernel_rfl)) rfl ?_
 exact ⟨by rw [Hbq.out],Hend.out.1⟩
theorem tr_none (A:Option Addr) (n c:Nat) (b:Bool) (x:Nat) (w:World) (h:ValN w A n c b x) :
 Calls Tryz.prog 156 #[.agg #[.slice A n c, .bool b]] w fun e w'=>e = .returned (.bool (decide (x=0)))∧Below w.heap.size w w':=by
 have hB:=alloc_below w (.cells #[.slice A n c, .bool b] 77)
 have hz:=h.none_iff
 have hl:=h.2.cap
 go_enter Tryz.func156,Tryz.ntmps156
 clear h
 cases b
 case true =>
  have hx:decide (x=0)=false:=by rw [decide_eq_false_iff_not];intro e;have:=hz.2 e;cases this.1
  have Hx:=LH hx
  clear hz hx
  go_wp2_with fail
  go_ret
  exact ⟨by rw [Hx.out];rfl,hB⟩
 case false =>
  by_cases hn:n=0
  · subst hn
    have hx:decide (x=0)=true:=by rw [decide_eq_true_iff];exact hz.1 ⟨rfl,rfl⟩
    have Hx:=LH hx
    clear hz hx
    go_wp2_with fail
    go_ret
    exact ⟨by rw [Hx.out];rfl,hB⟩
  · have hx:decide (x=0)=false:=by rw [decide_eq_false_iff_not];intro e;exact hn (hz.2 e).2
    have hni:((n:Int) == 0)=false:=by rw [beq_eq_false_iff_ne];omega
    have Hx:=LH hx
    clear hz hx hn
    go_wp2_with fail
    go_ret
    exact ⟨by rw [Hx.out];rfl,hB⟩
theorem three_vals (w:World) (t:TypeId) (x1 x2 x3:Array Value):Below w.heap.size w (((w.alloc (.cells x1 t)).alloc (.cells x2 t)).alloc (.cells x3 t))∧Blk (((w.alloc (.cells x1 t)).alloc (.cells x2 t)).alloc (.cells x3 t)) w.heap.size t x1 ∧
 Blk (((w.alloc (.cells x1 t)).alloc (.cells x2 t)).alloc (.cells x3 t)) (w.heap.size+1) t x2∧Blk (((w.alloc (.cells x1 t)).alloc (.cells x2 t)).alloc (.cells x3 t)) (w.heap.size+2) t x3:=by
 have hB1:=alloc_below w (.cells x1 t)
 have hB2:=alloc_below (w.alloc (.cells x1 t)) (.cells x2 t)
 have hB3:=alloc_below ((w.alloc (.cells x1 t)).alloc (.cells x2 t)) (.cells x3 t)
 have h1:=Blk.new w t x1
 have h2:=Blk.new (w.alloc (.cells x1 t)) t x2
 have h3:=Blk.new ((w.alloc (.cells x1 t)).alloc (.cells x2 t)) t x3
 have e1:(w.alloc (.cells x1 t)).heap.size=w.heap.size+1:=alloc_size _ _
 have e2:((w.alloc (.cells x1 t)).alloc (.cells x2 t)).heap.size=w.heap.size+2:=by rw [alloc_size,e1]
 have g2:=Blk.ext h2 hB3
 rw [e1] at g2
 rw [e2] at h3
 exact ⟨below_tail (below_tail hB1 hB2) hB3,Blk.ext (Blk.ext h1 hB2) hB3,g2,h3⟩
theorem tr_plus (A1:Option Addr) (n1 c1:Nat) (b1:Bool) (x:Nat) (A2:Option Addr) (n2 c2:Nat) (b2:Bool) (y:Nat) (w:World) (h1:ValN w A1 n1 c1 b1 x) (h2:ValN w A2 n2 c2 b2 y) :
 Calls Tryz.prog 157 #[.agg #[.slice A1 n1 c1, .bool b1], .agg #[.slice A2 n2 c2, .bool b2]] w (RetV w (x+y)):=by
 have k1:=h1.cases
 have k2:=h2.cases
 have H1:=LH h1.2
 have H2:=LH h2.2
 clear h1 h2
 obtain ⟨hB,hX1,hX2,hX3⟩:=three_vals w 77 #[.slice A1 n1 c1, .bool b1] #[.slice A2 n2 c2, .bool b2] #[.slice none 0 0, .bool false]
 go_enter Tryz.func157,Tryz.ntmps157
 go_upto_region 1 with fail
 generalize ((w.alloc (.cells #[.slice A1 n1 c1, .bool b1] 77)).alloc (.cells #[.slice A2 n2 c2, .bool b2] 77)).alloc (.cells #[.slice none 0 0, .bool false] 77)=W at *
 have l1:=hX1.lt
 have l2:=hX2.lt
 have l3:=hX3.lt
 have c10:W.cell? ⟨w.heap.size,0,none⟩=some (.slice A1 n1 c1):=hX1.cell 0
 have c11:W.cell? ⟨w.heap.size,1,none⟩=some (.bool b1):=hX1.cell 1
 have c20:W.cell? ⟨w.heap.size+1,0,none⟩=some (.slice A2 n2 c2):=hX2.cell 0
 have c21:W.cell? ⟨w.heap.size+1,1,none⟩=some (.bool b2):=hX2.cell 1
 have c30:W.cell? ⟨w.heap.size+2,0,none⟩=some (.slice none 0 0):=hX3.cell 0
 have c31:W.cell? ⟨w.heap.size+2,1,none⟩=some (.bool false):=hX3.cell 1
 have f30:=hX3.frozen 0
 have f31:=hX3.frozen 1
 have HX3:=LH hX3
 have HB:=LH hB
 have HbigE:=LH (vcell_end hX3 hB (Nat.le_add_right _ _) none 0 0 true)
 by_cases hbb:b1=true∨b2=true
 case pos =>
  have Hz:Hid (¬ x+y < big):=LH (by
   rcases k1 with ⟨hx,e1,_⟩ | ⟨hx,e1,_⟩
   · rcases k2 with ⟨hy,e2,_⟩ | ⟨hy,e2,_⟩
     · rw [e1,e2] at hbb;simp at hbb
     · omega
   · omega)
  clear hX1 hX2 hX3 hB k1 k2
  rcases (by cases b1 <;> cases b2 <;> simp at hbb <;> simp:b1=true∨(b1=false∧b2=true)) with rfl | ⟨rfl,rfl⟩
  all_goals
   clear hbb
   go_wp2_with fail
   refine bodyPost_ret (results_cell_row (p:=4) (by kernel_rfl) _ _ (w.heap.size+2) 77 #[.slice none 0 0, .bool true] (0,0) _ rfl HbigE.out.2.1 Tryz.underlying77 rfl (by kernel_rfl)) rfl ?_
   exact ⟨HbigE.out.1,_,_,_,_,rfl,ValN.over _ Hz.out⟩
 case neg =>
  obtain ⟨rfl,rfl⟩:b1=false∧b2=false:=by cases b1 <;> cases b2 <;> simp at hbb <;> simp
  obtain ⟨hx,ex⟩:x < big∧(capV x).1=limbs x:=by
   rcases k1 with ⟨hx,_,ex⟩ | ⟨_,e,_⟩
   · exact ⟨hx,ex⟩
   · cases e
  obtain ⟨hy,ey⟩:y < big∧(capV y).1=limbs y:=by
   rcases k2 with ⟨hy,_,ey⟩ | ⟨_,e,_⟩
   · exact ⟨hy,ey⟩
   · cases e
  have CA:=nat_add A1 n1 c1 (capV x).1 A2 n2 c2 (capV y).1 W (H1.out.below hB) (H2.out.below hB) (capV_lim x) (capV_lim y)
  rw [ex,ey,addN_limbs x y hx hy] at CA
  have CA:=LH CA
  clear hX1 hX2 hX3 hB k1 k2 hbb ex ey hx hy HbigE
  go_wp2_with fail
  (with_reducible refine CA.out.mono ?_)
  rintro e W2 ⟨A3,c3,rfl,hN3,hB3⟩
  generalize hp:fitN (x+y)=p at *
  obtain ⟨zs,er⟩:=p
  simp only [] at hN3
  have Hp:=LH hp
  have HN:=LH hN3
  have X3:=HX3.out.ext hB3
  have HBW:=LH (below_tail HB.out hB3)
  clear c10 c11 c20 c21 c30 c31 f30 f31 l1 l2 l3 hp hN3 hB3 CA
  go_wp2_with fail
  (with_reducible refine (tr_cof A3 zs.length c3 (er:Int) W2).mono ?_)
  rintro e W3 ⟨rfl,hB4⟩
  have X4:=X3.ext hB4
  have c30:W3.cell? ⟨w.heap.size+2,0,none⟩=some (.slice none 0 0):=X4.cell 0
  have c31:W3.cell? ⟨w.heap.size+2,1,none⟩=some (.bool false):=X4.cell 1
  have f30:=X4.frozen 0
  have f31:=X4.frozen 1
  have l3:=X4.lt
  have HN4:=LH (HN.out.below hB4)
  obtain ⟨bq,hbq⟩:∃ bq,bq=((er:Int) == 2):=⟨_,rfl⟩
  have Hend:=LH (vcell_end X4 (below_tail HBW.out hB4) (Nat.le_add_right _ _) A3 zs.length c3 bq)
  rw [← hbq]
  have Hval:Hid (∀ (w':World),Nums .u32 w' A3 zs.length c3 zs→ValN w' A3 zs.length c3 bq (x+y)):=LH fun w' hn=>by
   have hq:=Hp.out
   unfold fitN at hq
   unfold ValN capV
   by_cases hz:x+y < big
   · rw [if_pos hz] at hq ⊢
     obtain ⟨rfl,rfl⟩:=Prod.mk.inj hq
     exact ⟨by rw [hbq];rfl,hn⟩
   · rw [if_neg hz] at hq ⊢
     obtain ⟨rfl,rfl⟩:=Prod.mk.inj hq
     exact ⟨by rw [hbq];rfl,hn⟩
  clear X3 X4 hB4 hbq
  go_wp2_with fail
  refine bodyPost_ret (results_cell_row (p:=4) (by kernel_rfl) _ _ (w.heap.size+2) 77 #[.slice A3 zs.length c3, .bool bq] (0,0) _ rfl Hend.out.2.1 Tryz.underlying77 rfl (by kernel_rfl)) rfl ?_
  exact ⟨Hend.out.1,_,_,_,_,rfl,Hval.out _ (HN4.out.kept Hend.out.2.2)⟩
theorem tr_times (A1:Option Addr) (n1 c1:Nat) (b1:Bool) (x:Nat) (A2:Option Addr) (n2 c2:Nat) (b2:Bool) (y:Nat) (w:World) (h1:ValN w A1 n1 c1 b1 x) (h2:ValN w A2 n2 c2 b2 y) :
 Calls Tryz.prog 158 #[.agg #[.slice A1 n1 c1, .bool b1], .agg #[.slice A2 n2 c2, .bool b2]] w (RetV w (x * y)):=by
 have k1:=h1.cases
 have k2:=h2.cases
 have H1:=LH h1
 have H2:=LH h2
 clear h1 h2
 obtain ⟨hB,hX1,hX2,hX3⟩:=three_vals w 77 #[.slice A1 n1 c1, .bool b1] #[.slice A2 n2 c2, .bool b2] #[.slice none 0 0, .bool false]
 go_enter Tryz.func158,Tryz.ntmps158
 go_upto_region 1 with fail
 generalize ((w.alloc (.cells #[.slice A1 n1 c1, .bool b1] 77)).alloc (.cells #[.slice A2 n2 c2, .bool b2] 77)).alloc (.cells #[.slice none 0 0, .bool false] 77)=W at *
 have l1:=hX1.lt
 have l2:=hX2.lt
 have c10:W.cell? ⟨w.heap.size,0,none⟩=some (.slice A1 n1 c1):=hX1.cell 0
 have c11:W.cell? ⟨w.heap.size,1,none⟩=some (.bool b1):=hX1.cell 1
 have c20:W.cell? ⟨w.heap.size+1,0,none⟩=some (.slice A2 n2 c2):=hX2.cell 0
 have c21:W.cell? ⟨w.heap.size+1,1,none⟩=some (.bool b2):=hX2.cell 1
 have HX1:=LH hX1
 have HX2:=LH hX2
 have HX3:=LH hX3
 have HB:=LH hB
 have C1:=LH (tr_none A1 n1 c1 b1 x W (H1.out.below hB))
 clear hX1 hX2 hX3 hB
 go_wp2_with fail
 (with_reducible refine C1.out.mono ?_)
 rintro e W1 ⟨rfl,hb1⟩
 have HB1:=LH (below_tail HB.out hb1)
 have HX1:=LH (HX1.out.ext hb1)
 have HX2:=LH (HX2.out.ext hb1)
 have HX3:=LH (HX3.out.ext hb1)
 clear hb1 C1 HB c10 c11 c20 c21 l1 l2
 have l1:=HX1.out.lt
 have l2:=HX2.out.lt
 have l3:=HX3.out.lt
 have c10:W1.cell? ⟨w.heap.size,0,none⟩=some (.slice A1 n1 c1):=HX1.out.cell 0
 have c11:W1.cell? ⟨w.heap.size,1,none⟩=some (.bool b1):=HX1.out.cell 1
 have c20:W1.cell? ⟨w.heap.size+1,0,none⟩=some (.slice A2 n2 c2):=HX2.out.cell 0
 have c21:W1.cell? ⟨w.heap.size+1,1,none⟩=some (.bool b2):=HX2.out.cell 1
 have c30:W1.cell? ⟨w.heap.size+2,0,none⟩=some (.slice none 0 0):=HX3.out.cell 0
 have c31:W1.cell? ⟨w.heap.size+2,1,none⟩=some (.bool false):=HX3.out.cell 1
 have f30:=HX3.out.frozen 0
 have f31:=HX3.out.frozen 1
 by_cases hx0:x=0
 case pos =>
  subst hx0
  have hd:decide ((0:Nat)=0)=true:=rfl
  have Hend:=LH (vcell_end HX3.out HB1.out (Nat.le_add_right _ _) none 0 0 false)
  clear k1 k2
  go_wp2_with fail
  refine bodyPost_ret (results_cell_row (p:=4) (by kernel_rfl) _ _ (w.heap.size+2) 77 #[.slice none 0 0, .bool false] (0,0) _ rfl Hend.out.2.1 Tryz.underlying77 rfl (by kernel_rfl)) rfl ?_
  exact ⟨Hend.out.1,_,_,_,_,rfl,by rw [Nat.zero_mul];exact ValN.zero _ _ _ (by omega)⟩
 have hd:decide (x=0)=false:=by rw [decide_eq_false_iff_not];exact hx0
 have C2:=LH (tr_none A2 n2 c2 b2 y W1 (H2.out.below HB1.out))
 have Hx0:=LH hx0
 clear hx0
 rw [hd]
 go_wp2_with fail
 (with_reducible refine C2.out.mono ?_)
 rintro e W2 ⟨rfl,hb2⟩
 have HB2:=LH (below_tail HB1.out hb2)
 have HX1:=LH (HX1.out.ext hb2)
 have HX2:=LH (HX2.out.ext hb2)
 have HX3:=LH (HX3.out.ext hb2)
 clear hb2 C2 HB1 c10 c11 c20 c21 l1 l2 l3 c30 c31 f30 f31 hd
 have l1:=HX1.out.lt
 have l2:=HX2.out.lt
 have l3:=HX3.out.lt
 have c10:W2.cell? ⟨w.heap.size,0,none⟩=some (.slice A1 n1 c1):=HX1.out.cell 0
 have c11:W2.cell? ⟨w.heap.size,1,none⟩=some (.bool b1):=HX1.out.cell 1
 have c20:W2.cell? ⟨w.heap.size+1,0,none⟩=some (.slice A2 n2 c2):=HX2.out.cell 0
 have c21:W2.cell? ⟨w.heap.size+1,1,none⟩=some (.bool b2):=HX2.out.cell 1
 have c30:W2.cell? ⟨w.heap.size+2,0,none⟩=some (.slice none 0 0):=HX3.out.cell 0
 have c31:W2.cell? ⟨w.heap.size+2,1,none⟩=some (.bool false):=HX3.out.cell 1
 have f30:=HX3.out.frozen 0
 have f31:=HX3.out.frozen 1
 by_cases hy0:y=0
 case pos =>
  subst hy0
  have hd:decide ((0:Nat)=0)=true:=rfl
  have Hend:=LH (vcell_end HX3.out HB2.out (Nat.le_add_right _ _) none 0 0 false)
  clear k1 k2
  go_wp2_with fail
  refine bodyPost_ret (results_cell_row (p:=4) (by kernel_rfl) _ _ (w.heap.size+2) 77 #[.slice none 0 0, .bool false] (0,0) _ rfl Hend.out.2.1 Tryz.underlying77 rfl (by kernel_rfl)) rfl ?_
  exact ⟨Hend.out.1,_,_,_,_,rfl,by rw [Nat.mul_zero];exact ValN.zero _ _ _ (by omega)⟩
 have hd:decide (y=0)=false:=by rw [decide_eq_false_iff_not];exact hy0
 rw [hd]
 have HbigE:=LH (vcell_end HX3.out HB2.out (Nat.le_add_right _ _) none 0 0 true)
 by_cases hbb:b1=true∨b2=true
 case pos =>
  have Hz:Hid (¬ x * y < big):=LH (by
   have hx1:x≤x * y:=Nat.le_mul_of_pos_right x (by omega)
   have hx0:=Hx0.out
   have hy1:y≤x * y:=Nat.le_mul_of_pos_left y (by omega)
   rcases k1 with ⟨hx,e1,_⟩ | ⟨hx,e1,_⟩
   · rcases k2 with ⟨hy,e2,_⟩ | ⟨hy,e2,_⟩
     · rw [e1,e2] at hbb;simp at hbb
     · omega
   · omega)
  clear k1 k2 hy0 hd
  rcases (by cases b1 <;> cases b2 <;> simp at hbb <;> simp:b1=true∨(b1=false∧b2=true)) with rfl | ⟨rfl,rfl⟩
  all_goals
   clear hbb
   go_wp2_with fail
   refine bodyPost_ret (results_cell_row (p:=4) (by kernel_rfl) _ _ (w.heap.size+2) 77 #[.slice none 0 0, .bool true] (0,0) _ rfl HbigE.out.2.1 Tryz.underlying77 rfl (by kernel_rfl)) rfl ?_
   exact ⟨HbigE.out.1,_,_,_,_,rfl,ValN.over _ Hz.out⟩
 case neg =>
  obtain ⟨rfl,rfl⟩:b1=false∧b2=false:=by cases b1 <;> cases b2 <;> simp at hbb <;> simp
  obtain ⟨hx,ex⟩:x < big∧(capV x).1=limbs x:=by
   rcases k1 with ⟨hx,_,ex⟩ | ⟨_,e,_⟩
   · exact ⟨hx,ex⟩
   · cases e
  obtain ⟨hy,ey⟩:y < big∧(capV y).1=limbs y:=by
   rcases k2 with ⟨hy,_,ey⟩ | ⟨_,e,_⟩
   · exact ⟨hy,ey⟩
   · cases e
  have CA:=nat_mul A1 n1 c1 (capV x).1 A2 n2 c2 (capV y).1 W2 (H1.out.2.below HB2.out) (H2.out.2.below HB2.out) (capV_lim x) (capV_lim y)
  rw [ex,ey,mulN_limbs x y hx hy] at CA
  have CA:=LH CA
  clear k1 k2 hbb ex ey hx hy HbigE hy0 hd
  go_wp2_with fail
  (with_reducible refine CA.out.mono ?_)
  rintro e W3 ⟨A3,c3,rfl,hN3,hB3⟩
  generalize hp:fitN (x * y)=p at *
  obtain ⟨zs,er⟩:=p
  simp only [] at hN3
  have Hp:=LH hp
  have HN:=LH hN3
  have X3:=HX3.out.ext hB3
  have HBW:=LH (below_tail HB2.out hB3)
  clear c10 c11 c20 c21 c30 c31 f30 f31 l1 l2 l3 hp hN3 hB3 CA
  go_wp2_with fail
  (with_reducible refine (tr_cof A3 zs.length c3 (er:Int) W3).mono ?_)
  rintro e W4 ⟨rfl,hB4⟩
  have X4:=X3.ext hB4
  have c30:W4.cell? ⟨w.heap.size+2,0,none⟩=some (.slice none 0 0):=X4.cell 0
  have c31:W4.cell? ⟨w.heap.size+2,1,none⟩=some (.bool false):=X4.cell 1
  have f30:=X4.frozen 0
  have f31:=X4.frozen 1
  have l3:=X4.lt
  have HN4:=LH (HN.out.below hB4)
  obtain ⟨bq,hbq⟩:∃ bq,bq=((er:Int) == 2):=⟨_,rfl⟩
  have Hend:=LH (vcell_end X4 (below_tail HBW.out hB4) (Nat.le_add_right _ _) A3 zs.length c3 bq)
  rw [← hbq]
  have Hval:Hid (∀ (w':World),Nums .u32 w' A3 zs.length c3 zs→ValN w' A3 zs.length c3 bq (x * y)):=LH fun w' hn=>by
   have hq:=Hp.out
   unfold fitN at hq
   unfold ValN capV
   by_cases hz:x * y < big
   · rw [if_pos hz] at hq ⊢
     obtain ⟨rfl,rfl⟩:=Prod.mk.inj hq
     exact ⟨by rw [hbq];rfl,hn⟩
   · rw [if_neg hz] at hq ⊢
     obtain ⟨rfl,rfl⟩:=Prod.mk.inj hq
     exact ⟨by rw [hbq];rfl,hn⟩
  clear X3 X4 hB4 hbq
  go_wp2_with fail
  refine bodyPost_ret (results_cell_row (p:=4) (by kernel_rfl) _ _ (w.heap.size+2) 77 #[.slice A3 zs.length c3, .bool bq] (0,0) _ rfl Hend.out.2.1 Tryz.underlying77 rfl (by kernel_rfl)) rfl ?_
  exact ⟨Hend.out.1,_,_,_,_,rfl,Hval.out _ (HN4.out.kept Hend.out.2.2)⟩
theorem tr_exactly (n:Nat) (w:World) (hn:n≤1000):Calls Tryz.prog 200 #[.int .i64 (n:Int)] w (RetV w (oneT n)):=by
 have hB1:=alloc_below w (.cells #[.slice none 0 0, .bool false] 77)
 have hX:=Blk.new w 77 #[.slice none 0 0, .bool false]
 go_enter Tryz.func200,Tryz.ntmps200
 go_upto_region 1 with fail
 generalize w.alloc (.cells #[.slice none 0 0, .bool false] 77)=W at *
 have c0:W.cell? ⟨w.heap.size,0,none⟩=some (.slice none 0 0):=hX.cell 0
 have c1:W.cell? ⟨w.heap.size,1,none⟩=some (.bool false):=hX.cell 1
 have f0:=hX.frozen 0
 have f1:=hX.frozen 1
 have l1:=hX.lt
 by_cases hn1:n=1
 · subst hn1
   have Ho:Hid (oneT 1=1):=LH rfl
   have HX:=LH hX
   have HB:=LH hB1
   clear hX hB1
   have CO:Calls Tryz.prog 153 #[.int .u64 1] W (RetLimbs W (limbs 1)):=nat_of 1 W (by omega)
   go_wp2_with fail
   (with_reducible refine CO.mono ?_)
   rintro e W2 ⟨A3,c3,rfl,hN3,hB3⟩
   have hl1:limbs 1=[1]:=rfl
   rw [hl1] at hN3
   simp only [hl1,List.length_singleton] at hN3 ⊢
   have X3:=HX.out.ext hB3
   have HBW:=LH (below_tail HB.out hB3)
   have HN:=LH hN3
   have d0:W2.cell? ⟨w.heap.size,0,none⟩=some (.slice none 0 0):=X3.cell 0
   have d1:W2.cell? ⟨w.heap.size,1,none⟩=some (.bool false):=X3.cell 1
   have g0:=X3.frozen 0
   have g1:=X3.frozen 1
   have l2:=X3.lt
   have X4:=X3.set 0 (.slice A3 1 c3)
   have HB4:=LH (HBW.out.trans (grown_is_below (grown_set W2 w.heap.size 0 (.slice A3 1 c3)) HBW.out.size (Nat.le_refl _)))
   have e1:((W2.setCell ⟨w.heap.size,0,none⟩ (.slice A3 1 c3)).cell? ⟨w.heap.size,0,none⟩)=some (.slice A3 1 c3):=X4.cell 0
   have e2:((W2.setCell ⟨w.heap.size,0,none⟩ (.slice A3 1 c3)).cell? ⟨w.heap.size,1,none⟩)=some (.bool false):=X4.cell 1
   have HK:Hid (IntKeep W2 (W2.setCell ⟨w.heap.size,0,none⟩ (.slice A3 1 c3))):=LH (IntKeep.of_off (Off.of_set W2 w.heap.size 0 (.slice A3 1 c3)) fun q hq=>by rw [hq];exact cell_noInt X3)
   have Hend:=LH (vcell_end (A0:=A3) (n0:=1) (c0:=c3) (b0:=false) X4 HB4.out (Nat.le_refl _) A3 1 c3 false)
   have i0:=X4.frozen 0
   have i1:=X4.frozen 1
   have l4:=X4.lt
   clear c0 c1 f0 f1 l1 hN3 hB3 X3
   go_wp2_with fail
   refine bodyPost_ret (results_cell_row (p:=2) (by kernel_rfl) _ _ w.heap.size 77 #[.slice A3 1 c3, .bool false] (0,0) _ rfl Hend.out.2.1 Tryz.underlying77 rfl (by kernel_rfl)) rfl ?_
   refine ⟨Hend.out.1,_,_,_,_,rfl,?_⟩
   rw [Ho.out]
   unfold ValN
   rw [capV_one]
   exact ⟨rfl,(HN.out.kept HK.out).kept Hend.out.2.2⟩
 · have hki:((n:Int) == 1)=false:=by rw [beq_eq_false_iff_ne];omega
   have Ho:Hid (oneT n=0):=LH (by unfold oneT;rw [if_neg hn1])
   have Hend:=LH (vcell_end hX hB1 (Nat.le_refl _) none 0 0 false)
   clear hX hB1 hn1
   go_wp2_with fail
   refine bodyPost_ret (results_cell_row (p:=2) (by kernel_rfl) _ _ w.heap.size 77 #[.slice none 0 0, .bool false] (0,0) _ rfl Hend.out.2.1 Tryz.underlying77 rfl (by kernel_rfl)) rfl ?_
   refine ⟨Hend.out.1,_,_,_,_,rfl,?_⟩
   rw [Ho.out]
   exact ValN.zero _ _ _ (by omega)
theorem tr_cwithin (n:Int) (w:World):Calls Tryz.prog 43 #[.int .i64 n] w fun e w'=>e = .returned (.bool (decide (0≤n) && decide (n≤10)))∧w=w':=by
 go_enter Tryz.func43,Tryz.ntmps43
 by_cases h0:0≤n
 · by_cases h1:n≤10
   · have Hd:Hid ((decide (0≤n) && decide (n≤10))=true):=LH (by simp [h0,h1])
     go_wp2_with fail
     go_ret
     exact ⟨by first | (rw [Hd.out];rfl) | (rw [show decide (n≤10)=false by simp [h1]];rfl) | (rw [show decide (0≤n)=false by simp [h0]];rfl) | rfl,rfl⟩
   · have Hd:Hid ((decide (0≤n) && decide (n≤10))=false):=LH (by simp [h0,h1])
     go_wp2_with fail
     go_ret
     exact ⟨by first | (rw [Hd.out];rfl) | (rw [show decide (n≤10)=false by simp [h1]];rfl) | (rw [show decide (0≤n)=false by simp [h0]];rfl) | rfl,rfl⟩
 · have Hd:Hid ((decide (0≤n) && decide (n≤10))=false):=LH (by simp [h0])
   go_wp2_with fail
   go_ret
   exact ⟨by first | (rw [Hd.out];rfl) | (rw [show decide (n≤10)=false by simp [h1]];rfl) | (rw [show decide (0≤n)=false by simp [h0]];rfl) | rfl,rfl⟩
theorem tr_told (A:Option Addr) (n c:Nat) (b:Bool) (x:Nat) (w:World) (h:ValN w A n c b x) :
 Calls Tryz.prog 48 #[.agg #[.slice A n c, .bool b]] w (RetNat w (fitN x)):=by
 have hB:=alloc_below w (.cells #[.slice A n c, .bool b] 77)
 have hN:=(h.2.below hB)
 have hl:=h.2.len
 have k:=h.cases
 have HN:=LH hN
 have HB:=LH hB
 clear h hN
 go_enter Tryz.func48,Tryz.ntmps48
 rcases k with ⟨hx,rfl,ex⟩ | ⟨hx,rfl,ex⟩
 · have hf:fitN x=(limbs x,0):=by unfold fitN;rw [if_pos hx]
   rw [ex] at hl HN
   have Hf:=LH hf
   have Hl:=LH hl
   clear hf ex hx hl
   go_wp2_with fail
   go_ret2
   unfold RetNat
   rw [Hf.out]
   exact ⟨A,c,by rw [← Hl.out];rfl,by rw [Hl.out];exact HN.out,HB.out⟩
 · have hf:fitN x=([],2):=by unfold fitN;rw [if_neg hx]
   have Hf:=LH hf
   clear hf ex hx hl
   go_wp2_with fail
   go_ret2
   unfold RetNat
   rw [Hf.out]
   exact ⟨none,0,rfl,Nums.nil _ _ _ _ (by omega),HB.out⟩
end Go.Proofs.YtggbjdmpjidhgaaGreatDoor
