/- the program's numbers that may be too great: their sum and product, walked. -/
import Derived.Test.YtggbjdmpjidhgaaGreatDoorVQCtM1
import Derived.Test.YtggbjdmpjidhgaaGreatDoorVQCyW9
set_option linter.unusedVariables false
set_option linter.unusedSimpArgs false
set_option maxHeartbeats 8000000
set_option maxRecDepth 100000
namespace Go.Proofs.YtggbjdmpjidhgaaGreatDoor
open Go.RowKit
theorem vcell_end {w a:World} {g:Nat} {A0:Option Addr} {n0 c0:Nat} {b0:Bool} (f:Blk a g 77 #[.slice A0 n0 c0, .bool b0]) (d:Below w.heap.size w a) (j:w.heap.size≤g) (A:Option Addr) (n c:Nat) (b:Bool) :
 Below w.heap.size w ((a.setCell ⟨g,0,none⟩ (.slice A n c)).setCell ⟨g,1,none⟩ (.bool b)) ∧
 Blk ((a.setCell ⟨g,0,none⟩ (.slice A n c)).setCell ⟨g,1,none⟩ (.bool b)) g 77 #[.slice A n c, .bool b]∧IntKeep a ((a.setCell ⟨g,0,none⟩ (.slice A n c)).setCell ⟨g,1,none⟩ (.bool b)):=by
 refine ⟨(d.trans (grown_is_below (grown_set _ _ _ _) d.size j)).trans (grown_is_below (grown_set _ _ _ _) (by simpa using d.size) j),(f.set 0 _).set 1 _,?_⟩
 refine IntKeep.of_off ((Off.of_set a g 0 (.slice A n c)).trans (Off.of_set _ g 1 (.bool b)) fun _ _ h=>h) fun q k=>?_
 rw [k]
 exact cell_noInt f
theorem tr_cof (A:Option Addr) (n c:Nat) (d:Int) (w:World) :
 Calls Tryz.prog 202 #[.slice A n c, .int .i64 d] w fun e w'=>e = .returned (.agg #[.slice A n c, .bool (d == 2)])∧Below w.heap.size w w':=by
 have h:=alloc_below w (.cells #[.slice none 0 0, .bool false] 77)
 have a:=Blk.new w 77 #[.slice none 0 0, .bool false]
 go_enter Tryz.func202,Tryz.ntmps202
 go_upto_region 1 with fail
 generalize w.alloc (.cells #[.slice none 0 0, .bool false] 77)=W at *
 have c0:W.cell? ⟨w.heap.size,0,none⟩=some (.slice none 0 0):=a.cell 0
 have c1:W.cell? ⟨w.heap.size,1,none⟩=some (.bool false):=a.cell 1
 have k:=a.frozen 0
 have l:=a.frozen 1
 have o:=a.lt
 obtain ⟨b,f⟩:∃ b,b=(d == 2):=⟨_,rfl⟩
 have g:=LH (vcell_end a h (Nat.le_refl _) A n c b)
 have j:=LH f
 have m:(d == 2)=b:=f.symm
 clear a h f
 go_wp2_with fail
 refine bodyPost_ret (results_cell_row (p:=4) (by kernel_rfl) _ _ w.heap.size 77 #[.slice A n c, .bool b] (0,0) _ rfl g.out.2.1 Tryz.underlying77 rfl (by kernel_rfl)) rfl ?_
 exact ⟨by rw [j.out],g.out.1⟩
theorem tr_none (A:Option Addr) (n c:Nat) (b:Bool) (x:Nat) (w:World) (h:ValN w A n c b x) :
 Calls Tryz.prog 156 #[.agg #[.slice A n c, .bool b]] w fun e w'=>e = .returned (.bool (decide (x=0)))∧Below w.heap.size w w':=by
 have f:=alloc_below w (.cells #[.slice A n c, .bool b] 77)
 have d:=h.none_iff
 have j:=h.2.cap
 go_enter Tryz.func156,Tryz.ntmps156
 clear h
 cases b
 case true =>
  have a:decide (x=0)=false:=by rw [decide_eq_false_iff_not];intro e;have:=d.2 e;cases this.1
  have Hx:=LH a
  clear d a
  go_wp2_with fail
  go_ret
  exact ⟨by rw [Hx.out];rfl,f⟩
 case false =>
  by_cases g:n=0
  · subst g
    have a:decide (x=0)=true:=by rw [decide_eq_true_iff];exact d.1 ⟨rfl,rfl⟩
    have Hx:=LH a
    clear d a
    go_wp2_with fail
    go_ret
    exact ⟨by rw [Hx.out];rfl,f⟩
  · have a:decide (x=0)=false:=by rw [decide_eq_false_iff_not];intro e;exact g (d.2 e).2
    have k:((n:Int) == 0)=false:=by rw [beq_eq_false_iff_ne];omega
    have Hx:=LH a
    clear d a g
    go_wp2_with fail
    go_ret
    exact ⟨by rw [Hx.out];rfl,f⟩
theorem three_vals (w:World) (t:TypeId) (a b c:Array Value):Below w.heap.size w (((w.alloc (.cells a t)).alloc (.cells b t)).alloc (.cells c t))∧Blk (((w.alloc (.cells a t)).alloc (.cells b t)).alloc (.cells c t)) w.heap.size t a ∧
 Blk (((w.alloc (.cells a t)).alloc (.cells b t)).alloc (.cells c t)) (w.heap.size+1) t b∧Blk (((w.alloc (.cells a t)).alloc (.cells b t)).alloc (.cells c t)) (w.heap.size+2) t c:=by
 have m:=alloc_below w (.cells a t)
 have j:=alloc_below (w.alloc (.cells a t)) (.cells b t)
 have d:=alloc_below ((w.alloc (.cells a t)).alloc (.cells b t)) (.cells c t)
 have h1:=Blk.new w t a
 have l:=Blk.new (w.alloc (.cells a t)) t b
 have h:=Blk.new ((w.alloc (.cells a t)).alloc (.cells b t)) t c
 have f:(w.alloc (.cells a t)).heap.size=w.heap.size+1:=alloc_size _ _
 have k:((w.alloc (.cells a t)).alloc (.cells b t)).heap.size=w.heap.size+2:=by rw [alloc_size,f]
 have g:=Blk.ext l d
 rw [f] at g
 rw [k] at h
 exact ⟨below_tail (below_tail m j) d,Blk.ext (Blk.ext h1 j) d,g,h⟩
theorem tr_plus (f:Option Addr) (n1 c1:Nat) (a:Bool) (x:Nat) (g:Option Addr) (n2 c2:Nat) (b:Bool) (y:Nat) (w:World) (h1:ValN w f n1 c1 a x) (D:ValN w g n2 c2 b y) :
 Calls Tryz.prog 157 #[.agg #[.slice f n1 c1, .bool a], .agg #[.slice g n2 c2, .bool b]] w (RetV w (x+y)):=by
 have z:=h1.cases
 have A:=D.cases
 have U:=LH h1.2
 have V:=LH D.2
 clear h1 D
 obtain ⟨h,q,r,c⟩:=three_vals w 77 #[.slice f n1 c1, .bool a] #[.slice g n2 c2, .bool b] #[.slice none 0 0, .bool false]
 go_enter Tryz.func157,Tryz.ntmps157
 go_upto_region 1 with fail
 generalize ((w.alloc (.cells #[.slice f n1 c1, .bool a] 77)).alloc (.cells #[.slice g n2 c2, .bool b] 77)).alloc (.cells #[.slice none 0 0, .bool false] 77)=W at *
 have l1:=q.lt
 have l2:=r.lt
 have T:=c.lt
 have ah:W.cell? ⟨w.heap.size,0,none⟩=some (.slice f n1 c1):=q.cell 0
 have ai:W.cell? ⟨w.heap.size,1,none⟩=some (.bool a):=q.cell 1
 have aj:W.cell? ⟨w.heap.size+1,0,none⟩=some (.slice g n2 c2):=r.cell 0
 have ak:W.cell? ⟨w.heap.size+1,1,none⟩=some (.bool b):=r.cell 1
 have H:W.cell? ⟨w.heap.size+2,0,none⟩=some (.slice none 0 0):=c.cell 0
 have I:W.cell? ⟨w.heap.size+2,1,none⟩=some (.bool false):=c.cell 1
 have N:=c.frozen 0
 have O:=c.frozen 1
 have ab:=LH c
 have X:=LH h
 have B:=LH (vcell_end c h (Nat.le_add_right _ _) none 0 0 true)
 by_cases j:a=true∨b=true
 case pos =>
  have Hz:Hid (¬ x+y < big):=LH (by
   rcases z with ⟨k,J,_⟩ | ⟨k,J,_⟩
   · rcases A with ⟨l,L,_⟩ | ⟨l,L,_⟩
     · rw [J,L] at j;simp at j
     · omega
   · omega)
  clear q r c h z A
  rcases (by cases a <;> cases b <;> simp at j <;> simp:a=true∨(a=false∧b=true)) with rfl | ⟨rfl,rfl⟩
  all_goals
   clear j
   go_wp2_with fail
   refine bodyPost_ret (results_cell_row (p:=4) (by kernel_rfl) _ _ (w.heap.size+2) 77 #[.slice none 0 0, .bool true] (0,0) _ rfl B.out.2.1 Tryz.underlying77 rfl (by kernel_rfl)) rfl ?_
   exact ⟨B.out.1,_,_,_,_,rfl,ValN.over _ Hz.out⟩
 case neg =>
  obtain ⟨rfl,rfl⟩:a=false∧b=false:=by cases a <;> cases b <;> simp at j <;> simp
  obtain ⟨k,ex⟩:x < big∧(capV x).1=limbs x:=by
   rcases z with ⟨k,_,ex⟩ | ⟨_,e,_⟩
   · exact ⟨k,ex⟩
   · cases e
  obtain ⟨l,t⟩:y < big∧(capV y).1=limbs y:=by
   rcases A with ⟨l,_,t⟩ | ⟨_,e,_⟩
   · exact ⟨l,t⟩
   · cases e
  have CA:=nat_add f n1 c1 (capV x).1 g n2 c2 (capV y).1 W (U.out.below h) (V.out.below h) (capV_lim x) (capV_lim y)
  rw [ex,t,addN_limbs x y k l] at CA
  have CA:=LH CA
  clear q r c h z A j ex t k l B
  go_wp2_with fail
  (with_reducible refine CA.out.mono ?_)
  rintro e W2 ⟨n,c3,rfl,F,E⟩
  generalize R:fitN (x+y)=p at *
  obtain ⟨m,M⟩:=p
  simp only [] at F
  have Hp:=LH R
  have Z:=LH F
  have G:=ab.out.ext E
  have Y:=LH (below_tail X.out E)
  clear ah ai aj ak H I N O l1 l2 T R F E CA
  go_wp2_with fail
  (with_reducible refine (tr_cof n m.length c3 (M:Int) W2).mono ?_)
  rintro e W3 ⟨rfl,u⟩
  have d:=G.ext u
  have H:W3.cell? ⟨w.heap.size+2,0,none⟩=some (.slice none 0 0):=d.cell 0
  have I:W3.cell? ⟨w.heap.size+2,1,none⟩=some (.bool false):=d.cell 1
  have N:=d.frozen 0
  have O:=d.frozen 1
  have T:=d.lt
  have aa:=LH (Z.out.below u)
  obtain ⟨o,v⟩:∃ o,o=((M:Int) == 2):=⟨_,rfl⟩
  have C:=LH (vcell_end d (below_tail Y.out u) (Nat.le_add_right _ _) n m.length c3 o)
  rw [← v]
  have ae:Hid (∀ (w':World),Nums .u32 w' n m.length c3 m→ValN w' n m.length c3 o (x+y)):=LH fun w' P=>by
   have s:=Hp.out
   unfold fitN at s
   unfold ValN capV
   by_cases S:x+y < big
   · rw [if_pos S] at s ⊢
     obtain ⟨rfl,rfl⟩:=Prod.mk.inj s
     exact ⟨by rw [v];rfl,P⟩
   · rw [if_neg S] at s ⊢
     obtain ⟨rfl,rfl⟩:=Prod.mk.inj s
     exact ⟨by rw [v];rfl,P⟩
  clear G d u v
  go_wp2_with fail
  refine bodyPost_ret (results_cell_row (p:=4) (by kernel_rfl) _ _ (w.heap.size+2) 77 #[.slice n m.length c3, .bool o] (0,0) _ rfl C.out.2.1 Tryz.underlying77 rfl (by kernel_rfl)) rfl ?_
  exact ⟨C.out.1,_,_,_,_,rfl,ae.out _ (aa.out.kept C.out.2.2)⟩
theorem tr_times (g:Option Addr) (n1 c1:Nat) (b:Bool) (x:Nat) (h:Option Addr) (n2 c2:Nat) (c:Bool) (y:Nat) (w:World) (h1:ValN w g n1 c1 b x) (h2:ValN w h n2 c2 c y) :
 Calls Tryz.prog 158 #[.agg #[.slice g n1 c1, .bool b], .agg #[.slice h n2 c2, .bool c]] w (RetV w (x * y)):=by
 have r:=h1.cases
 have s:=h2.cases
 have H1:=LH h1
 have H2:=LH h2
 clear h1 h2
 obtain ⟨hB,E,F,ap⟩:=three_vals w 77 #[.slice g n1 c1, .bool b] #[.slice h n2 c2, .bool c] #[.slice none 0 0, .bool false]
 go_enter Tryz.func158,Tryz.ntmps158
 go_upto_region 1 with fail
 generalize ((w.alloc (.cells #[.slice g n1 c1, .bool b] 77)).alloc (.cells #[.slice h n2 c2, .bool c] 77)).alloc (.cells #[.slice none 0 0, .bool false] 77)=W at *
 have L:=E.lt
 have M:=F.lt
 have A:W.cell? ⟨w.heap.size,0,none⟩=some (.slice g n1 c1):=E.cell 0
 have B:W.cell? ⟨w.heap.size,1,none⟩=some (.bool b):=E.cell 1
 have C:W.cell? ⟨w.heap.size+1,0,none⟩=some (.slice h n2 c2):=F.cell 0
 have D:W.cell? ⟨w.heap.size+1,1,none⟩=some (.bool c):=F.cell 1
 have d:=LH E
 have f:=LH F
 have a:=LH ap
 have HB:=LH hB
 have C1:=LH (tr_none g n1 c1 b x W (H1.out.below hB))
 clear E F ap hB
 go_wp2_with fail
 (with_reducible refine C1.out.mono ?_)
 rintro e k ⟨rfl,G⟩
 have N:=LH (below_tail HB.out G)
 have d:=LH (d.out.ext G)
 have f:=LH (f.out.ext G)
 have a:=LH (a.out.ext G)
 clear G C1 HB A B C D L M
 have L:=d.out.lt
 have M:=f.out.lt
 have Y:=a.out.lt
 have A:k.cell? ⟨w.heap.size,0,none⟩=some (.slice g n1 c1):=d.out.cell 0
 have B:k.cell? ⟨w.heap.size,1,none⟩=some (.bool b):=d.out.cell 1
 have C:k.cell? ⟨w.heap.size+1,0,none⟩=some (.slice h n2 c2):=f.out.cell 0
 have D:k.cell? ⟨w.heap.size+1,1,none⟩=some (.bool c):=f.out.cell 1
 have O:k.cell? ⟨w.heap.size+2,0,none⟩=some (.slice none 0 0):=a.out.cell 0
 have P:k.cell? ⟨w.heap.size+2,1,none⟩=some (.bool false):=a.out.cell 1
 have S:=a.out.frozen 0
 have T:=a.out.frozen 1
 by_cases J:x=0
 case pos =>
  subst J
  have hd:decide ((0:Nat)=0)=true:=rfl
  have j:=LH (vcell_end a.out N.out (Nat.le_add_right _ _) none 0 0 false)
  clear r s
  go_wp2_with fail
  refine bodyPost_ret (results_cell_row (p:=4) (by kernel_rfl) _ _ (w.heap.size+2) 77 #[.slice none 0 0, .bool false] (0,0) _ rfl j.out.2.1 Tryz.underlying77 rfl (by kernel_rfl)) rfl ?_
  exact ⟨j.out.1,_,_,_,_,rfl,by rw [Nat.zero_mul];exact ValN.zero _ _ _ (by omega)⟩
 have hd:decide (x=0)=false:=by rw [decide_eq_false_iff_not];exact J
 have C2:=LH (tr_none h n2 c2 c y k (H2.out.below N.out))
 have a0:=LH J
 clear J
 rw [hd]
 go_wp2_with fail
 (with_reducible refine C2.out.mono ?_)
 rintro e l ⟨rfl,H⟩
 have v:=LH (below_tail N.out H)
 have d:=LH (d.out.ext H)
 have f:=LH (f.out.ext H)
 have a:=LH (a.out.ext H)
 clear H C2 N A B C D L M Y O P S T hd
 have L:=d.out.lt
 have M:=f.out.lt
 have Y:=a.out.lt
 have A:l.cell? ⟨w.heap.size,0,none⟩=some (.slice g n1 c1):=d.out.cell 0
 have B:l.cell? ⟨w.heap.size,1,none⟩=some (.bool b):=d.out.cell 1
 have C:l.cell? ⟨w.heap.size+1,0,none⟩=some (.slice h n2 c2):=f.out.cell 0
 have D:l.cell? ⟨w.heap.size+1,1,none⟩=some (.bool c):=f.out.cell 1
 have O:l.cell? ⟨w.heap.size+2,0,none⟩=some (.slice none 0 0):=a.out.cell 0
 have P:l.cell? ⟨w.heap.size+2,1,none⟩=some (.bool false):=a.out.cell 1
 have S:=a.out.frozen 0
 have T:=a.out.frozen 1
 by_cases X:y=0
 case pos =>
  subst X
  have hd:decide ((0:Nat)=0)=true:=rfl
  have j:=LH (vcell_end a.out v.out (Nat.le_add_right _ _) none 0 0 false)
  clear r s
  go_wp2_with fail
  refine bodyPost_ret (results_cell_row (p:=4) (by kernel_rfl) _ _ (w.heap.size+2) 77 #[.slice none 0 0, .bool false] (0,0) _ rfl j.out.2.1 Tryz.underlying77 rfl (by kernel_rfl)) rfl ?_
  exact ⟨j.out.1,_,_,_,_,rfl,by rw [Nat.mul_zero];exact ValN.zero _ _ _ (by omega)⟩
 have hd:decide (y=0)=false:=by rw [decide_eq_false_iff_not];exact X
 rw [hd]
 have Z:=LH (vcell_end a.out v.out (Nat.le_add_right _ _) none 0 0 true)
 by_cases n:b=true∨c=true
 case pos =>
  have Hz:Hid (¬ x * y < big):=LH (by
   have a2:x≤x * y:=Nat.le_mul_of_pos_right x (by omega)
   have J:=a0.out
   have a3:y≤x * y:=Nat.le_mul_of_pos_left y (by omega)
   rcases r with ⟨o,e1,_⟩ | ⟨o,e1,_⟩
   · rcases s with ⟨q,e2,_⟩ | ⟨q,e2,_⟩
     · rw [e1,e2] at n;simp at n
     · omega
   · omega)
  clear r s X hd
  rcases (by cases b <;> cases c <;> simp at n <;> simp:b=true∨(b=false∧c=true)) with rfl | ⟨rfl,rfl⟩
  all_goals
   clear n
   go_wp2_with fail
   refine bodyPost_ret (results_cell_row (p:=4) (by kernel_rfl) _ _ (w.heap.size+2) 77 #[.slice none 0 0, .bool true] (0,0) _ rfl Z.out.2.1 Tryz.underlying77 rfl (by kernel_rfl)) rfl ?_
   exact ⟨Z.out.1,_,_,_,_,rfl,ValN.over _ Hz.out⟩
 case neg =>
  obtain ⟨rfl,rfl⟩:b=false∧c=false:=by cases b <;> cases c <;> simp at n <;> simp
  obtain ⟨o,ex⟩:x < big∧(capV x).1=limbs x:=by
   rcases r with ⟨o,_,ex⟩ | ⟨_,e,_⟩
   · exact ⟨o,ex⟩
   · cases e
  obtain ⟨q,R⟩:y < big∧(capV y).1=limbs y:=by
   rcases s with ⟨q,_,R⟩ | ⟨_,e,_⟩
   · exact ⟨q,R⟩
   · cases e
  have CA:=nat_mul g n1 c1 (capV x).1 h n2 c2 (capV y).1 l (H1.out.2.below v.out) (H2.out.2.below v.out) (capV_lim x) (capV_lim y)
  rw [ex,R,mulN_limbs x y o q] at CA
  have CA:=LH CA
  clear r s n ex R o q Z X hd
  go_wp2_with fail
  (with_reducible refine CA.out.mono ?_)
  rintro e W3 ⟨u,c3,rfl,ae,ad⟩
  generalize hp:fitN (x * y)=p at *
  obtain ⟨t,er⟩:=p
  simp only [] at ae
  have Hp:=LH hp
  have HN:=LH ae
  have X3:=a.out.ext ad
  have av:=LH (below_tail v.out ad)
  clear A B C D O P S T L M Y hp ae ad CA
  go_wp2_with fail
  (with_reducible refine (tr_cof u t.length c3 (er:Int) W3).mono ?_)
  rintro e W4 ⟨rfl,U⟩
  have m:=X3.ext U
  have O:W4.cell? ⟨w.heap.size+2,0,none⟩=some (.slice none 0 0):=m.cell 0
  have P:W4.cell? ⟨w.heap.size+2,1,none⟩=some (.bool false):=m.cell 1
  have S:=m.frozen 0
  have T:=m.frozen 1
  have Y:=m.lt
  have ax:=LH (HN.out.below U)
  obtain ⟨z,V⟩:∃ z,z=((er:Int) == 2):=⟨_,rfl⟩
  have j:=LH (vcell_end m (below_tail av.out U) (Nat.le_add_right _ _) u t.length c3 z)
  rw [← V]
  have az:Hid (∀ (w':World),Nums .u32 w' u t.length c3 t→ValN w' u t.length c3 z (x * y)):=LH fun w' hn=>by
   have I:=Hp.out
   unfold fitN at I
   unfold ValN capV
   by_cases hz:x * y < big
   · rw [if_pos hz] at I ⊢
     obtain ⟨rfl,rfl⟩:=Prod.mk.inj I
     exact ⟨by rw [V];rfl,hn⟩
   · rw [if_neg hz] at I ⊢
     obtain ⟨rfl,rfl⟩:=Prod.mk.inj I
     exact ⟨by rw [V];rfl,hn⟩
  clear X3 m U V
  go_wp2_with fail
  refine bodyPost_ret (results_cell_row (p:=4) (by kernel_rfl) _ _ (w.heap.size+2) 77 #[.slice u t.length c3, .bool z] (0,0) _ rfl j.out.2.1 Tryz.underlying77 rfl (by kernel_rfl)) rfl ?_
  exact ⟨j.out.1,_,_,_,_,rfl,az.out _ (ax.out.kept j.out.2.2)⟩
theorem tr_exactly (n:Nat) (w:World) (J:n≤1000):Calls Tryz.prog 200 #[.int .i64 (n:Int)] w (RetV w (oneT n)):=by
 have h:=alloc_below w (.cells #[.slice none 0 0, .bool false] 77)
 have b:=Blk.new w 77 #[.slice none 0 0, .bool false]
 go_enter Tryz.func200,Tryz.ntmps200
 go_upto_region 1 with fail
 generalize w.alloc (.cells #[.slice none 0 0, .bool false] 77)=W at *
 have c0:W.cell? ⟨w.heap.size,0,none⟩=some (.slice none 0 0):=b.cell 0
 have c1:W.cell? ⟨w.heap.size,1,none⟩=some (.bool false):=b.cell 1
 have z:=b.frozen 0
 have A:=b.frozen 1
 have C:=b.lt
 by_cases m:n=1
 · subst m
   have k:Hid (oneT 1=1):=LH rfl
   have y:=LH b
   have t:=LH h
   clear b h
   have s:Calls Tryz.prog 153 #[.int .u64 1] W (RetLimbs W (limbs 1)):=nat_of 1 W (by omega)
   go_wp2_with fail
   (with_reducible refine s.mono ?_)
   rintro e c ⟨a,c3,rfl,j,l⟩
   have r:limbs 1=[1]:=rfl
   rw [r] at j
   simp only [r,List.length_singleton] at j ⊢
   have d:=y.out.ext l
   have o:=LH (below_tail t.out l)
   have x:=LH j
   have D:c.cell? ⟨w.heap.size,0,none⟩=some (.slice none 0 0):=d.cell 0
   have E:c.cell? ⟨w.heap.size,1,none⟩=some (.bool false):=d.cell 1
   have g0:=d.frozen 0
   have H:=d.frozen 1
   have N:=d.lt
   have g:=d.set 0 (.slice a 1 c3)
   have u:=LH (o.out.trans (grown_is_below (grown_set c w.heap.size 0 (.slice a 1 c3)) o.out.size (Nat.le_refl _)))
   have F:((c.setCell ⟨w.heap.size,0,none⟩ (.slice a 1 c3)).cell? ⟨w.heap.size,0,none⟩)=some (.slice a 1 c3):=g.cell 0
   have G:((c.setCell ⟨w.heap.size,0,none⟩ (.slice a 1 c3)).cell? ⟨w.heap.size,1,none⟩)=some (.bool false):=g.cell 1
   have v:Hid (IntKeep c (c.setCell ⟨w.heap.size,0,none⟩ (.slice a 1 c3))):=LH (IntKeep.of_off (Off.of_set c w.heap.size 0 (.slice a 1 c3)) fun q B=>by rw [B];exact cell_noInt d)
   have f:=LH (vcell_end (A0:=a) (n0:=1) (c0:=c3) (b0:=false) g u.out (Nat.le_refl _) a 1 c3 false)
   have L:=g.frozen 0
   have M:=g.frozen 1
   have O:=g.lt
   clear c0 c1 z A C j l d
   go_wp2_with fail
   refine bodyPost_ret (results_cell_row (p:=2) (by kernel_rfl) _ _ w.heap.size 77 #[.slice a 1 c3, .bool false] (0,0) _ rfl f.out.2.1 Tryz.underlying77 rfl (by kernel_rfl)) rfl ?_
   refine ⟨f.out.1,_,_,_,_,rfl,?_⟩
   rw [k.out]
   unfold ValN
   rw [capV_one]
   exact ⟨rfl,(x.out.kept v.out).kept f.out.2.2⟩
 · have I:((n:Int) == 1)=false:=by rw [beq_eq_false_iff_ne];omega
   have k:Hid (oneT n=0):=LH (by unfold oneT;rw [if_neg m])
   have f:=LH (vcell_end b h (Nat.le_refl _) none 0 0 false)
   clear b h m
   go_wp2_with fail
   refine bodyPost_ret (results_cell_row (p:=2) (by kernel_rfl) _ _ w.heap.size 77 #[.slice none 0 0, .bool false] (0,0) _ rfl f.out.2.1 Tryz.underlying77 rfl (by kernel_rfl)) rfl ?_
   refine ⟨f.out.1,_,_,_,_,rfl,?_⟩
   rw [k.out]
   exact ValN.zero _ _ _ (by omega)
theorem tr_cwithin (n:Int) (w:World):Calls Tryz.prog 43 #[.int .i64 n] w fun e w'=>e = .returned (.bool (decide (0≤n) && decide (n≤10)))∧w=w':=by
 go_enter Tryz.func43,Tryz.ntmps43
 by_cases h0:0≤n
 · by_cases h1:n≤10
   · have a:Hid ((decide (0≤n) && decide (n≤10))=true):=LH (by simp [h0,h1])
     go_wp2_with fail
     go_ret
     exact ⟨by first | (rw [a.out];rfl) | (rw [show decide (n≤10)=false by simp [h1]];rfl) | (rw [show decide (0≤n)=false by simp [h0]];rfl) | rfl,rfl⟩
   · have a:Hid ((decide (0≤n) && decide (n≤10))=false):=LH (by simp [h0,h1])
     go_wp2_with fail
     go_ret
     exact ⟨by first | (rw [a.out];rfl) | (rw [show decide (n≤10)=false by simp [h1]];rfl) | (rw [show decide (0≤n)=false by simp [h0]];rfl) | rfl,rfl⟩
 · have a:Hid ((decide (0≤n) && decide (n≤10))=false):=LH (by simp [h0])
   go_wp2_with fail
   go_ret
   exact ⟨by first | (rw [a.out];rfl) | (rw [show decide (n≤10)=false by simp [h1]];rfl) | (rw [show decide (0≤n)=false by simp [h0]];rfl) | rfl,rfl⟩
theorem tr_told (A:Option Addr) (n c:Nat) (b:Bool) (x:Nat) (w:World) (h:ValN w A n c b x) :
 Calls Tryz.prog 48 #[.agg #[.slice A n c, .bool b]] w (RetNat w (fitN x)):=by
 have o:=alloc_below w (.cells #[.slice A n c, .bool b] 77)
 have p:=(h.2.below o)
 have f:=h.2.len
 have k:=h.cases
 have l:=LH p
 have j:=LH o
 clear h p
 go_enter Tryz.func48,Tryz.ntmps48
 rcases k with ⟨d,rfl,ex⟩ | ⟨d,rfl,ex⟩
 · have a:fitN x=(limbs x,0):=by unfold fitN;rw [if_pos d]
   rw [ex] at f l
   have g:=LH a
   have m:=LH f
   clear a ex d f
   go_wp2_with fail
   go_ret2
   unfold RetNat
   rw [g.out]
   exact ⟨A,c,by rw [← m.out];rfl,by rw [m.out];exact l.out,j.out⟩
 · have a:fitN x=([],2):=by unfold fitN;rw [if_neg d]
   have g:=LH a
   clear a ex d f
   go_wp2_with fail
   go_ret2
   unfold RetNat
   rw [g.out]
   exact ⟨none,0,rfl,Nums.nil _ _ _ _ (by omega),j.out⟩
def CRet (a:World) (k:CH) (h:GH) (G:Gr) (S:Nat→Prop) (w:World) (x:Nat) (e:Ending) (w':World):Prop :=
 CntAt a k h G S w'∧Off k.maps w w'∧∃ A n c d,e = .returned (.agg #[.slice A n c, .bool d])∧ValN w' A n c d x
def TreeC (a:World) (k:CH) (h:GH) (G:Gr) (s:Int) (n:Nat):Prop:=∀ (S:Nat→Prop) (w:World),CntAt a k h G S w→(∀ b,S b→b < w.heap.size) →
 Calls Tryz.prog 155 #[.pointer (some ⟨k.c,0,none⟩), .int .i64 s, .int .i64 (n:Int)] w (CRet a k h G S w (treeN G s n))
def RuleC (a:World) (k:CH) (h:GH) (G:Gr) (x:Rul) (i d n:Nat):Prop:=∀ (S:Nat→Prop) (w:World),CntAt a k h G S w→(∀ b,S b→b < w.heap.size) →
 Calls Tryz.prog 201 #[.pointer (some ⟨k.c,0,none⟩),kF i d n] w (CRet a k h G S w (forestT (treeN G) (x.right.drop d) n))
def OthC (a:World) (k:CH) (h:GH) (G:Gr) (c:World) (gf:FuncId) (d:Array Value) (m x:Nat):Prop:=∀ (S:Nat→Prop) (w:World),CntAt a k h G S w→(∀ b,S b→b < w.heap.size)→Off k.maps c w →
 Calls Tryz.prog gf (#[.int .i64 (m:Int)]++d) w (CRet a k h G S w x)
theorem CntAt.cells {a w:World} {k:CH} {h:GH} {G:Gr} {S:Nat→Prop} (C:CntAt a k h G S w):k.c < w.heap.size∧k.n < w.heap.size∧w.cell? ⟨k.c,2,none⟩=some (.slice h.a3 h.n3 h.c3)∧w.cell? ⟨k.c,4,none⟩=some (.slice (some ⟨k.n,0,none⟩) h.n2 h.n2)∧w.cell? ⟨k.c,5,none⟩=some (.map (some k.t))∧w.cell? ⟨k.c,6,none⟩=some (.map (some k.f)) :=
 ⟨C.box.lt,Blk.lt C.nul,C.box.cell 2,C.box.cell 4,C.box.cell 5,C.box.cell 6⟩
theorem lowN_take {N:List Bool} {l:List Int} {q:Nat} {s:Int} (h:l[q]? = some s):lowN N (l.take (q+1))=lowN N (l.take q)+(if nulB N s then 0 else 1):=by
 rw [List.take_add_one,h]
 unfold lowN
 rw [List.countP_append]
 cases a:nulB N s <;> simp [List.countP_cons,List.countP_nil,a]
theorem lowN_le (N:List Bool) (l:List Int):lowN N l≤l.length:=List.countP_le_length
theorem tr_least {A:World} {k:CH} {h:GH} {G:Gr} {S:Nat→Prop} (Al:Option Addr) (p n:Nat) (l:List Int) (w:World) (C:CntAt A k h G S w) (f:Ints .i64 w Al n p l) (t:(nullN G).length=h.n2) (u:∀ s ∈ l,-(h.n2:Int)≤s∧s≤1000) (r:h.n2≤1000) (W:n≤1000) :
 Calls Tryz.prog 154 #[.pointer (some ⟨k.c,0,none⟩), .slice Al n p] w fun e w'=>e = .returned (.int .i64 (lowN (nullN G) l:Int))∧w=w':=by
 obtain rfl:=f.len
 have T:=f.cap
 obtain ⟨gc,M,O,gf⟩:=k
 obtain ⟨a1,n1,c1,a2,n2,c2,a3,n3,c3⟩:=h
 obtain ⟨H,I,_,J,_,_⟩:=C.cells
 have m:=LH C.nul
 have y:=LH u
 have g:=LH t
 simp only [] at H I J r m g
 clear u t C
 go_enter Tryz.func154,Tryz.ntmps154
 go_wp2_with fail
 go_loop [4,9] (fun v i=>∃ q:Nat,q≤l.length∧i = .int .i64 (q:Int)∧v = .int .i64 (lowN (nullN G) (l.take q):Int)) (fun _ i=>l.length - (intOf i).toNat)
 case atStart=>exact ⟨0,Nat.zero_le _,rfl,rfl⟩
 case round =>
  obtain ⟨q,X,rfl,rfl⟩:=hrel
  by_cases E:q < l.length
  case pos =>
   obtain ⟨L,Z,s,rfl,R,o,q0⟩:=f.get E
   obtain ⟨F,s2⟩:=y.out s (List.mem_of_getElem? o.out)
   have a:=lowN_take (N:=nullN G) o.out
   have U:=lowN_le (nullN G) (l.take q)
   have V:(l.take q).length≤q:=by rw [List.length_take];omega
   generalize lowN (nullN G) (l.take q)=c at *
   by_cases h0:0≤s
   · have b:nulB (nullN G) s=false:=by unfold nulB;rw [decide_eq_false (by omega)];rfl
     rw [b] at a
     have d:=LH a
     clear a b
     go_wp2_with fail
     go_roundw
     case rel=>exact ⟨q+1,by omega,by go_num,by rw [d.out];go_num⟩
     case measure=>simp [intOf];omega
   · obtain ⟨j,B,D,Y⟩:=non_place (s:=s) (n:=n2) (by omega) F r
     have P:=m.out.at (i:=j) (by rw [g.out];exact B)
     have b:nulB (nullN G) s=(nullN G).getD j false:=by unfold nulB;rw [decide_eq_true (by omega:s < 0),Bool.true_and,D]
     rw [b] at a
     have d:=LH a
     clear a b
     generalize (nullN G).getD j false=z at *
     rcases (by cases z <;> simp:z=false∨z=true) with rfl | rfl
     all_goals
      go_wp2_with fail
      go_roundw
      case rel=>exact ⟨q+1,by omega,by go_num,by rw [d.out];go_num⟩
      case measure=>simp [intOf];omega
  case neg =>
   obtain rfl:q=l.length:=by omega
   have x:Hid (lowN (nullN G) (l.take l.length)=lowN (nullN G) l):=LH (by rw [List.take_length])
   generalize lowN (nullN G) (l.take l.length)=c at *
   go_wp2_with fail
   go_ret
   exact ⟨by rw [← x.out];rfl,rfl⟩
section
variable {P:Program} {M:World→Prop} {R:World→World→Prop}
def upd (u:Nat→Value) (i:Nat) (v:Value):Nat→Value:=fun j=>if j=i then v else u j
def onB (o:Oper) (p:Nat):Bool:=o.after.toList.any fun e=>Region.binds .any e && decide (e.on=p)
def ancF (l:List Oper):Nat→Nat→Nat→Bool
 | 0,_,_=>false
 | f+1,j,i=>match l[j]? with
   | none=>false
   | some o=>o.after.any fun e=>Region.binds .any e && (decide (e.on=i) || ancF l f e.on i)
def tailsB (l:List Oper) (n:Nat):Bool:=decide (n=l.length) || (List.range n).all fun i=>ancF l l.length n i
def StepsF (P:Program) (M:World→Prop) (R:World→World→Prop) (F:(Nat→Value)→Act) (D:Nat→Value→World→Prop):Nat→List Oper→Prop
 | _,[]=>True
 | i,o::rest=>(o.guard=none∧(∀ u v,(F u).put o.dst v=F (upd u i v))∧∀ (Q:Exit→Act→World→Prop) (u:Nat→Value) (X:World),M X→(∀ p,onB o p=true→D p (u p) X) →
    ∀ K:Act→World→Prop,(∀ v a,M a→R X a→D i v a→K ((F u).put o.dst v) a)→o.wp P (F u) X K Q)∧StepsF P M R F D (i+1) rest
theorem StepsF.nil {F:(Nat→Value)→Act} {D:Nat→Value→World→Prop} {i:Nat}:StepsF P M R F D i []:=trivial
theorem StepsF.cons {F:(Nat→Value)→Act} {D:Nat→Value→World→Prop} {i:Nat} {o:Oper} {rest:List Oper} (b:o.guard=none) (c:∀ u v,(F u).put o.dst v=F (upd u i v))
 (h:∀ (Q:Exit→Act→World→Prop) (u:Nat→Value) (X:World),M X→(∀ p,onB o p=true→D p (u p) X)→∀ K:Act→World→Prop,(∀ v a,M a→R X a→D i v a→K ((F u).put o.dst v) a)→o.wp P (F u) X K Q)
 (t:StepsF P M R F D (i+1) rest):StepsF P M R F D i (o::rest):=⟨⟨b,c,h⟩,t⟩
def JF (l:List Oper) (n:Nat) (M:World→Prop) (F:(Nat→Value)→Act) (D:Nat→Value→World→Prop) (fin:(Nat→Value)→World→Prop) (listed:Array Bool) (a:Act) (X:World):Prop :=
 ∃ u,a=F u∧listed.size=l.length∧(∀ i o,l[i]? = some o→listed.getD i false=true→∀ p,onB o p=true→listed.getD p false=true) ∧
   (∀ i,i ≠ n→listed.getD i false=true→listed.getD n false=false→D i (u i) X)∧(listed.getD n false=false→M X)∧(listed.getD n false=true→fin u X)
theorem getD_one {listed:Array Bool} {i j:Nat} (hi:i < listed.size):(listed.setIfInBounds i true).getD j false=if j=i then true else listed.getD j false:=by
 by_cases h:j=i
 · subst h;rw [if_pos rfl];simp [Array.getD,hi]
 · rw [if_neg h,Array.getD_eq_getD_getElem?,Array.getD_eq_getD_getElem?,Array.getElem?_setIfInBounds_ne (Ne.symm h)]
theorem getD_tt {listed:Array Bool} {i:Nat} (h:listed.getD i true=false):i < listed.size∧listed.getD i false=false:=by
 simp only [Array.getD] at h ⊢
 split at h
 · rename_i hi;exact ⟨hi,by rw [dif_pos hi];exact h⟩
 · cases h
theorem onB_iff {o:Oper} {p:Nat}:onB o p=true ↔ ∃ e ∈ o.after,Region.binds .any e=true∧e.on=p:=by
 unfold onB
 rw [List.any_eq_true]
 constructor
 · rintro ⟨e,a,h⟩
   rw [Bool.and_eq_true,decide_eq_true_iff] at h
   exact ⟨e,Array.mem_def.2 a,h⟩
 · rintro ⟨e,a,h⟩
   exact ⟨e,Array.mem_def.1 a,by rw [Bool.and_eq_true,decide_eq_true_iff];exact h⟩
theorem anc_listed {l:List Oper} {listed:Array Bool} (c:∀ i o,l[i]? = some o→listed.getD i false=true→∀ p,onB o p=true→listed.getD p false=true) :
 ∀ (f j i:Nat),ancF l f j i=true→listed.getD j false=true→listed.getD i false=true
 | 0,_,_,h,_=>by cases h
 | f+1,j,i,h,hj=>by
   unfold ancF at h
   cases b:l[j]? with
   | none=>rw [b] at h;cases h
   | some o =>
     rw [b] at h
     simp only [Array.any_eq_true] at h
     obtain ⟨k,g,h⟩:=h
     rw [Bool.and_eq_true,Bool.or_eq_true,decide_eq_true_iff] at h
     have d:=c j o b hj _ (onB_iff.2 ⟨_,Array.getElem_mem g,h.1,rfl⟩)
     rcases h.2 with a | a
     · rw [← a];exact d
     · exact anc_listed c f _ i a d
theorem StepsF.steps {l:List Oper} {n:Nat} {F:(Nat→Value)→Act} {D:Nat→Value→World→Prop} {fin:(Nat→Value)→World→Prop} (y:∀ i v X g,D i v X→R X g→D i v g) (k:tailsB l n=true) (N:n≤l.length) :
 ∀ (m:List Oper) (i:Nat),(∀ j,j < m.length→m[j]? = l[i+j]?)→i+m.length=n→StepsF P M R F D i m→∀ rest,StepsU P (JF l n M F D fin) n rest→StepsU P (JF l n M F D fin) i (m++rest)
 | [],i,_,hl,_,rest,hr=>by
   have:i=n:=by simpa using hl
   subst this
   exact hr
 | o::m,i,hm,hl,hs,rest,hr=>by
   have I:i < n:=by simp only [List.length_cons] at hl;omega
   have O:l[i]? = some o:=by simpa using (hm 0 (by simp)).symm
   refine StepsU.cons hs.1.1 (fun Q listed a X C T S K E=>?_) (StepsF.steps y k N m (i+1) (fun j b=>by have:=hm (j+1) (by simp;omega);simpa [Nat.add_assoc,Nat.add_comm 1 j] using this) (by simp only [List.length_cons] at hl;omega) hs.2 rest hr)
   obtain ⟨u,rfl,B,z,hd,V,Y⟩:=C
   obtain ⟨r,H⟩:=getD_tt T
   have f:listed.getD n false=false:=by
    cases x:listed.getD n false with
    | false=>rfl
    | true =>
      unfold tailsB at k
      rw [Bool.or_eq_true,decide_eq_true_iff] at k
      rcases k with h | h
      · subst h
        rw [← B] at x
        simp [Array.getD] at x
      · have:=anc_listed z _ _ _ (List.all_eq_true.1 h i (List.mem_range.2 I)) x
        rw [H] at this
        cases this
   have t:∀ p,onB o p=true→listed.getD p false=true:=fun p c=>by
    obtain ⟨e,G,q,rfl⟩:=onB_iff.1 c
    exact S e G q
   refine hs.1.2.2 Q u X (V f) (fun p c=>hd p (fun h=>by subst h;have:=t p c;rw [f] at this;cases this) (t p c) f) K fun v g L q U=>?_
   refine E _ _ ⟨upd u i v,hs.1.2.1 u v,by simpa using B,fun j W s b p c=>?_,fun j J b _=>?_,fun _=>L,fun h=>?_⟩
   · rw [getD_one r] at b ⊢
     by_cases A:p=i
     · rw [if_pos A]
     · rw [if_neg A]
       by_cases d:j=i
       · subst d
         rw [O] at s
         obtain rfl:=Option.some.inj s
         exact t p c
       · rw [if_neg d] at b
         exact z j W s b p c
   · rw [getD_one r] at b
     unfold upd
     by_cases d:j=i
     · subst d;rw [if_pos rfl];exact U
     · rw [if_neg d] at b ⊢
       exact y j _ X g (hd j J b f) q
   · rw [getD_one r,if_neg (by omega),f] at h
     cases h
def MonoL (R:World→World→Prop):List (Value→World→Prop)→Prop
 | []=>True
 | d::ds=>(∀ v X a,d v X→R X a→d v a)∧MonoL R ds
def atL (ds:List (Value→World→Prop)) (i:Nat) (v:Value) (X:World):Prop:=(ds.getD i fun _ _=>True) v X
theorem MonoL.at:∀ {ds:List (Value→World→Prop)},MonoL R ds→∀ i v X a,atL ds i v X→R X a→atL ds i v a
 | [],_,i,_,_,_,_,_=>trivial
 | d::ds,h,0,v,X,a,hd,hb=>h.1 v X a hd hb
 | d::ds,h,i+1,v,X,a,hd,hb=>MonoL.at (ds:=ds) h.2 i v X a hd hb
theorem wp_region_grow1 {id:Nat} {Q:Exit→Act→World→Prop} {a:Act} {w:World} {l:List Oper} {t:Oper} (M:World→Prop) (R:World→World→Prop) (F:(Nat→Value)→Act) (u0:List Value) (D:List (Value→World→Prop)) (fin:(Nat→Value)→World→Prop) (N:P.follows .mixedOrders=true) (r:backB (l++[t]).toArray=true)
 (f:tailsB (l++[t]) l.length=true) (V:t.guard=none) (I:a=F fun i=>u0.getD i undef) (H:M w.drew) (E:MonoL R D) (T:StepsF P M R F (atL D) 0 l)
 (U:∀ (Q:Exit→Act→World→Prop) u X,M X→(∀ i,i < l.length→atL D i (u i) X)→∀ K:Act→World→Prop,(∀ g k,fin g k→K (F g) k)→t.wp P (F u) X K Q)
 (s:∀ u X,fin u X→Q .normal (F u) X):(Code.region id (l++[t]).toArray true).wp P Q a w:=by
 have ab:(l++[t]).length=l.length+1:=by simp
 refine wp_region_invU (JF (l++[t]) l.length M F (atL D) fin) N r ⟨_,I,by simp,fun i o _ h=>?_,fun i _ h _=>?_,fun _=>H,fun h=>?_⟩ ?_ fun listed a X m q=>?_
 · simp [Array.getD] at h
 · simp [Array.getD] at h
 · simp [Array.getD] at h
 · refine StepsF.steps (l:=l++[t]) (n:=l.length) (fin:=fin) E.at f (by omega) l 0 (fun j c=>by rw [Nat.zero_add,List.getElem?_append_left c]) (Nat.zero_add _) T [t] ?_
   refine StepsU.cons V (fun Q listed a X m Y S K G=>?_) StepsU.nil
   obtain ⟨u,rfl,C,J,hd,Z,y⟩:=m
   obtain ⟨b,z⟩:=getD_tt Y
   have O:∀ p,onB t p=true→listed.getD p false=true:=fun p d=>by
    obtain ⟨e,s,r,rfl⟩:=onB_iff.1 d
    exact S e s r
   have W:(l++[t])[l.length]? = some t:=by rw [List.getElem?_append_right (Nat.le_refl _),Nat.sub_self];rfl
   have x:∀ i o,(l++[t])[i]? = some o→(listed.setIfInBounds l.length true).getD i false=true→∀ p,onB o p=true→(listed.setIfInBounds l.length true).getD p false=true:=fun j oj v c p d=>by
    rw [getD_one b] at c ⊢
    by_cases B:p=l.length
    · rw [if_pos B]
    · rw [if_neg B]
      by_cases A:j=l.length
      · subst A
        rw [W] at v
        obtain rfl:=Option.some.inj v
        exact O p d
      · rw [if_neg A] at c
        exact J j oj v c p d
   have q:∀ i,i < l.length→listed.getD i false=true:=fun i hi=>by
    unfold tailsB at f
    rw [Bool.or_eq_true,decide_eq_true_iff] at f
    rcases f with h | h
    · omega
    · have:=anc_listed x _ _ _ (List.all_eq_true.1 h i (List.mem_range.2 hi)) (by rw [getD_one b,if_pos rfl])
      rwa [getD_one b,if_neg (by omega)] at this
   refine U Q u X (Z z) (fun i hi=>hd i (by omega) (q i hi) z) K fun g k L=>?_
   refine G _ _ ⟨g,rfl,by simpa using C,x,fun j _ _ h=>?_,fun h=>?_,fun _=>L⟩
   · rw [getD_one b,if_pos rfl] at h;cases h
   · rw [getD_one b,if_pos rfl] at h;cases h
 · obtain ⟨u,rfl,C,_,_,_,y⟩:=m
   refine s u X (y ?_)
   have h1:=q l.length (by omega)
   have b:l.length < listed.size:=by omega
   simp only [Array.getD,dif_pos b] at h1 ⊢
   exact h1
end
end Go.Proofs.YtggbjdmpjidhgaaGreatDoor
