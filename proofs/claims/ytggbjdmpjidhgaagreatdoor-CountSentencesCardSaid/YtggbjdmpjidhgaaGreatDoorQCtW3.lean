/- grammars compared: the program's Same, and Is, walked. -/
import Derived.Test.YtggbjdmpjidhgaaGreatDoorQCtS1
import Derived.Test.YtggbjdmpjidhgaaGreatDoorQCyR2
set_option linter.unusedVariables false
set_option linter.unusedSimpArgs false
set_option maxHeartbeats 8000000
set_option maxRecDepth 100000
namespace Go.Proofs.YtggbjdmpjidhgaaGreatDoor
open Go.RowKit
theorem tr_EqualT (A1:Option Addr) (n c1:Nat) (xs:List (Trm)) (A2:Option Addr) (m c2:Nat) (ys:List (Trm)) (w:World) (h1:Trms w A1 n c1 xs) (h2:Trms w A2 m c2 ys) :
 Calls Tryz.prog 142 #[.slice A1 n c1, .slice A2 m c2] w fun e w'=>∃ b,e = .returned (.bool b)∧(b=true ↔ xs=ys)∧Below w.heap.size w w':=by
 have l1:=h1.len
 have l2:=h2.len
 have k1:=h1.cap
 have k2:=h2.cap
 have H1:=LH h1
 have H2:=LH h2
 clear h1 h2
 by_cases hne:n=m
 case neg =>
  have hi:((n:Int) != (m:Int))=true:=by rw [bne_iff_ne];omega
  have hno:xs ≠ ys:=by rintro rfl;omega
  have Hno:=LH hno
  clear hno hne l1 l2
  go_enter Tryz.func142,Tryz.ntmps142
  go_wp2_with fail
  go_ret
  exact ⟨false,rfl,⟨fun h=>(by cases h),fun h=>absurd h Hno.out⟩,Below.refl _ _⟩
 have hi:((n:Int) != (m:Int))=false:=by rw [bne_eq_false_iff_eq];omega
 obtain rfl:n=m:=hne
 have L1:=LH l1
 have L2:=LH l2
 clear l1 l2
 go_enter Tryz.func142,Tryz.ntmps142
 go_wp2_with fail
 clear hi
 go_loopw [13] (fun i wr=>∃ q:Nat,q≤n∧i = .int .i64 (q:Int)∧Hid (xs.take q=ys.take q)∧Hid (Below w.heap.size w wr)) (fun i _=>n - (intOf i).toNat)
 case atStart=>exact ⟨0,Nat.zero_le _,rfl,LH rfl,LH (Below.refl _ _)⟩
 case round =>
  obtain ⟨q,hq,rfl,Ht,HB⟩:=hrel
  by_cases hqq:q < n
  case pos =>
   obtain ⟨tb,tof,t,rfl,htb,Htt,p0,p1,p2⟩:=(H1.out.below HB.out).get hqq
   obtain ⟨ub,uof,u,rfl,hub,Huu,r0,r1,r2⟩:=(H2.out.below HB.out).get hqq
   have bc:=bl_cell wr
   by_cases htu:t=u
   case neg =>
    have Hn:Hid (xs ≠ ys):=LH (fun e=>by
     have h1:=Htt.out
     rw [e,Huu.out] at h1
     exact htu (by simpa using h1.symm))
    have heq:=eq_trm t u
    have htf:trmB t u=false:=by
     cases h:trmB t u
     · rfl
     · exact absurd (trmB_iff.1 h) htu
    rw [htf] at heq
    have hgd:=Tryz.guardTerm
    clear htu
    go_wp2_with fail
    refine wp_region_below (by kernel_rfl) (by kernel_rfl) ?_
    repeat (go_big_quiet_step (fail))
    refine wpQuiet_nil ?_
    rintro _ ⟨x,rfl⟩
    go_wp2_with fail
    go_ret
    exact ⟨false,rfl,⟨fun h=>(by cases h),fun h=>absurd h Hn.out⟩,below_tail HB.out (bl_below wr x)⟩
   case pos =>
    subst htu
    have heq:=eq_trm t t
    rw [trmB_iff.2 rfl] at heq
    have hgd:=Tryz.guardTerm
    go_wp2_with fail
    refine wp_region_below (by kernel_rfl) (by kernel_rfl) ?_
    repeat (go_big_quiet_step (fail))
    refine wpQuiet_nil ?_
    rintro _ ⟨x,rfl⟩
    go_wp2_with fail
    go_roundw
    case rel=>exact ⟨q+1,by omega,by go_num,LH (take_same Ht.out Htt.out Huu.out),LH (below_tail HB.out (bl_below wr x))⟩
    case measure=>simp [intOf];omega
  case neg =>
   obtain rfl:q=n:=by omega
   have HT:Hid (xs=ys):=LH (by have:=Ht.out;rwa [List.take_of_length_le (by rw [L1.out];exact Nat.le_refl _),List.take_of_length_le (by rw [L2.out];exact Nat.le_refl _)] at this)
   go_wp2_with fail
   go_ret
   exact ⟨true,rfl,⟨fun _=>HT.out,fun _=>rfl⟩,HB.out⟩
theorem tr_EqualS (A1:Option Addr) (n c1:Nat) (xs:List (ByteArray)) (A2:Option Addr) (m c2:Nat) (ys:List (ByteArray)) (w:World) (h1:Strs w A1 n c1 xs) (h2:Strs w A2 m c2 ys) :
 Calls Tryz.prog 143 #[.slice A1 n c1, .slice A2 m c2] w fun e w'=>∃ b,e = .returned (.bool b)∧(b=true ↔ xs=ys)∧Below w.heap.size w w':=by
 have l1:=h1.len
 have l2:=h2.len
 have k1:=h1.cap
 have k2:=h2.cap
 have H1:=LH h1
 have H2:=LH h2
 clear h1 h2
 by_cases hne:n=m
 case neg =>
  have hi:((n:Int) != (m:Int))=true:=by rw [bne_iff_ne];omega
  have hno:xs ≠ ys:=by rintro rfl;omega
  have Hno:=LH hno
  clear hno hne l1 l2
  go_enter Tryz.func143,Tryz.ntmps143
  go_wp2_with fail
  go_ret
  exact ⟨false,rfl,⟨fun h=>(by cases h),fun h=>absurd h Hno.out⟩,Below.refl _ _⟩
 have hi:((n:Int) != (m:Int))=false:=by rw [bne_eq_false_iff_eq];omega
 obtain rfl:n=m:=hne
 have L1:=LH l1
 have L2:=LH l2
 clear l1 l2
 go_enter Tryz.func143,Tryz.ntmps143
 go_wp2_with fail
 clear hi
 go_loopw [13] (fun i wr=>∃ q:Nat,q≤n∧i = .int .i64 (q:Int)∧Hid (xs.take q=ys.take q)∧Hid (Below w.heap.size w wr)) (fun i _=>n - (intOf i).toNat)
 case atStart=>exact ⟨0,Nat.zero_le _,rfl,LH rfl,LH (Below.refl _ _)⟩
 case round =>
  obtain ⟨q,hq,rfl,Ht,HB⟩:=hrel
  by_cases hqq:q < n
  case pos =>
   obtain ⟨tb,tof,t,rfl,htb,Htt,p0⟩:=(H1.out.below HB.out).get hqq
   obtain ⟨ub,uof,u,rfl,hub,Huu,r0⟩:=(H2.out.below HB.out).get hqq
   have bc:=bl_cell wr
   by_cases htu:t=u
   case neg =>
    have Hn:Hid (xs ≠ ys):=LH (fun e=>by
     have h1:=Htt.out
     rw [e,Huu.out] at h1
     exact htu (by simpa using h1.symm))
    have heq:(t == u)=false:=by
     cases h:t == u
     · rfl
     · exact absurd (ba_beq.1 h) htu
    have heq2:(t.toList == u.toList)=false:=by rw [← beq_toListBytes];exact heq
    clear htu
    go_wp2_with fail
    refine wp_region_below (by kernel_rfl) (by kernel_rfl) ?_
    repeat (go_big_quiet_step (fail))
    refine wpQuiet_nil ?_
    rintro _ ⟨x,rfl⟩
    go_wp2_with fail
    go_ret
    exact ⟨false,rfl,⟨fun h=>(by cases h),fun h=>absurd h Hn.out⟩,below_tail HB.out (bl_below wr x)⟩
   case pos =>
    subst htu
    have heq:(t == t)=true:=ba_beq.2 rfl
    have heq2:(t.toList == t.toList)=true:=by rw [← beq_toListBytes];exact heq
    go_wp2_with fail
    refine wp_region_below (by kernel_rfl) (by kernel_rfl) ?_
    repeat (go_big_quiet_step (fail))
    refine wpQuiet_nil ?_
    rintro _ ⟨x,rfl⟩
    go_wp2_with fail
    go_roundw
    case rel=>exact ⟨q+1,by omega,by go_num,LH (take_same Ht.out Htt.out Huu.out),LH (below_tail HB.out (bl_below wr x))⟩
    case measure=>simp [intOf];omega
  case neg =>
   obtain rfl:q=n:=by omega
   have HT:Hid (xs=ys):=LH (by have:=Ht.out;rwa [List.take_of_length_le (by rw [L1.out];exact Nat.le_refl _),List.take_of_length_le (by rw [L2.out];exact Nat.le_refl _)] at this)
   go_wp2_with fail
   go_ret
   exact ⟨true,rfl,⟨fun _=>HT.out,fun _=>rfl⟩,HB.out⟩
theorem tr_EqualI (A1:Option Addr) (n c1:Nat) (xs:List (Int)) (A2:Option Addr) (m c2:Nat) (ys:List (Int)) (w:World) (h1:Ints .i64 w A1 n c1 xs) (h2:Ints .i64 w A2 m c2 ys) :
 Calls Tryz.prog 195 #[.slice A1 n c1, .slice A2 m c2] w fun e w'=>∃ b,e = .returned (.bool b)∧(b=true ↔ xs=ys)∧Below w.heap.size w w':=by
 have l1:=h1.len
 have l2:=h2.len
 have k1:=h1.cap
 have k2:=h2.cap
 have H1:=LH h1
 have H2:=LH h2
 clear h1 h2
 by_cases hne:n=m
 case neg =>
  have hi:((n:Int) != (m:Int))=true:=by rw [bne_iff_ne];omega
  have hno:xs ≠ ys:=by rintro rfl;omega
  have Hno:=LH hno
  clear hno hne l1 l2
  go_enter Tryz.func195,Tryz.ntmps195
  go_wp2_with fail
  go_ret
  exact ⟨false,rfl,⟨fun h=>(by cases h),fun h=>absurd h Hno.out⟩,Below.refl _ _⟩
 have hi:((n:Int) != (m:Int))=false:=by rw [bne_eq_false_iff_eq];omega
 obtain rfl:n=m:=hne
 have L1:=LH l1
 have L2:=LH l2
 clear l1 l2
 go_enter Tryz.func195,Tryz.ntmps195
 go_wp2_with fail
 clear hi
 go_loopw [13] (fun i wr=>∃ q:Nat,q≤n∧i = .int .i64 (q:Int)∧Hid (xs.take q=ys.take q)∧Hid (Below w.heap.size w wr)) (fun i _=>n - (intOf i).toNat)
 case atStart=>exact ⟨0,Nat.zero_le _,rfl,LH rfl,LH (Below.refl _ _)⟩
 case round =>
  obtain ⟨q,hq,rfl,Ht,HB⟩:=hrel
  by_cases hqq:q < n
  case pos =>
   obtain ⟨tb,tof,t,rfl,htb,Htt,p0⟩:=(H1.out.below HB.out).get hqq
   obtain ⟨ub,uof,u,rfl,hub,Huu,r0⟩:=(H2.out.below HB.out).get hqq
   have bc:=bl_cell wr
   by_cases htu:t=u
   case neg =>
    have Hn:Hid (xs ≠ ys):=LH (fun e=>by
     have h1:=Htt.out
     rw [e,Huu.out] at h1
     exact htu (by simpa using h1.symm))
    have heq:(t != u)=true:=by rw [bne_iff_ne];exact htu
    clear htu
    go_wp2_with fail
    refine wp_region_below (by kernel_rfl) (by kernel_rfl) ?_
    repeat (go_big_quiet_step (fail))
    refine wpQuiet_nil ?_
    rintro _ ⟨x,rfl⟩
    go_wp2_with fail
    go_ret
    exact ⟨false,rfl,⟨fun h=>(by cases h),fun h=>absurd h Hn.out⟩,below_tail HB.out (bl_below wr x)⟩
   case pos =>
    subst htu
    have heq:(t != t)=false:=by simp
    go_wp2_with fail
    refine wp_region_below (by kernel_rfl) (by kernel_rfl) ?_
    repeat (go_big_quiet_step (fail))
    refine wpQuiet_nil ?_
    rintro _ ⟨x,rfl⟩
    go_wp2_with fail
    go_roundw
    case rel=>exact ⟨q+1,by omega,by go_num,LH (take_same Ht.out Htt.out Huu.out),LH (below_tail HB.out (bl_below wr x))⟩
    case measure=>simp [intOf];omega
  case neg =>
   obtain rfl:q=n:=by omega
   have HT:Hid (xs=ys):=LH (by have:=Ht.out;rwa [List.take_of_length_le (by rw [L1.out];exact Nat.le_refl _),List.take_of_length_le (by rw [L2.out];exact Nat.le_refl _)] at this)
   go_wp2_with fail
   go_ret
   exact ⟨true,rfl,⟨fun _=>HT.out,fun _=>rfl⟩,HB.out⟩
theorem two_new (w:World) (t:TypeId) (c1 c2:Array Value):Below w.heap.size w ((w.alloc (.cells c1 t)).alloc (.cells c2 t))∧Blk ((w.alloc (.cells c1 t)).alloc (.cells c2 t)) w.heap.size t c1∧Blk ((w.alloc (.cells c1 t)).alloc (.cells c2 t)) (w.heap.size+1) t c2:=by
 have h1:=Blk.new w t c1
 have h2:=Blk.new (w.alloc (.cells c1 t)) t c2
 have b1:=alloc_below w (.cells c1 t)
 have b2:=alloc_below (w.alloc (.cells c1 t)) (.cells c2 t)
 rw [alloc_size] at h2
 exact ⟨below_tail b1 b2,h1.ext b2,h2⟩
theorem tr_rules (At:Option Addr) (ct:Nat) (t:Rul) (Au:Option Addr) (cu:Nat) (u:Rul) (w:World) (h1:Ints .i64 w At t.right.length ct t.right) (h2:Ints .i64 w Au u.right.length cu u.right) :
 Calls Tryz.prog 145 #[.agg #[.int .i64 t.left, .slice At t.right.length ct, .int .i64 t.prec], .agg #[.int .i64 u.left, .slice Au u.right.length cu, .int .i64 u.prec]] w fun e w'=>∃ b,e = .returned (.bool b)∧(b=true ↔ t=u)∧Below w.heap.size w w':=by
 obtain ⟨hb,hT,hU⟩:=two_new w 52 #[.int .i64 t.left, .slice At t.right.length ct, .int .i64 t.prec] #[.int .i64 u.left, .slice Au u.right.length cu, .int .i64 u.prec]
 have CI:=LH (tr_EqualI At t.right.length ct t.right Au u.right.length cu u.right _ (h1.below hb) (h2.below hb))
 clear h1 h2
 go_enter Tryz.func145,Tryz.ntmps145
 go_upto_region 1 with fail
 generalize (w.alloc (.cells #[.int .i64 t.left, .slice At t.right.length ct, .int .i64 t.prec] 52)).alloc (.cells #[.int .i64 u.left, .slice Au u.right.length cu, .int .i64 u.prec] 52)=W at *
 have HB:=LH hb
 have a0:W.cell? ⟨w.heap.size,0,none⟩=some (.int .i64 t.left):=hT.cell 0
 have a1:W.cell? ⟨w.heap.size,1,none⟩=some (.slice At t.right.length ct):=hT.cell 1
 have a2:W.cell? ⟨w.heap.size,2,none⟩=some (.int .i64 t.prec):=hT.cell 2
 have b0:W.cell? ⟨w.heap.size+1,0,none⟩=some (.int .i64 u.left):=hU.cell 0
 have b1:W.cell? ⟨w.heap.size+1,1,none⟩=some (.slice Au u.right.length cu):=hU.cell 1
 have b2:W.cell? ⟨w.heap.size+1,2,none⟩=some (.int .i64 u.prec):=hU.cell 2
 have al:=hT.lt
 have bl':=hU.lt
 clear hT hU hb
 by_cases hl:t.left=u.left
 case neg =>
  have i1:(t.left == u.left)=false:=by rw [beq_eq_false_iff_ne];exact hl
  have Hn:Hid (t ≠ u):=LH fun e=>hl (by rw [e])
  clear hl
  go_wp2_with fail
  go_ret
  exact ⟨false,rfl,⟨fun h=>(by cases h),fun h=>absurd h Hn.out⟩,HB.out⟩
 have i1:(t.left == u.left)=true:=by rw [beq_iff_eq];exact hl
 by_cases hp:t.prec=u.prec
 case neg =>
  have i2:(t.prec == u.prec)=false:=by rw [beq_eq_false_iff_ne];exact hp
  have Hn:Hid (t ≠ u):=LH fun e=>hp (by rw [e])
  clear hl hp
  go_wp2_with fail
  go_ret
  exact ⟨false,rfl,⟨fun h=>(by cases h),fun h=>absurd h Hn.out⟩,HB.out⟩
 have i2:(t.prec == u.prec)=true:=by rw [beq_iff_eq];exact hp
 have Hl:=LH hl
 have Hp:=LH hp
 clear hl hp
 go_wp2_with (go_at_call 195;(with_reducible refine CI.out.mono ?_);rintro e w6 ⟨bq,rfl,hbq,hb6⟩)
 go_ret
 refine ⟨bq,by simp,⟨fun h=>rulB_iff.1 (by unfold rulB;rw [Hl.out,Hp.out,hbq.1 h];simp),fun h=>hbq.2 (by rw [h])⟩,below_tail HB.out hb6⟩
theorem tr_EqualF (A1:Option Addr) (n c1:Nat) (xs:List Rul) (A2:Option Addr) (m c2:Nat) (ys:List Rul) (w:World) (h1:Ruls w A1 n c1 xs) (h2:Ruls w A2 m c2 ys) :
 Calls Tryz.prog 144 #[.slice A1 n c1, .slice A2 m c2, .func (.func 145) #[] #[]] w fun e w'=>∃ b,e = .returned (.bool b)∧(b=true ↔ xs=ys)∧Below w.heap.size w w':=by
 have l1:=h1.len
 have l2:=h2.len
 have k1:=h1.cap
 have k2:=h2.cap
 have H1:=LH h1
 have H2:=LH h2
 clear h1 h2
 by_cases hne:n=m
 case neg =>
  have hi:((n:Int) != (m:Int))=true:=by rw [bne_iff_ne];omega
  have hno:xs ≠ ys:=by rintro rfl;omega
  have Hno:=LH hno
  clear hno hne l1 l2
  go_enter Tryz.func144,Tryz.ntmps144
  go_wp2_with fail
  go_ret
  exact ⟨false,rfl,⟨fun h=>(by cases h),fun h=>absurd h Hno.out⟩,Below.refl _ _⟩
 have hi:((n:Int) != (m:Int))=false:=by rw [bne_eq_false_iff_eq];omega
 obtain rfl:n=m:=hne
 have L1:=LH l1
 have L2:=LH l2
 clear l1 l2
 go_enter Tryz.func144,Tryz.ntmps144
 go_wp2_with fail
 clear hi
 go_loopw [17] (fun i wr=>∃ q:Nat,q≤n∧i = .int .i64 (q:Int)∧Hid (xs.take q=ys.take q)∧Hid (Below w.heap.size w wr)) (fun i _=>n - (intOf i).toNat)
 case atStart=>exact ⟨0,Nat.zero_le _,rfl,LH rfl,LH (Below.refl _ _)⟩
 case round =>
  obtain ⟨q,hq,rfl,Ht,HB⟩:=hrel
  by_cases hqq:q < n
  case pos =>
   obtain ⟨tb,tof,t,At,ct,rfl,htb,Htt,p0,p1,p2,hti⟩:=(H1.out.below HB.out).get hqq
   obtain ⟨ub,uof,u,Au,cu,rfl,hub,Huu,r0,r1,r2,hui⟩:=(H2.out.below HB.out).get hqq
   obtain ⟨hbW,hbT,hbU⟩:=two_new wr 52 #[.int .i64 t.left, .slice At t.right.length ct, .int .i64 t.prec] #[.int .i64 u.left, .slice Au u.right.length cu, .int .i64 u.prec]
   have bT:=alloc_below wr (.cells #[.int .i64 t.left, .slice At t.right.length ct, .int .i64 t.prec] 52)
   have CI:=LH (tr_rules At ct t Au cu u _ (hti.below hbW) (hui.below hbW))
   have HBW:=LH (below_tail HB.out hbW)
   have s0:=(bT.cell (p:=⟨ub,uof+q * 3,none⟩) hub).trans r0
   have s1:=(bT.cell (p:=⟨ub,uof+q * 3+1,none⟩) hub).trans r1
   have s2:=(bT.cell (p:=⟨ub,uof+q * 3+2,none⟩) hub).trans r2
   have hub2:ub < (wr.alloc (.cells #[.int .i64 t.left, .slice At t.right.length ct, .int .i64 t.prec] 52)).heap.size:=Nat.lt_of_lt_of_le hub bT.size
   clear hti hui
   go_upto_region 7 with fail
   generalize (wr.alloc (.cells #[.int .i64 t.left, .slice At t.right.length ct, .int .i64 t.prec] 52)).alloc (.cells #[.int .i64 u.left, .slice Au u.right.length cu, .int .i64 u.prec] 52)=W at *
   have a0:W.cell? ⟨wr.heap.size,0,none⟩=some (.int .i64 t.left):=hbT.cell 0
   have a1:W.cell? ⟨wr.heap.size,1,none⟩=some (.slice At t.right.length ct):=hbT.cell 1
   have a2:W.cell? ⟨wr.heap.size,2,none⟩=some (.int .i64 t.prec):=hbT.cell 2
   have b0:W.cell? ⟨wr.heap.size+1,0,none⟩=some (.int .i64 u.left):=hbU.cell 0
   have b1:W.cell? ⟨wr.heap.size+1,1,none⟩=some (.slice Au u.right.length cu):=hbU.cell 1
   have b2:W.cell? ⟨wr.heap.size+1,2,none⟩=some (.int .i64 u.prec):=hbU.cell 2
   have al:=hbT.lt
   have bl':=hbU.lt
   clear hbT hbU hbW bT p0 p1 p2 r0 r1 r2 s0 s1 s2 hub2
   go_wp2_with fail
   (with_reducible refine CI.out.mono ?_)
   rintro e w6 ⟨bq,rfl,hbq,hb6⟩
   have HB6:=LH (below_tail HBW.out hb6)
   have Hbq:=LH hbq
   clear hbq hb6
   cases bq
   case false =>
    have Hn:Hid (xs ≠ ys):=LH (fun e=>by
     have h1:=Htt.out
     rw [e,Huu.out] at h1
     have h2:t=u:=by simpa using h1.symm
     have:=Hbq.out.2 h2
     cases this)
    go_wp2_with fail
    go_ret
    exact ⟨false,rfl,⟨fun h=>(by cases h),fun h=>absurd h Hn.out⟩,HB6.out⟩
   case true =>
    have Htu:Hid (t=u):=LH (Hbq.out.1 rfl)
    go_wp2_with fail
    go_roundw
    case rel=>exact ⟨q+1,by omega,by go_num,LH (take_same Ht.out Htt.out (by rw [Huu.out,Htu.out])),HB6⟩
    case measure=>simp [intOf];omega
  case neg =>
   obtain rfl:q=n:=by omega
   have HT:Hid (xs=ys):=LH (by have:=Ht.out;rwa [List.take_of_length_le (by rw [L1.out];exact Nat.le_refl _),List.take_of_length_le (by rw [L2.out];exact Nat.le_refl _)] at this)
   go_wp2_with fail
   go_ret
   exact ⟨true,rfl,⟨fun _=>HT.out,fun _=>rfl⟩,HB.out⟩
end Go.Proofs.YtggbjdmpjidhgaaGreatDoor
