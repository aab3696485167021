/- grammars compared: the reference's Same, walked. -/
import Derived.Test.YtggbjdmpjidhgaaGreatDoorQCtR4
import Derived.Test.YtggbjdmpjidhgaaGreatDoorQCyW9
import Derived.Test.YtggbjdmpjidhgaaGreatDoorQGrN1
import Derived.Laws.StructEq
set_option linter.unusedVariables false
set_option linter.unusedSimpArgs false
set_option maxHeartbeats 8000000
set_option maxRecDepth 100000
namespace Go.Proofs.YtggbjdmpjidhgaaGreatDoor
open Go.RowKit
theorem ba_beq {a b:ByteArray}:(a == b)=true ↔ a=b:=by
 obtain ⟨⟨x⟩⟩:=a
 obtain ⟨⟨y⟩⟩:=b
 show ((⟨x⟩:Array UInt8) == ⟨y⟩)=true ↔ _
 simp
def trmB (a b:Trm):Bool:=(a.name == b.name) && ((a.level == b.level) && (a.assoc == b.assoc))
theorem trmB_iff {a b:Trm}:trmB a b=true ↔ a=b:=by
 obtain ⟨x,y,z⟩:=a
 obtain ⟨x',y',z'⟩:=b
 unfold trmB
 rw [Bool.and_eq_true,Bool.and_eq_true,ba_beq,beq_iff_eq,beq_iff_eq]
 constructor
 · rintro ⟨h1,h2,h3⟩;simp only at h1 h2 h3;rw [h1,h2,h3]
 · intro h;injection h with h1 h2 h3;exact ⟨h1,h2,h3⟩
def rulB (a b:Rul):Bool:=(a.left == b.left) && ((a.prec == b.prec) && (a.right == b.right))
theorem rulB_iff {a b:Rul}:rulB a b=true ↔ a=b:=by
 obtain ⟨x,y,z⟩:=a
 obtain ⟨x',y',z'⟩:=b
 unfold rulB
 rw [Bool.and_eq_true,Bool.and_eq_true,beq_iff_eq,beq_iff_eq,beq_iff_eq]
 constructor
 · rintro ⟨h1,h2,h3⟩;simp only at h1 h2 h3;rw [h1,h2,h3]
 · intro h;injection h with h1 h2 h3;exact ⟨h1,h3,h2⟩
open Classical in
noncomputable def eqG (A B:Gr):Bool:=decide (A=B)
theorem eqG_iff {A B:Gr}:eqG A B=true ↔ A=B:=by unfold eqG;simp
theorem eqG_no {A B:Gr} (h:A ≠ B):eqG A B=false:=by
 cases he:eqG A B
 · rfl
 · exact absurd (eqG_iff.1 he) h
theorem eqG_yes {A B:Gr} (h1:A.terms=B.terms) (h2:A.nons=B.nons) (h3:A.rules=B.rules) (h4:A.start=B.start):eqG A B=true:=by
 rw [eqG_iff]
 obtain ⟨a,b,c,d⟩:=A
 obtain ⟨a',b',c',d'⟩:=B
 simp only at h1 h2 h3 h4
 rw [h1,h2,h3,h4]
theorem take_same {α:Type} {l m:List α} {k:Nat} {x:α} (h:l.take k=m.take k) (hl:l[k]? = some x) (hm:m[k]? = some x):l.take (k+1)=m.take (k+1):=by
 rw [List.take_add_one,List.take_add_one,h,hl,hm]
theorem Tryz.fieldsTerm:(Tryz.prog.fieldsOf 91).toList.map (fun f=>(f.name,f.type,f.offset))=[("Name",9,0),("Level",3,1),("Assoc",3,2)]:=by kernel_rfl
theorem Tryz.structTerm:Tryz.prog.underlying 91=some (.struct (Tryz.prog.fieldsOf 91)):=by kernel_rfl
theorem Tryz.heldTerm:Tryz.prog.stoodInHeld 91=false:=by kernel_rfl
theorem Tryz.guardTerm:Tryz.prog.eqGuardType Tryz.prog.depth 91=false:=by kernel_rfl
theorem fields3 {fs:List Field} {n1 n2 n3:String} {t1 t2 t3 o1 o2 o3:Nat} (h:fs.map (fun f=>(f.name,f.type,f.offset))=[(n1,t1,o1),(n2,t2,o2),(n3,t3,o3)]) :
 ∃ f1 f2 f3,fs=[f1,f2,f3]∧(f1.name=n1∧f1.type=t1∧f1.offset=o1)∧(f2.name=n2∧f2.type=t2∧f2.offset=o2)∧(f3.name=n3∧f3.type=t3∧f3.offset=o3):=by
 match fs,h with
 | [f1,f2,f3],h =>
   simp at h
   exact ⟨f1,f2,f3,rfl,h.1,h.2.1,h.2.2⟩
theorem eq_trm (a b:Trm) (w:World):(Op.equalIn 10000 91 (.agg #[.string a.name, .int .i64 a.level, .int .i64 a.assoc]) (.agg #[.string b.name, .int .i64 b.level, .int .i64 b.assoc])).run Tryz.prog w = .ok (trmB a b) w:=by
 rw [run_equalIn_agg (d:=9999) w 91 _ _ Tryz.structTerm Tryz.heldTerm]
 obtain ⟨f1,f2,f3,hfs,⟨n1,t1,o1⟩,⟨n2,t2,o2⟩,⟨n3,t3,o3⟩⟩:=fields3 Tryz.fieldsTerm
 rw [hfs]
 have u9:=Tryz.underlying9
 have u3:=Tryz.underlying3
 unfold trmB
 rw [beq_toListBytes]
 have e9:∀ x y:ByteArray,(Op.equalIn 9999 9 (.string x) (.string y)).run Tryz.prog w = .ok (x.toList == y.toList) w:=fun x y=>run_equalIn_string (d:=9998) w _ x y u9
 have e3:∀ x y:Int,(Op.equalIn 9999 3 (.int .i64 x) (.int .i64 y)).run Tryz.prog w = .ok (x == y) w:=fun x y=>run_equalIn_int (d:=9998) w _ .i64 .i64 x y u3
 have pa0:∀ t:Trm,(part 9 #[.string t.name, .int .i64 t.level, .int .i64 t.assoc] 0).run Tryz.prog w = .ok (.string t.name) w:=fun t=>by go_simp
 have pa1:∀ t:Trm,(part 3 #[.string t.name, .int .i64 t.level, .int .i64 t.assoc] 1).run Tryz.prog w = .ok (.int .i64 t.level) w:=fun t=>by go_simp
 have pa2:∀ t:Trm,(part 3 #[.string t.name, .int .i64 t.level, .int .i64 t.assoc] 2).run Tryz.prog w = .ok (.int .i64 t.assoc) w:=fun t=>by go_simp
 simp only [Op.eqFields,n1,t1,o1,n2,t2,o2,n3,t3,o3]
 rw [if_pos (by decide),if_pos (by decide),if_pos (by decide)]
 simp only [Sem.run_bind,pa0,pa1,pa2,e9,e3,Result.andThen_ok,Sem.run_ite,Sem.run_pure]
 cases a.name.toList == b.name.toList <;> cases a.level == b.level <;> cases a.assoc == b.assoc <;> simp
theorem two_blks (w:World) (t:TypeId) (c1 c2:Array Value):Below w.heap.size w ((w.alloc (.cells c1 t)).alloc (.cells c2 t)).drew∧Blk ((w.alloc (.cells c1 t)).alloc (.cells c2 t)).drew w.heap.size t c1∧Blk ((w.alloc (.cells c1 t)).alloc (.cells c2 t)).drew (w.heap.size+1) t c2:=by
 have h1:=Blk.new w t c1
 have h2:=Blk.new (w.alloc (.cells c1 t)) t c2
 have b1:=alloc_below w (.cells c1 t)
 have b2:=alloc_below (w.alloc (.cells c1 t)) (.cells c2 t)
 rw [alloc_size] at h2
 exact ⟨(below_tail b1 b2).drew,Blk.drew (h1.ext b2),Blk.drew h2⟩
theorem rf_Same9 (h k:GH) (A B:Gr) (w:World) (hA:GrAt w h A) (hB:GrAt w k B) :
 Calls Tryz.prog 24 #[GV h A.start,GV k B.start] w fun e w'=>e = .returned (.bool (eqG A B))∧Below w.heap.size w w':=by
 obtain ⟨a1,n1,c1,a2,n2,c2,a3,n3,c3⟩:=h
 obtain ⟨b1,m1,d1,b2,m2,d2,b3,m3,d3⟩:=k
 have e1:A.terms.length=n1:=hA.terms.len
 have e2:A.nons.length=n2:=hA.nons.len
 have e3:A.rules.length=n3:=hA.rules.len
 have g1:B.terms.length=m1:=hB.terms.len
 have g2:B.nons.length=m2:=hB.nons.len
 have g3:B.rules.length=m3:=hB.rules.len
 have k1:=hA.terms.cap
 have k2:=hA.nons.cap
 have k3:=hA.rules.cap
 have l1:=hB.terms.cap
 have l2:=hB.nons.cap
 have l3:=hB.rules.cap
 simp only [] at k1 k2 k3 l1 l2 l3
 have HA:=LH hA
 have HB:=LH hB
 have hx1:=GBox.new w 26 ⟨a1,n1,c1,a2,n2,c2,a3,n3,c3⟩ A.start
 have hx2:=GBox.new (w.alloc (.cells #[.slice a1 n1 c1, .slice a2 n2 c2, .slice a3 n3 c3, .int .i64 A.start] 26)) 26 ⟨b1,m1,d1,b2,m2,d2,b3,m3,d3⟩ B.start
 have hl1:=alloc_below w (.cells #[.slice a1 n1 c1, .slice a2 n2 c2, .slice a3 n3 c3, .int .i64 A.start] 26)
 have hl2:=alloc_below (w.alloc (.cells #[.slice a1 n1 c1, .slice a2 n2 c2, .slice a3 n3 c3, .int .i64 A.start] 26)) (.cells #[.slice b1 m1 d1, .slice b2 m2 d2, .slice b3 m3 d3, .int .i64 B.start] 26)
 have hsz:(w.alloc (.cells #[.slice a1 n1 c1, .slice a2 n2 c2, .slice a3 n3 c3, .int .i64 A.start] 26)).heap.size=w.heap.size+1:=alloc_size _ _
 have hbx1:=hx1.below hl2
 have hW:=below_tail hl1 hl2
 clear hA hB hx1 hl1 hl2
 go_enter Tryz.func24,Tryz.ntmps24
 go_upto_region 1 with fail
 generalize (w.alloc (.cells #[.slice a1 n1 c1, .slice a2 n2 c2, .slice a3 n3 c3, .int .i64 A.start] 26)).alloc (.cells #[.slice b1 m1 d1, .slice b2 m2 d2, .slice b3 m3 d3, .int .i64 B.start] 26)=W at *
 rw [hsz] at hx2
 have HX1:=LH hbx1
 have HX2:=LH hx2
 have HW:=LH hW
 have ⟨y5,y0,y1,y2,y3⟩:=hbx1
 simp only [] at y0 y1 y2 y3
 have ⟨z5,z0,z1,z2,z3⟩:=hx2
 simp only [] at z0 z1 z2 z3
 clear hbx1 hx2 hsz hW
 have hno:A ≠ B→Hid (eqG A B=false):=fun h=>LH (eqG_no h)
 by_cases q1:n1=m1
 case neg =>
  have Hno:=hno (by rintro rfl;omega)
  have i1:((n1:Int) != (m1:Int))=true:=by rw [bne_iff_ne];omega
  clear hno q1 e1 e2 e3 g1 g2 g3
  go_wp2_with fail
  go_ret
  exact ⟨by rw [Hno.out];rfl,HW.out⟩
 have i1:((n1:Int) != (m1:Int))=false:=by rw [bne_eq_false_iff_eq];omega
 by_cases q2:n2=m2
 case neg =>
  have Hno:=hno (by rintro rfl;omega)
  have i2:((n2:Int) != (m2:Int))=true:=by rw [bne_iff_ne];omega
  clear hno q1 q2 e1 e2 e3 g1 g2 g3
  go_wp2_with fail
  go_ret
  exact ⟨by rw [Hno.out];rfl,HW.out⟩
 have i2:((n2:Int) != (m2:Int))=false:=by rw [bne_eq_false_iff_eq];omega
 by_cases q3:n3=m3
 case neg =>
  have Hno:=hno (by rintro rfl;omega)
  have i3:((n3:Int) != (m3:Int))=true:=by rw [bne_iff_ne];omega
  clear hno q1 q2 q3 e1 e2 e3 g1 g2 g3
  go_wp2_with fail
  go_ret
  exact ⟨by rw [Hno.out];rfl,HW.out⟩
 have i3:((n3:Int) != (m3:Int))=false:=by rw [bne_eq_false_iff_eq];omega
 by_cases q4:A.start=B.start
 case neg =>
  have Hno:=hno (by rintro rfl;exact q4 rfl)
  have i4:(A.start != B.start)=true:=by rw [bne_iff_ne];exact q4
  clear hno q1 q2 q3 q4 e1 e2 e3 g1 g2 g3
  go_wp2_with fail
  go_ret
  exact ⟨by rw [Hno.out];rfl,HW.out⟩
 have i4:(A.start != B.start)=false:=by rw [bne_eq_false_iff_eq];exact q4
 have Hq4:=LH q4
 have E1:=LH e1
 have E2:=LH e2
 have E3:=LH e3
 have G1:=LH g1
 have G2:=LH g2
 have G3:=LH g3
 obtain rfl:n1=m1:=q1
 obtain rfl:n2=m2:=q2
 obtain rfl:n3=m3:=q3
 have Hno:=LH hno
 clear hno q4 e1 e2 e3 g1 g2 g3
 go_wp2_with fail
 clear i1 i2 i3 i4 y0 y1 y2 y3 z0 z1 z2 z3
 go_loopw [5] (fun i wr=>∃ q:Nat,q≤n1∧i = .int .i64 (q:Int)∧Hid (A.terms.take q=B.terms.take q)∧Hid (Below W.heap.size W wr)) (fun i _=>n1 - (intOf i).toNat)
 case atStart=>exact ⟨0,Nat.zero_le _,rfl,LH rfl,LH (Below.refl _ _)⟩
 case round =>
  obtain ⟨q,hq,rfl,Ht,HB1⟩:=hrel
  have ⟨y5',y0,y1,y2,y3⟩:=HX1.out.below HB1.out
  simp only [] at y0 y1 y2 y3
  have ⟨z5',z0,z1,z2,z3⟩:=HX2.out.below HB1.out
  simp only [] at z0 z1 z2 z3
  by_cases hqq:q < n1
  case pos =>
   obtain ⟨tb,tof,t,rfl,htb,Htt,p0,p1,p2⟩:=(HA.out.below (below_tail HW.out HB1.out)).terms.get hqq
   obtain ⟨ub,uof,u,rfl,hub,Huu,r0,r1,r2⟩:=(HB.out.below (below_tail HW.out HB1.out)).terms.get hqq
   have heq:=eq_trm t u
   have hgd:=Tryz.guardTerm
   have bc:=bl_cell wr
   cases htu:trmB t u
   case false =>
    have Hn:=Hno.out (fun e=>by
     have h1:=Htt.out
     rw [e,Huu.out] at h1
     have:u=t:=by simpa using h1
     rw [this,trmB_iff.2 rfl] at htu
     cases htu)
    rw [htu] at heq
    go_wp2_with fail
    refine wp_region_below (by kernel_rfl) (by kernel_rfl) ?_
    repeat (go_big_quiet_step (fail))
    refine wpQuiet_nil ?_
    rintro _ ⟨x,rfl⟩
    go_wp2_with fail
    go_ret
    exact ⟨by rw [Hn.out];rfl,below_tail HW.out (HB1.out.trans ((bl_below wr x).mono HB1.out.size))⟩
   case true =>
    obtain rfl:=trmB_iff.1 htu
    rw [htu] at heq
    go_wp2_with fail
    refine wp_region_below (by kernel_rfl) (by kernel_rfl) ?_
    repeat (go_big_quiet_step (fail))
    refine wpQuiet_nil ?_
    rintro _ ⟨x,rfl⟩
    go_wp2_with fail
    go_roundw
    case rel=>exact ⟨q+1,by omega,by go_num,LH (take_same Ht.out Htt.out Huu.out),LH (HB1.out.trans ((bl_below wr x).mono HB1.out.size))⟩
    case measure=>simp [intOf];omega
  case neg =>
   obtain rfl:q=n1:=by omega
   have HT:Hid (A.terms=B.terms):=LH (by have:=Ht.out;rwa [List.take_of_length_le (by rw [E1.out];exact Nat.le_refl _),List.take_of_length_le (by rw [G1.out];exact Nat.le_refl _)] at this)
   have HW1:=LH (below_tail HW.out HB1.out)
   have HX1':=LH (HX1.out.below HB1.out)
   have HX2':=LH (HX2.out.below HB1.out)
   go_wp2_with fail
   clear y0 y1 y2 y3 z0 z1 z2 z3 y5' z5' Ht HB1 HX1 HX2 HW
   have HX1:=HX1'
   have HX2:=HX2'
   have HW:=HW1
   clear HX1' HX2' HW1
   generalize wr=W at *
   go_loopw [6] (fun i wr=>∃ q:Nat,q≤n2∧i = .int .i64 (q:Int)∧Hid (A.nons.take q=B.nons.take q)∧Hid (Below W.heap.size W wr)) (fun i _=>n2 - (intOf i).toNat)
   case atStart=>exact ⟨0,Nat.zero_le _,rfl,LH rfl,LH (Below.refl _ _)⟩
   case round =>
    obtain ⟨q,hq,rfl,Ht,HB1⟩:=hrel
    have ⟨y5',y0,y1,y2,y3⟩:=HX1.out.below HB1.out
    simp only [] at y0 y1 y2 y3
    have ⟨z5',z0,z1,z2,z3⟩:=HX2.out.below HB1.out
    simp only [] at z0 z1 z2 z3
    by_cases hqq:q < n2
    case pos =>
     obtain ⟨tb,tof,t,rfl,htb,Htt,p0⟩:=(HA.out.below (below_tail HW.out HB1.out)).nons.get hqq
     obtain ⟨ub,uof,u,rfl,hub,Huu,r0⟩:=(HB.out.below (below_tail HW.out HB1.out)).nons.get hqq
     have bc:=bl_cell wr
     by_cases htu:t=u
     case neg =>
      have heq:(t == u)=false:=by
       cases h:t == u
       · rfl
       · exact absurd (ba_beq.1 h) htu
      have heq2:(t.toList == u.toList)=false:=by rw [← beq_toListBytes];exact heq
      have Hn:=Hno.out (fun e=>by
       have h1:=Htt.out
       rw [e,Huu.out] at h1
       exact htu (by simpa using h1.symm))
      clear htu
      go_wp2_with fail
      refine wp_region_below (by kernel_rfl) (by kernel_rfl) ?_
      repeat (go_big_quiet_step (fail))
      refine wpQuiet_nil ?_
      rintro _ ⟨x,rfl⟩
      go_wp2_with fail
      go_ret
      exact ⟨by rw [Hn.out];rfl,below_tail HW.out (HB1.out.trans ((bl_below wr x).mono HB1.out.size))⟩
     case pos =>
      subst htu
      have heq:(t == t)=true:=ba_beq.2 rfl
      have heq2:(t.toList == t.toList)=true:=by rw [← beq_toListBytes];exact heq
      go_wp2_with fail
      refine wp_region_below (by kernel_rfl) (by kernel_rfl) ?_
      repeat (go_big_quiet_step (fail))
      refine wpQuiet_nil ?_
      rintro _ ⟨x,rfl⟩
      go_wp2_with fail
      go_roundw
      case rel=>exact ⟨q+1,by omega,by go_num,LH (take_same Ht.out Htt.out Huu.out),LH (HB1.out.trans ((bl_below wr x).mono HB1.out.size))⟩
      case measure=>simp [intOf];omega
    case neg =>
     obtain rfl:q=n2:=by omega
     have HN:Hid (A.nons=B.nons):=LH (by have:=Ht.out;rwa [List.take_of_length_le (by rw [E2.out];exact Nat.le_refl _),List.take_of_length_le (by rw [G2.out];exact Nat.le_refl _)] at this)
     have HW1:=LH (below_tail HW.out HB1.out)
     have HX1':=LH (HX1.out.below HB1.out)
     have HX2':=LH (HX2.out.below HB1.out)
     go_wp2_with fail
     clear y0 y1 y2 y3 z0 z1 z2 z3 y5' z5' Ht HB1 HX1 HX2 HW
     have HX1:=HX1'
     have HX2:=HX2'
     have HW:=HW1
     clear HX1' HX2' HW1
     generalize wr=W at *
     go_loopw [7] (fun i wr=>∃ q:Nat,q≤n3∧i = .int .i64 (q:Int)∧Hid (A.rules.take q=B.rules.take q)∧Hid (Below W.heap.size W wr)) (fun i _=>n3 - (intOf i).toNat)
     case atStart=>exact ⟨0,Nat.zero_le _,rfl,LH rfl,LH (Below.refl _ _)⟩
     case round =>
      obtain ⟨q,hq,rfl,Ht,HB1⟩:=hrel
      have ⟨y5',y0,y1,y2,y3⟩:=HX1.out.below HB1.out
      simp only [] at y0 y1 y2 y3
      have ⟨z5',z0,z1,z2,z3⟩:=HX2.out.below HB1.out
      simp only [] at z0 z1 z2 z3
      by_cases hqq:q < n3
      case neg =>
       obtain rfl:q=n3:=by omega
       have HR:Hid (A.rules=B.rules):=LH (by have:=Ht.out;rwa [List.take_of_length_le (by rw [E3.out];exact Nat.le_refl _),List.take_of_length_le (by rw [G3.out];exact Nat.le_refl _)] at this)
       have Hyes:=LH (eqG_yes HT.out HN.out HR.out Hq4.out)
       go_wp2_with fail
       go_ret
       exact ⟨by rw [Hyes.out];rfl,below_tail HW.out HB1.out⟩
      case pos =>
       obtain ⟨tb,tof,t,At,ct,rfl,htb,Htt,p0,p1,p2,hti⟩:=(HA.out.below (below_tail HW.out HB1.out)).rules.get hqq
       obtain ⟨ub,uof,u,Au,cu,rfl,hub,Huu,r0,r1,r2,hui⟩:=(HB.out.below (below_tail HW.out HB1.out)).rules.get hqq
       have HTI:=LH hti
       have HUI:=LH hui
       clear hti hui
       go_upto_region 16 with fail
       have Hneq:Hid (t ≠ u→Hid (eqG A B=false)):=LH fun hne=>Hno.out (fun e=>by
        have h1:=Htt.out
        rw [e,Huu.out] at h1
        exact hne (by simpa using h1.symm))
       go_region
       · as_aux_lemma =>
          obtain ⟨hbW,hbT,hbU⟩:=two_blks wr 52 #[.int .i64 t.left, .slice At t.right.length ct, .int .i64 t.prec] #[.int .i64 u.left, .slice Au u.right.length cu, .int .i64 u.prec]
          generalize ((wr.alloc (.cells #[.int .i64 t.left, .slice At t.right.length ct, .int .i64 t.prec] 52)).alloc (.cells #[.int .i64 u.left, .slice Au u.right.length cu, .int .i64 u.prec] 52)).drew=W5 at *
          have HB5:=LH (HB1.out.trans (hbW.mono HB1.out.size))
          have ti0:W5.cell? ⟨wr.heap.size,0,none⟩=some (.int .i64 t.left):=hbT.cell 0
          have ti1:W5.cell? ⟨wr.heap.size,1,none⟩=some (.slice At t.right.length ct):=hbT.cell 1
          have ti2:W5.cell? ⟨wr.heap.size,2,none⟩=some (.int .i64 t.prec):=hbT.cell 2
          have ui0:W5.cell? ⟨(wr.heap.size+1),0,none⟩=some (.int .i64 u.left):=hbU.cell 0
          have ui1:W5.cell? ⟨(wr.heap.size+1),1,none⟩=some (.slice Au u.right.length cu):=hbU.cell 1
          have ui2:W5.cell? ⟨(wr.heap.size+1),2,none⟩=some (.int .i64 u.prec):=hbU.cell 2
          have til:=hbT.lt
          have uil:=hbU.lt
          have CI:=LH (ref_ints At t.right.length ct t.right Au u.right.length cu u.right W5 (HTI.out.below hbW) (HUI.out.below hbW))
          clear hbW hbT hbU y0 y1 y2 y3 z0 z1 z2 z3 p0 p1 p2 r0 r1 r2
          by_cases hl:t.left=u.left
          case neg =>
           have i1:(t.left != u.left)=true:=by rw [bne_iff_ne];exact hl
           have Hn:=Hneq.out fun e=>hl (by rw [e])
           clear hl
           go_wp2_with (go_at_call 37;(with_reducible refine CI.out.mono ?_);rintro e w6 ⟨rfl,hS6⟩)
           go_ret
           exact ⟨by rw [Hn.out];rfl,below_tail HW.out HB5.out⟩
          have i1:(t.left != u.left)=false:=by rw [bne_eq_false_iff_eq];exact hl
          by_cases hp:t.prec=u.prec
          case neg =>
           have i2:(t.prec != u.prec)=true:=by rw [bne_iff_ne];exact hp
           have Hn:=Hneq.out fun e=>hp (by rw [e])
           clear hl hp
           go_wp2_with (go_at_call 37;(with_reducible refine CI.out.mono ?_);rintro e w6 ⟨rfl,hS6⟩)
           go_ret
           exact ⟨by rw [Hn.out];rfl,below_tail HW.out HB5.out⟩
          have i2:(t.prec != u.prec)=false:=by rw [bne_eq_false_iff_eq];exact hp
          by_cases hr:t.right=u.right
          case neg =>
           have i3:(t.right == u.right)=false:=by rw [beq_eq_false_iff_ne];exact hr
           have Hn:=Hneq.out fun e=>hr (by rw [e])
           rw [i3] at CI
           clear hl hp hr
           go_wp2_with (go_at_call 37;(with_reducible refine CI.out.mono ?_);rintro e w6 ⟨rfl,hS6⟩)
           have HS6:=LH (HB5.out.trans (hS6.below _))
           go_ret
           exact ⟨by rw [Hn.out];rfl,below_tail HW.out HS6.out⟩
          have i3:(t.right == u.right)=true:=by rw [beq_iff_eq];exact hr
          have Hall:=LH (And.intro hl (And.intro hp hr))
          rw [i3] at CI
          clear hl hp hr
          go_wp2_with (go_at_call 37;(with_reducible refine CI.out.mono ?_);rintro e w6 ⟨rfl,hS6⟩)
          have HS6:=LH (HB5.out.trans (hS6.below _))
          go_roundw
          case rel=>exact ⟨q+1,by omega,by go_num,LH (take_same Ht.out Htt.out (by rw [Huu.out,rulB_iff.1 (by unfold rulB;rw [Hall.out.1,Hall.out.2.1,Hall.out.2.2];simp:rulB t u=true)])),HS6⟩
          case measure=>simp [intOf];omega
       · as_aux_lemma =>
          obtain ⟨hbW,hbU,hbT⟩:=two_blks wr 52 #[.int .i64 u.left, .slice Au u.right.length cu, .int .i64 u.prec] #[.int .i64 t.left, .slice At t.right.length ct, .int .i64 t.prec]
          generalize ((wr.alloc (.cells #[.int .i64 u.left, .slice Au u.right.length cu, .int .i64 u.prec] 52)).alloc (.cells #[.int .i64 t.left, .slice At t.right.length ct, .int .i64 t.prec] 52)).drew=W5 at *
          have HB5:=LH (HB1.out.trans (hbW.mono HB1.out.size))
          have ti0:W5.cell? ⟨(wr.heap.size+1),0,none⟩=some (.int .i64 t.left):=hbT.cell 0
          have ti1:W5.cell? ⟨(wr.heap.size+1),1,none⟩=some (.slice At t.right.length ct):=hbT.cell 1
          have ti2:W5.cell? ⟨(wr.heap.size+1),2,none⟩=some (.int .i64 t.prec):=hbT.cell 2
          have ui0:W5.cell? ⟨wr.heap.size,0,none⟩=some (.int .i64 u.left):=hbU.cell 0
          have ui1:W5.cell? ⟨wr.heap.size,1,none⟩=some (.slice Au u.right.length cu):=hbU.cell 1
          have ui2:W5.cell? ⟨wr.heap.size,2,none⟩=some (.int .i64 u.prec):=hbU.cell 2
          have til:=hbT.lt
          have uil:=hbU.lt
          have CI:=LH (ref_ints At t.right.length ct t.right Au u.right.length cu u.right W5 (HTI.out.below hbW) (HUI.out.below hbW))
          clear hbW hbT hbU y0 y1 y2 y3 z0 z1 z2 z3 p0 p1 p2 r0 r1 r2
          by_cases hl:t.left=u.left
          case neg =>
           have i1:(t.left != u.left)=true:=by rw [bne_iff_ne];exact hl
           have Hn:=Hneq.out fun e=>hl (by rw [e])
           clear hl
           go_wp2_with (go_at_call 37;(with_reducible refine CI.out.mono ?_);rintro e w6 ⟨rfl,hS6⟩)
           go_ret
           exact ⟨by rw [Hn.out];rfl,below_tail HW.out HB5.out⟩
          have i1:(t.left != u.left)=false:=by rw [bne_eq_false_iff_eq];exact hl
          by_cases hp:t.prec=u.prec
          case neg =>
           have i2:(t.prec != u.prec)=true:=by rw [bne_iff_ne];exact hp
           have Hn:=Hneq.out fun e=>hp (by rw [e])
           clear hl hp
           go_wp2_with (go_at_call 37;(with_reducible refine CI.out.mono ?_);rintro e w6 ⟨rfl,hS6⟩)
           go_ret
           exact ⟨by rw [Hn.out];rfl,below_tail HW.out HB5.out⟩
          have i2:(t.prec != u.prec)=false:=by rw [bne_eq_false_iff_eq];exact hp
          by_cases hr:t.right=u.right
          case neg =>
           have i3:(t.right == u.right)=false:=by rw [beq_eq_false_iff_ne];exact hr
           have Hn:=Hneq.out fun e=>hr (by rw [e])
           rw [i3] at CI
           clear hl hp hr
           go_wp2_with (go_at_call 37;(with_reducible refine CI.out.mono ?_);rintro e w6 ⟨rfl,hS6⟩)
           have HS6:=LH (HB5.out.trans (hS6.below _))
           go_ret
           exact ⟨by rw [Hn.out];rfl,below_tail HW.out HS6.out⟩
          have i3:(t.right == u.right)=true:=by rw [beq_iff_eq];exact hr
          have Hall:=LH (And.intro hl (And.intro hp hr))
          rw [i3] at CI
          clear hl hp hr
          go_wp2_with (go_at_call 37;(with_reducible refine CI.out.mono ?_);rintro e w6 ⟨rfl,hS6⟩)
          have HS6:=LH (HB5.out.trans (hS6.below _))
          go_roundw
          case rel=>exact ⟨q+1,by omega,by go_num,LH (take_same Ht.out Htt.out (by rw [Huu.out,rulB_iff.1 (by unfold rulB;rw [Hall.out.1,Hall.out.2.1,Hall.out.2.2];simp:rulB t u=true)])),HS6⟩
          case measure=>simp [intOf];omega
end Go.Proofs.YtggbjdmpjidhgaaGreatDoor
