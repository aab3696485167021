/- grammars compared: the reference's Same, walked. -/
import Derived.Test.YtggbjdmpjidhgaaGreatDoorQCyW9
import Derived.Test.YtggbjdmpjidhgaaGreatDoorQGrN1
import Derived.Laws.StructEq
set_option linter.unusedVariables false
set_option linter.unusedSimpArgs false
set_option maxHeartbeats 8000000
set_option maxRecDepth 100000
namespace Go.Proofs.YtggbjdmpjidhgaaGreatDoor
open Go.RowKit
theorem ba_beq {a b:ByteArray}:(a == b)=true ↔ a=b:=by
 obtain ⟨⟨x⟩⟩:=a
 obtain ⟨⟨y⟩⟩:=b
 show ((⟨x⟩:Array UInt8) == ⟨y⟩)=true ↔ _
 simp
def trmB (a b:Trm):Bool:=(a.name == b.name) && ((a.level == b.level) && (a.assoc == b.assoc))
theorem trmB_iff {a b:Trm}:trmB a b=true ↔ a=b:=by
 obtain ⟨x,y,z⟩:=a
 obtain ⟨x',y',z'⟩:=b
 unfold trmB
 rw [Bool.and_eq_true,Bool.and_eq_true,ba_beq,beq_iff_eq,beq_iff_eq]
 constructor
 · rintro ⟨h1,h2,h3⟩;simp only at h1 h2 h3;rw [h1,h2,h3]
 · intro h;injection h with h1 h2 h3;exact ⟨h1,h2,h3⟩
def rulB (a b:Rul):Bool:=(a.left == b.left) && ((a.prec == b.prec) && (a.right == b.right))
theorem rulB_iff {a b:Rul}:rulB a b=true ↔ a=b:=by
 obtain ⟨x,y,z⟩:=a
 obtain ⟨x',y',z'⟩:=b
 unfold rulB
 rw [Bool.and_eq_true,Bool.and_eq_true,beq_iff_eq,beq_iff_eq,beq_iff_eq]
 constructor
 · rintro ⟨h1,h2,h3⟩;simp only at h1 h2 h3;rw [h1,h2,h3]
 · intro h;injection h with h1 h2 h3;exact ⟨h1,h3,h2⟩
open Classical in
noncomputable def eqG (A B:Gr):Bool:=decide (A=B)
theorem eqG_iff {A B:Gr}:eqG A B=true ↔ A=B:=by unfold eqG;simp
theorem eqG_no {A B:Gr} (h:A ≠ B):eqG A B=false:=by
 cases he:eqG A B
 · rfl
 · exact absurd (eqG_iff.1 he) h
theorem eqG_yes {A B:Gr} (h1:A.terms=B.terms) (h2:A.nons=B.nons) (h3:A.rules=B.rules) (h4:A.start=B.start):eqG A B=true:=by
 rw [eqG_iff]
 obtain ⟨a,b,c,d⟩:=A
 obtain ⟨a',b',c',d'⟩:=B
 simp only at h1 h2 h3 h4
 rw [h1,h2,h3,h4]
theorem take_same {α:Type} {l m:List α} {k:Nat} {x:α} (h:l.take k=m.take k) (hl:l[k]? = some x) (hm:m[k]? = some x):l.take (k+1)=m.take (k+1):=by
 rw [List.take_add_one,List.take_add_one,h,hl,hm]
theorem Tryz.fieldsTerm:(Tryz.prog.fieldsOf 91).toList.map (fun f=>(f.name,f.type,f.offset))=[("Name",9,0),("Level",3,1),("Assoc",3,2)]:=by kernel_rfl
theorem Tryz.structTerm:Tryz.prog.underlying 91=some (.struct (Tryz.prog.fieldsOf 91)):=by kernel_rfl
theorem Tryz.heldTerm:Tryz.prog.stoodInHeld 91=false:=by kernel_rfl
theorem Tryz.guardTerm:Tryz.prog.eqGuardType Tryz.prog.depth 91=false:=by kernel_rfl
theorem fields3 {fs:List Field} {n1 n2 n3:String} {t1 t2 t3 o1 o2 o3:Nat} (h:fs.map (fun f=>(f.name,f.type,f.offset))=[(n1,t1,o1),(n2,t2,o2),(n3,t3,o3)]) :
 ∃ f1 f2 f3,fs=[f1,f2,f3]∧(f1.name=n1∧f1.type=t1∧f1.offset=o1)∧(f2.name=n2∧f2.type=t2∧f2.offset=o2)∧(f3.name=n3∧f3.type=t3∧f3.offset=o3):=by
 match fs,h with
 | [f1,f2,f3],h =>
   simp at h
   exact ⟨f1,f2,f3,rfl,h.1,h.2.1,h.2.2⟩
theorem eq_trm (a b:Trm) (w:World):(Op.equalIn 10000 91 (.agg #[.string a.name, .int .i64 a.level, .int .i64 a.assoc]) (.agg #[.string b.name, .int .i64 b.level, .int .i64 b.assoc])).run Tryz.prog w = .ok (trmB a b) w:=by
 rw [run_equalIn_agg (d:=9999) w 91 _ _ Tryz.structTerm Tryz.heldTerm]
 obtain ⟨f1,f2,f3,hfs,⟨n1,t1,o1⟩,⟨n2,t2,o2⟩,⟨n3,t3,o3⟩⟩:=fields3 Tryz.fieldsTerm
 rw [hfs]
 have u9:=Tryz.underlying9
 have u3:=Tryz.underlying3
 unfold trmB
 rw [beq_toListBytes]
 have e9:∀ x y:ByteArray,(Op.equalIn 9999 9 (.string x) (.string y)).run Tryz.prog w = .ok (x.toList == y.toList) w:=fun x y=>run_equalIn_string (d:=9998) w _ x y u9
 have e3:∀ x y:Int,(Op.equalIn 9999 3 (.int .i64 x) (.int .i64 y)).run Tryz.prog w = .ok (x == y) w:=fun x y=>run_equalIn_int (d:=9998) w _ .i64 .i64 x y u3
 have pa0:∀ t:Trm,(part 9 #[.string t.name, .int .i64 t.level, .int .i64 t.assoc] 0).run Tryz.prog w = .ok (.string t.name) w:=fun t=>by go_simp
 have pa1:∀ t:Trm,(part 3 #[.string t.name, .int .i64 t.level, .int .i64 t.assoc] 1).run Tryz.prog w = .ok (.int .i64 t.level) w:=fun t=>by go_simp
 have pa2:∀ t:Trm,(part 3 #[.string t.name, .int .i64 t.level, .int .i64 t.assoc] 2).run Tryz.prog w = .ok (.int .i64 t.assoc) w:=fun t=>by go_simp
 simp only [Op.eqFields,n1,t1,o1,n2,t2,o2,n3,t3,o3]
 rw [if_pos (by decide),if_pos (by decide),if_pos (by decide)]
 simp only [Sem.run_bind,pa0,pa1,pa2,e9,e3,Result.andThen_ok,Sem.run_ite,Sem.run_pure]
 cases a.name.toList == b.name.toList <;> cases a.level == b.level <;> cases a.assoc == b.assoc <;> simp
theorem two_blks (w:World) (t:TypeId) (c1 c2:Array Value):Below w.heap.size w ((w.alloc (.cells c1 t)).alloc (.cells c2 t)).drew∧Blk ((w.alloc (.cells c1 t)).alloc (.cells c2 t)).drew w.heap.size t c1∧Blk ((w.alloc (.cells c1 t)).alloc (.cells c2 t)).drew (w.heap.size+1) t c2:=by
 have h1:=Blk.new w t c1
 have h2:=Blk.new (w.alloc (.cells c1 t)) t c2
 have b1:=alloc_below w (.cells c1 t)
 have b2:=alloc_below (w.alloc (.cells c1 t)) (.cells c2 t)
 rw [alloc_size] at h2
 exact ⟨(below_tail b1 b2).drew,Blk.drew (h1.ext b2),Blk.drew h2⟩
end Go.Proofs.YtggbjdmpjidhgaaGreatDoor
