/- grammars compared: the reference's Same, walked. -/
import Derived.Test.YtggbjdmpjidhgaaGreatDoorVQCyW9
import Derived.Test.YtggbjdmpjidhgaaGreatDoorVQGrN1
import Derived.Laws.StructEq
import Derived.Test.YtggbjdmpjidhgaaGreatDoorVQCyR2
set_option linter.unusedVariables false
set_option linter.unusedSimpArgs false
set_option maxHeartbeats 8000000
set_option maxRecDepth 100000
namespace Go.Proofs.YtggbjdmpjidhgaaGreatDoor
open Go.RowKit
theorem ba_beq {a b:ByteArray}:(a == b)=true ↔ a=b:=by
 obtain ⟨⟨x⟩⟩:=a
 obtain ⟨⟨y⟩⟩:=b
 show ((⟨x⟩:Array UInt8) == ⟨y⟩)=true ↔ _
 simp
def trmB (a b:Trm):Bool:=(a.name == b.name) && ((a.level == b.level) && (a.assoc == b.assoc))
theorem trmB_iff {a b:Trm}:trmB a b=true ↔ a=b:=by
 obtain ⟨x,y,z⟩:=a
 obtain ⟨f,g,z'⟩:=b
 unfold trmB
 rw [Bool.and_eq_true,Bool.and_eq_true,ba_beq,beq_iff_eq,beq_iff_eq]
 constructor
 · rintro ⟨h1,c,d⟩;simp only at h1 c d;rw [h1,c,d]
 · intro h;injection h with h1 c d;exact ⟨h1,c,d⟩
def rulB (a b:Rul):Bool:=(a.left == b.left) && ((a.prec == b.prec) && (a.right == b.right))
theorem rulB_iff {a b:Rul}:rulB a b=true ↔ a=b:=by
 obtain ⟨x,y,z⟩:=a
 obtain ⟨f,g,z'⟩:=b
 unfold rulB
 rw [Bool.and_eq_true,Bool.and_eq_true,beq_iff_eq,beq_iff_eq,beq_iff_eq]
 constructor
 · rintro ⟨h1,c,d⟩;simp only at h1 c d;rw [h1,c,d]
 · intro h;injection h with h1 c d;exact ⟨h1,d,c⟩
open Classical in
noncomputable def eqG (A B:Gr):Bool:=decide (A=B)
theorem eqG_iff {A B:Gr}:eqG A B=true ↔ A=B:=by unfold eqG;simp
theorem eqG_no {A B:Gr} (h:A ≠ B):eqG A B=false:=by
 cases a:eqG A B
 · rfl
 · exact absurd (eqG_iff.1 a) h
theorem eqG_yes {A B:Gr} (h1:A.terms=B.terms) (f:A.nons=B.nons) (g:A.rules=B.rules) (h:A.start=B.start):eqG A B=true:=by
 rw [eqG_iff]
 obtain ⟨a,b,c,d⟩:=A
 obtain ⟨j,k,l,m⟩:=B
 simp only at h1 f g h
 rw [h1,f,g,h]
theorem take_same {α:Type} {l m:List α} {k:Nat} {x:α} (h:l.take k=m.take k) (a:l[k]? = some x) (b:m[k]? = some x):l.take (k+1)=m.take (k+1):=by
 rw [List.take_add_one,List.take_add_one,h,a,b]
theorem Tryz.fieldsTerm:(Tryz.prog.fieldsOf 91).toList.map (fun f=>(f.name,f.type,f.offset))=[("Name",9,0),("Level",3,1),("Assoc",3,2)]:=by kernel_rfl
theorem Tryz.structTerm:Tryz.prog.underlying 91=some (.struct (Tryz.prog.fieldsOf 91)):=by kernel_rfl
theorem Tryz.heldTerm:Tryz.prog.stoodInHeld 91=false:=by kernel_rfl
theorem Tryz.guardTerm:Tryz.prog.eqGuardType Tryz.prog.depth 91=false:=by kernel_rfl
theorem fields3 {d:List Field} {n1 n2 n3:String} {l m n g j k:Nat} (h:d.map (fun f=>(f.name,f.type,f.offset))=[(n1,l,g),(n2,m,j),(n3,n,k)]) :
 ∃ a b c,d=[a,b,c]∧(a.name=n1∧a.type=l∧a.offset=g)∧(b.name=n2∧b.type=m∧b.offset=j)∧(c.name=n3∧c.type=n∧c.offset=k):=by
 match d,h with
 | [a,b,c],h =>
   simp at h
   exact ⟨a,b,c,rfl,h.1,h.2.1,h.2.2⟩
theorem eq_trm (a b:Trm) (w:World):(Op.equalIn 10000 91 (.agg #[.string a.name, .int .i64 a.level, .int .i64 a.assoc]) (.agg #[.string b.name, .int .i64 b.level, .int .i64 b.assoc])).run Tryz.prog w = .ok (trmB a b) w:=by
 rw [run_equalIn_agg (d:=9999) w 91 _ _ Tryz.structTerm Tryz.heldTerm]
 obtain ⟨r,s,u,g,⟨n1,o,h⟩,⟨n2,p,j⟩,⟨n3,q,k⟩⟩:=fields3 Tryz.fieldsTerm
 rw [g]
 have u9:=Tryz.underlying9
 have u3:=Tryz.underlying3
 unfold trmB
 rw [beq_toListBytes]
 have f:∀ x y:ByteArray,(Op.equalIn 9999 9 (.string x) (.string y)).run Tryz.prog w = .ok (x.toList == y.toList) w:=fun x y=>run_equalIn_string (d:=9998) w _ x y u9
 have c:∀ x y:Int,(Op.equalIn 9999 3 (.int .i64 x) (.int .i64 y)).run Tryz.prog w = .ok (x == y) w:=fun x y=>run_equalIn_int (d:=9998) w _ .i64 .i64 x y u3
 have l:∀ t:Trm,(part 9 #[.string t.name, .int .i64 t.level, .int .i64 t.assoc] 0).run Tryz.prog w = .ok (.string t.name) w:=fun t=>by go_simp
 have m:∀ t:Trm,(part 3 #[.string t.name, .int .i64 t.level, .int .i64 t.assoc] 1).run Tryz.prog w = .ok (.int .i64 t.level) w:=fun t=>by go_simp
 have n:∀ t:Trm,(part 3 #[.string t.name, .int .i64 t.level, .int .i64 t.assoc] 2).run Tryz.prog w = .ok (.int .i64 t.assoc) w:=fun t=>by go_simp
 simp only [Op.eqFields,n1,o,h,n2,p,j,n3,q,k]
 rw [if_pos (by decide),if_pos (by decide),if_pos (by decide)]
 simp only [Sem.run_bind,l,m,n,f,c,Result.andThen_ok,Sem.run_ite,Sem.run_pure]
 cases a.name.toList == b.name.toList <;> cases a.level == b.level <;> cases a.assoc == b.assoc <;> simp
theorem tr_EqualT (k:Option Addr) (n c1:Nat) (xs:List (Trm)) (l:Option Addr) (m c2:Nat) (ys:List (Trm)) (w:World) (h1:Trms w k n c1 xs) (c:Trms w l m c2 ys) :
 Calls Tryz.prog 142 #[.slice k n c1, .slice l m c2] w fun e w'=>∃ b,e = .returned (.bool b)∧(b=true ↔ xs=ys)∧Below w.heap.size w w':=by
 have g:=h1.len
 have j:=c.len
 have N:=h1.cap
 have O:=c.cap
 have z:=LH h1
 have A:=LH c
 clear h1 c
 by_cases s:n=m
 case neg =>
  have hi:((n:Int) != (m:Int))=true:=by rw [bne_iff_ne];omega
  have v:xs ≠ ys:=by rintro rfl;omega
  have D:=LH v
  clear v s g j
  go_enter Tryz.func142,Tryz.ntmps142
  go_wp2_with fail
  go_ret
  exact ⟨false,rfl,⟨fun h=>(by cases h),fun h=>absurd h D.out⟩,Below.refl _ _⟩
 have hi:((n:Int) != (m:Int))=false:=by rw [bne_eq_false_iff_eq];omega
 obtain rfl:n=m:=s
 have E:=LH g
 have F:=LH j
 clear g j
 go_enter Tryz.func142,Tryz.ntmps142
 go_wp2_with fail
 clear hi
 go_loopw [13] (fun i wr=>∃ q:Nat,q≤n∧i = .int .i64 (q:Int)∧Hid (xs.take q=ys.take q)∧Hid (Below w.heap.size w wr)) (fun i _=>n - (intOf i).toNat)
 case atStart=>exact ⟨0,Nat.zero_le _,rfl,LH rfl,LH (Below.refl _ _)⟩
 case round =>
  obtain ⟨q,J,rfl,o,a⟩:=hrel
  by_cases y:q < n
  case pos =>
   obtain ⟨V,W,t,rfl,L,p,p0,P,R⟩:=(z.out.below a.out).get y
   obtain ⟨X,Y,u,rfl,M,r,S,T,U⟩:=(A.out.below a.out).get y
   have I:=bl_cell wr
   by_cases d:t=u
   case neg =>
    have C:Hid (xs ≠ ys):=LH (fun e=>by
     have h1:=p.out
     rw [e,r.out] at h1
     exact d (by simpa using h1.symm))
    have f:=eq_trm t u
    have H:trmB t u=false:=by
     cases h:trmB t u
     · rfl
     · exact absurd (trmB_iff.1 h) d
    rw [H] at f
    have G:=Tryz.guardTerm
    clear d
    go_wp2_with fail
    refine wp_region_below (by kernel_rfl) (by kernel_rfl) ?_
    repeat (go_big_quiet_step (fail))
    refine wpQuiet_nil ?_
    rintro _ ⟨x,rfl⟩
    go_wp2_with fail
    go_ret
    exact ⟨false,rfl,⟨fun h=>(by cases h),fun h=>absurd h C.out⟩,below_tail a.out (bl_below wr x)⟩
   case pos =>
    subst d
    have f:=eq_trm t t
    rw [trmB_iff.2 rfl] at f
    have G:=Tryz.guardTerm
    go_wp2_with fail
    refine wp_region_below (by kernel_rfl) (by kernel_rfl) ?_
    repeat (go_big_quiet_step (fail))
    refine wpQuiet_nil ?_
    rintro _ ⟨x,rfl⟩
    go_wp2_with fail
    go_roundw
    case rel=>exact ⟨q+1,by omega,by go_num,LH (take_same o.out p.out r.out),LH (below_tail a.out (bl_below wr x))⟩
    case measure=>simp [intOf];omega
  case neg =>
   obtain rfl:q=n:=by omega
   have B:Hid (xs=ys):=LH (by have:=o.out;rwa [List.take_of_length_le (by rw [E.out];exact Nat.le_refl _),List.take_of_length_le (by rw [F.out];exact Nat.le_refl _)] at this)
   go_wp2_with fail
   go_ret
   exact ⟨true,rfl,⟨fun _=>B.out,fun _=>rfl⟩,a.out⟩
theorem tr_EqualS (k:Option Addr) (n c1:Nat) (xs:List (ByteArray)) (l:Option Addr) (m c2:Nat) (ys:List (ByteArray)) (w:World) (h1:Strs w k n c1 xs) (c:Strs w l m c2 ys) :
 Calls Tryz.prog 143 #[.slice k n c1, .slice l m c2] w fun e w'=>∃ b,e = .returned (.bool b)∧(b=true ↔ xs=ys)∧Below w.heap.size w w':=by
 have g:=h1.len
 have j:=c.len
 have M:=h1.cap
 have N:=c.cap
 have z:=LH h1
 have A:=LH c
 clear h1 c
 by_cases s:n=m
 case neg =>
  have hi:((n:Int) != (m:Int))=true:=by rw [bne_iff_ne];omega
  have v:xs ≠ ys:=by rintro rfl;omega
  have D:=LH v
  clear v s g j
  go_enter Tryz.func143,Tryz.ntmps143
  go_wp2_with fail
  go_ret
  exact ⟨false,rfl,⟨fun h=>(by cases h),fun h=>absurd h D.out⟩,Below.refl _ _⟩
 have hi:((n:Int) != (m:Int))=false:=by rw [bne_eq_false_iff_eq];omega
 obtain rfl:n=m:=s
 have E:=LH g
 have F:=LH j
 clear g j
 go_enter Tryz.func143,Tryz.ntmps143
 go_wp2_with fail
 clear hi
 go_loopw [13] (fun i wr=>∃ q:Nat,q≤n∧i = .int .i64 (q:Int)∧Hid (xs.take q=ys.take q)∧Hid (Below w.heap.size w wr)) (fun i _=>n - (intOf i).toNat)
 case atStart=>exact ⟨0,Nat.zero_le _,rfl,LH rfl,LH (Below.refl _ _)⟩
 case round =>
  obtain ⟨q,I,rfl,o,a⟩:=hrel
  by_cases y:q < n
  case pos =>
   obtain ⟨P,R,t,rfl,J,p,p0⟩:=(z.out.below a.out).get y
   obtain ⟨S,T,u,rfl,L,r,O⟩:=(A.out.below a.out).get y
   have H:=bl_cell wr
   by_cases d:t=u
   case neg =>
    have C:Hid (xs ≠ ys):=LH (fun e=>by
     have h1:=p.out
     rw [e,r.out] at h1
     exact d (by simpa using h1.symm))
    have f:(t == u)=false:=by
     cases h:t == u
     · rfl
     · exact absurd (ba_beq.1 h) d
    have G:(t.toList == u.toList)=false:=by rw [← beq_toListBytes];exact f
    clear d
    go_wp2_with fail
    refine wp_region_below (by kernel_rfl) (by kernel_rfl) ?_
    repeat (go_big_quiet_step (fail))
    refine wpQuiet_nil ?_
    rintro _ ⟨x,rfl⟩
    go_wp2_with fail
    go_ret
    exact ⟨false,rfl,⟨fun h=>(by cases h),fun h=>absurd h C.out⟩,below_tail a.out (bl_below wr x)⟩
   case pos =>
    subst d
    have f:(t == t)=true:=ba_beq.2 rfl
    have G:(t.toList == t.toList)=true:=by rw [← beq_toListBytes];exact f
    go_wp2_with fail
    refine wp_region_below (by kernel_rfl) (by kernel_rfl) ?_
    repeat (go_big_quiet_step (fail))
    refine wpQuiet_nil ?_
    rintro _ ⟨x,rfl⟩
    go_wp2_with fail
    go_roundw
    case rel=>exact ⟨q+1,by omega,by go_num,LH (take_same o.out p.out r.out),LH (below_tail a.out (bl_below wr x))⟩
    case measure=>simp [intOf];omega
  case neg =>
   obtain rfl:q=n:=by omega
   have B:Hid (xs=ys):=LH (by have:=o.out;rwa [List.take_of_length_le (by rw [E.out];exact Nat.le_refl _),List.take_of_length_le (by rw [F.out];exact Nat.le_refl _)] at this)
   go_wp2_with fail
   go_ret
   exact ⟨true,rfl,⟨fun _=>B.out,fun _=>rfl⟩,a.out⟩
theorem tr_EqualI (j:Option Addr) (n c1:Nat) (xs:List (Int)) (k:Option Addr) (m c2:Nat) (ys:List (Int)) (w:World) (h1:Ints .i64 w j n c1 xs) (c:Ints .i64 w k m c2 ys) :
 Calls Tryz.prog 195 #[.slice j n c1, .slice k m c2] w fun e w'=>∃ b,e = .returned (.bool b)∧(b=true ↔ xs=ys)∧Below w.heap.size w w':=by
 have f:=h1.len
 have g:=c.len
 have L:=h1.cap
 have M:=c.cap
 have y:=LH h1
 have z:=LH c
 clear h1 c
 by_cases r:n=m
 case neg =>
  have hi:((n:Int) != (m:Int))=true:=by rw [bne_iff_ne];omega
  have s:xs ≠ ys:=by rintro rfl;omega
  have C:=LH s
  clear s r f g
  go_enter Tryz.func195,Tryz.ntmps195
  go_wp2_with fail
  go_ret
  exact ⟨false,rfl,⟨fun h=>(by cases h),fun h=>absurd h C.out⟩,Below.refl _ _⟩
 have hi:((n:Int) != (m:Int))=false:=by rw [bne_eq_false_iff_eq];omega
 obtain rfl:n=m:=r
 have D:=LH f
 have E:=LH g
 clear f g
 go_enter Tryz.func195,Tryz.ntmps195
 go_wp2_with fail
 clear hi
 go_loopw [13] (fun i wr=>∃ q:Nat,q≤n∧i = .int .i64 (q:Int)∧Hid (xs.take q=ys.take q)∧Hid (Below w.heap.size w wr)) (fun i _=>n - (intOf i).toNat)
 case atStart=>exact ⟨0,Nat.zero_le _,rfl,LH rfl,LH (Below.refl _ _)⟩
 case round =>
  obtain ⟨q,H,rfl,l,a⟩:=hrel
  by_cases v:q < n
  case pos =>
   obtain ⟨O,P,t,rfl,I,o,p0⟩:=(y.out.below a.out).get v
   obtain ⟨R,S,u,rfl,J,p,N⟩:=(z.out.below a.out).get v
   have G:=bl_cell wr
   by_cases d:t=u
   case neg =>
    have B:Hid (xs ≠ ys):=LH (fun e=>by
     have h1:=o.out
     rw [e,p.out] at h1
     exact d (by simpa using h1.symm))
    have F:(t != u)=true:=by rw [bne_iff_ne];exact d
    clear d
    go_wp2_with fail
    refine wp_region_below (by kernel_rfl) (by kernel_rfl) ?_
    repeat (go_big_quiet_step (fail))
    refine wpQuiet_nil ?_
    rintro _ ⟨x,rfl⟩
    go_wp2_with fail
    go_ret
    exact ⟨false,rfl,⟨fun h=>(by cases h),fun h=>absurd h B.out⟩,below_tail a.out (bl_below wr x)⟩
   case pos =>
    subst d
    have F:(t != t)=false:=by simp
    go_wp2_with fail
    refine wp_region_below (by kernel_rfl) (by kernel_rfl) ?_
    repeat (go_big_quiet_step (fail))
    refine wpQuiet_nil ?_
    rintro _ ⟨x,rfl⟩
    go_wp2_with fail
    go_roundw
    case rel=>exact ⟨q+1,by omega,by go_num,LH (take_same l.out o.out p.out),LH (below_tail a.out (bl_below wr x))⟩
    case measure=>simp [intOf];omega
  case neg =>
   obtain rfl:q=n:=by omega
   have A:Hid (xs=ys):=LH (by have:=l.out;rwa [List.take_of_length_le (by rw [D.out];exact Nat.le_refl _),List.take_of_length_le (by rw [E.out];exact Nat.le_refl _)] at this)
   go_wp2_with fail
   go_ret
   exact ⟨true,rfl,⟨fun _=>A.out,fun _=>rfl⟩,a.out⟩
theorem two_new (w:World) (t:TypeId) (c1 c2:Array Value):Below w.heap.size w ((w.alloc (.cells c1 t)).alloc (.cells c2 t))∧Blk ((w.alloc (.cells c1 t)).alloc (.cells c2 t)) w.heap.size t c1∧Blk ((w.alloc (.cells c1 t)).alloc (.cells c2 t)) (w.heap.size+1) t c2:=by
 have h1:=Blk.new w t c1
 have b:=Blk.new (w.alloc (.cells c1 t)) t c2
 have c:=alloc_below w (.cells c1 t)
 have a:=alloc_below (w.alloc (.cells c1 t)) (.cells c2 t)
 rw [alloc_size] at b
 exact ⟨below_tail c a,h1.ext a,b⟩
theorem tr_rules (At:Option Addr) (d:Nat) (t:Rul) (c:Option Addr) (f:Nat) (u:Rul) (w:World) (h1:Ints .i64 w At t.right.length d t.right) (o:Ints .i64 w c u.right.length f u.right) :
 Calls Tryz.prog 145 #[.agg #[.int .i64 t.left, .slice At t.right.length d, .int .i64 t.prec], .agg #[.int .i64 u.left, .slice c u.right.length f, .int .i64 u.prec]] w fun e w'=>∃ b,e = .returned (.bool b)∧(b=true ↔ t=u)∧Below w.heap.size w w':=by
 obtain ⟨l,j,k⟩:=two_new w 52 #[.int .i64 t.left, .slice At t.right.length d, .int .i64 t.prec] #[.int .i64 u.left, .slice c u.right.length f, .int .i64 u.prec]
 have q:=LH (tr_EqualI At t.right.length d t.right c u.right.length f u.right _ (h1.below l) (o.below l))
 clear h1 o
 go_enter Tryz.func145,Tryz.ntmps145
 go_upto_region 1 with fail
 generalize (w.alloc (.cells #[.int .i64 t.left, .slice At t.right.length d, .int .i64 t.prec] 52)).alloc (.cells #[.int .i64 u.left, .slice c u.right.length f, .int .i64 u.prec] 52)=W at *
 have m:=LH l
 have A:W.cell? ⟨w.heap.size,0,none⟩=some (.int .i64 t.left):=j.cell 0
 have a1:W.cell? ⟨w.heap.size,1,none⟩=some (.slice At t.right.length d):=j.cell 1
 have a2:W.cell? ⟨w.heap.size,2,none⟩=some (.int .i64 t.prec):=j.cell 2
 have b0:W.cell? ⟨w.heap.size+1,0,none⟩=some (.int .i64 u.left):=k.cell 0
 have C:W.cell? ⟨w.heap.size+1,1,none⟩=some (.slice c u.right.length f):=k.cell 1
 have D:W.cell? ⟨w.heap.size+1,2,none⟩=some (.int .i64 u.prec):=k.cell 2
 have B:=j.lt
 have E:=k.lt
 clear j k l
 by_cases a:t.left=u.left
 case neg =>
  have y:(t.left == u.left)=false:=by rw [beq_eq_false_iff_ne];exact a
  have n:Hid (t ≠ u):=LH fun e=>a (by rw [e])
  clear a
  go_wp2_with fail
  go_ret
  exact ⟨false,rfl,⟨fun h=>(by cases h),fun h=>absurd h n.out⟩,m.out⟩
 have y:(t.left == u.left)=true:=by rw [beq_iff_eq];exact a
 by_cases g:t.prec=u.prec
 case neg =>
  have z:(t.prec == u.prec)=false:=by rw [beq_eq_false_iff_ne];exact g
  have n:Hid (t ≠ u):=LH fun e=>g (by rw [e])
  clear a g
  go_wp2_with fail
  go_ret
  exact ⟨false,rfl,⟨fun h=>(by cases h),fun h=>absurd h n.out⟩,m.out⟩
 have z:(t.prec == u.prec)=true:=by rw [beq_iff_eq];exact g
 have r:=LH a
 have s:=LH g
 clear a g
 go_wp2_with (go_at_call 195;(with_reducible refine q.out.mono ?_);rintro e F ⟨v,rfl,p,x⟩)
 go_ret
 refine ⟨v,by simp,⟨fun h=>rulB_iff.1 (by unfold rulB;rw [r.out,s.out,p.1 h];simp),fun h=>p.2 (by rw [h])⟩,below_tail m.out x⟩
theorem tr_EqualF (z:Option Addr) (n c1:Nat) (xs:List Rul) (A:Option Addr) (m c2:Nat) (ys:List Rul) (w:World) (h1:Ruls w z n c1 xs) (c:Ruls w A m c2 ys) :
 Calls Tryz.prog 144 #[.slice z n c1, .slice A m c2, .func (.func 145) #[] #[]] w fun e w'=>∃ b,e = .returned (.bool b)∧(b=true ↔ xs=ys)∧Below w.heap.size w w':=by
 have v:=h1.len
 have x:=c.len
 have k1:=h1.cap
 have k2:=c.cap
 have T:=LH h1
 have U:=LH c
 clear h1 c
 by_cases I:n=m
 case neg =>
  have hi:((n:Int) != (m:Int))=true:=by rw [bne_iff_ne];omega
  have J:xs ≠ ys:=by rintro rfl;omega
  have Z:=LH J
  clear J I v x
  go_enter Tryz.func144,Tryz.ntmps144
  go_wp2_with fail
  go_ret
  exact ⟨false,rfl,⟨fun h=>(by cases h),fun h=>absurd h Z.out⟩,Below.refl _ _⟩
 have hi:((n:Int) != (m:Int))=false:=by rw [bne_eq_false_iff_eq];omega
 obtain rfl:n=m:=I
 have L1:=LH v
 have L2:=LH x
 clear v x
 go_enter Tryz.func144,Tryz.ntmps144
 go_wp2_with fail
 clear hi
 go_loopw [17] (fun i wr=>∃ q:Nat,q≤n∧i = .int .i64 (q:Int)∧Hid (xs.take q=ys.take q)∧Hid (Below w.heap.size w wr)) (fun i _=>n - (intOf i).toNat)
 case atStart=>exact ⟨0,Nat.zero_le _,rfl,LH rfl,LH (Below.refl _ _)⟩
 case round =>
  obtain ⟨q,hq,rfl,D,k⟩:=hrel
  by_cases L:q < n
  case pos =>
   obtain ⟨tb,ax,t,At,a,rfl,ar,E,p0,p1,p2,M⟩:=(T.out.below k.out).get L
   obtain ⟨s,y,u,j,l,rfl,r,F,O,P,R,N⟩:=(U.out.below k.out).get L
   obtain ⟨o,f,g⟩:=two_new wr 52 #[.int .i64 t.left, .slice At t.right.length a, .int .i64 t.prec] #[.int .i64 u.left, .slice j u.right.length l, .int .i64 u.prec]
   have d:=alloc_below wr (.cells #[.int .i64 t.left, .slice At t.right.length a, .int .i64 t.prec] 52)
   have S:=LH (tr_rules At a t j l u _ (M.below o) (N.below o))
   have V:=LH (below_tail k.out o)
   have s0:=(d.cell (p:=⟨s,y+q * 3,none⟩) r).trans O
   have s1:=(d.cell (p:=⟨s,y+q * 3+1,none⟩) r).trans P
   have s2:=(d.cell (p:=⟨s,y+q * 3+2,none⟩) r).trans R
   have af:s < (wr.alloc (.cells #[.int .i64 t.left, .slice At t.right.length a, .int .i64 t.prec] 52)).heap.size:=Nat.lt_of_lt_of_le r d.size
   clear M N
   go_upto_region 7 with fail
   generalize (wr.alloc (.cells #[.int .i64 t.left, .slice At t.right.length a, .int .i64 t.prec] 52)).alloc (.cells #[.int .i64 u.left, .slice j u.right.length l, .int .i64 u.prec] 52)=W at *
   have a0:W.cell? ⟨wr.heap.size,0,none⟩=some (.int .i64 t.left):=f.cell 0
   have a1:W.cell? ⟨wr.heap.size,1,none⟩=some (.slice At t.right.length a):=f.cell 1
   have a2:W.cell? ⟨wr.heap.size,2,none⟩=some (.int .i64 t.prec):=f.cell 2
   have b0:W.cell? ⟨wr.heap.size+1,0,none⟩=some (.int .i64 u.left):=g.cell 0
   have b1:W.cell? ⟨wr.heap.size+1,1,none⟩=some (.slice j u.right.length l):=g.cell 1
   have b2:W.cell? ⟨wr.heap.size+1,2,none⟩=some (.int .i64 u.prec):=g.cell 2
   have al:=f.lt
   have ap:=g.lt
   clear f g o d p0 p1 p2 O P R s0 s1 s2 af
   go_wp2_with fail
   (with_reducible refine S.out.mono ?_)
   rintro e w6 ⟨bq,rfl,H,G⟩
   have B:=LH (below_tail V.out G)
   have C:=LH H
   clear H G
   cases bq
   case false =>
    have Y:Hid (xs ≠ ys):=LH (fun e=>by
     have h1:=E.out
     rw [e,F.out] at h1
     have c:t=u:=by simpa using h1.symm
     have:=C.out.2 c
     cases this)
    go_wp2_with fail
    go_ret
    exact ⟨false,rfl,⟨fun h=>(by cases h),fun h=>absurd h Y.out⟩,B.out⟩
   case true =>
    have aa:Hid (t=u):=LH (C.out.1 rfl)
    go_wp2_with fail
    go_roundw
    case rel=>exact ⟨q+1,by omega,by go_num,LH (take_same D.out E.out (by rw [F.out,aa.out])),B⟩
    case measure=>simp [intOf];omega
  case neg =>
   obtain rfl:q=n:=by omega
   have X:Hid (xs=ys):=LH (by have:=D.out;rwa [List.take_of_length_le (by rw [L1.out];exact Nat.le_refl _),List.take_of_length_le (by rw [L2.out];exact Nat.le_refl _)] at this)
   go_wp2_with fail
   go_ret
   exact ⟨true,rfl,⟨fun _=>X.out,fun _=>rfl⟩,k.out⟩
end Go.Proofs.YtggbjdmpjidhgaaGreatDoor
