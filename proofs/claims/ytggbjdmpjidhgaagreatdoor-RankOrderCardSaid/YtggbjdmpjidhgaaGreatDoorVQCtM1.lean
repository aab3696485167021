/- maps whose keys are several numbers, and whose elements are places of cells: what they hold. -/
import Derived.Test.YtggbjdmpjidhgaaGreatDoorVQCyW9
import Derived.Test.YtggbjdmpjidhgaaGreatDoorVQCtK
import Derived.Test.YtggbjdmpjidhgaaGreatDoorVQCtP4
import Derived.DeepKeys4
import Derived.Test.YtggbjdmpjidhgaaGreatDoorVQGrN1
import Derived.Test.YtggbjdmpjidhgaaGreatDoorVQKit
set_option linter.unusedVariables false
set_option linter.unusedSimpArgs false
set_option maxHeartbeats 8000000
set_option maxRecDepth 100000
namespace Go.Proofs.YtggbjdmpjidhgaaGreatDoor
open Go.RowKit
open Go.Maps (Keyed IsMap Tidy)
theorem Tryz.laidOut:laidOutB Tryz.prog=true:=by kernel_rfl
theorem Tryz.rowKT:(247:TypeId) < Tryz.prog.types.size:=of_decide_eq_true (by kernel_rfl)
theorem Tryz.rowKF:(251:TypeId) < Tryz.prog.types.size:=of_decide_eq_true (by kernel_rfl)
theorem Tryz.wideKT:(match Tryz.prog.underlying 247 with | some (.array _ _) | some (.struct _)=>true | _=>false)=true:=by kernel_rfl
theorem Tryz.wideKF:(match Tryz.prog.underlying 251 with | some (.array _ _) | some (.struct _)=>true | _=>false)=true:=by kernel_rfl
theorem Tryz.keyKT:Keyed Tryz.prog 247:=Keyed.of_law (deep_law_laid Tryz.laidOut (m:=2) (by omega) Tryz.rowKT (by kernel_rfl) Tryz.wideKT)
theorem Tryz.keyKF:Keyed Tryz.prog 251:=Keyed.of_law (deep_law_laid Tryz.laidOut (m:=2) (by omega) Tryz.rowKF (by kernel_rfl) Tryz.wideKF)
def kT (s:Int) (n:Nat):Value := .agg #[.int .i64 s, .int .i64 (n:Int)]
def kF (i d n:Nat):Value := .agg #[.int .i64 (i:Int), .int .i64 (d:Int), .int .i64 (n:Int)]
theorem kT_inj {s b:Int} {n a:Nat} (h:kT s n=kT b a):s=b∧n=a:=by
 unfold kT at h
 simp at h
 exact ⟨h.1,by omega⟩
theorem kF_inj {i d n b a c:Nat} (h:kF i d n=kF b a c):i=b∧d=a∧n=c:=by
 unfold kF at h
 simp at h
 omega
theorem wf_small {x:Int} (h1:-1000≤x) (a:x≤1000):(Lit.int .i64 x).wf=true:=WalkArith.wf_i64 (by omega)
theorem size_two {P:Program} {t:Nat} (h:t < P.types.size) (a:1≤t):∃ m,P.types.size=m+2:=⟨P.types.size - 2,by omega⟩
theorem keyOf_kT {s:Int} {n:Nat} (h1:-1000≤s) (d:s≤1000) (h:n≤1000):∃ l,keyOf Tryz.prog 247 (kT s n)=some l:=by
 have a:Tryz.prog.keyType 247=true:=by kernel_rfl
 have b:Tryz.prog.cellsOf 247=2:=by kernel_rfl
 have c:Tryz.prog.cellsOf 3=1:=by kernel_rfl
 have w1:=wf_small h1 d
 have g:(Lit.int .i64 (n:Int)).wf=true:=wf_small (by omega) (by omega)
 obtain ⟨m,f⟩:=size_two Tryz.rowKT (by decide)
 unfold keyOf kT
 rw [f]
 simp [Tryz.underlying247,a,Value.formed,b,Program.keyLits,Value.cells,c,Tryz.underlying3,w1,g,List.range_succ]
theorem keyOf_kF {i d n:Nat} (h1:i≤1000) (j:d≤1000) (o:n≤1000):∃ l,keyOf Tryz.prog 251 (kF i d n)=some l:=by
 have a:Tryz.prog.keyType 251=true:=by kernel_rfl
 have b:Tryz.prog.cellsOf 251=3:=by kernel_rfl
 have c:Tryz.prog.cellsOf 3=1:=by kernel_rfl
 have w1:(Lit.int .i64 (i:Int)).wf=true:=wf_small (by omega) (by omega)
 have g:(Lit.int .i64 (d:Int)).wf=true:=wf_small (by omega) (by omega)
 have h:(Lit.int .i64 (n:Int)).wf=true:=wf_small (by omega) (by omega)
 obtain ⟨m,f⟩:=size_two Tryz.rowKF (by decide)
 unfold keyOf kF
 rw [f]
 simp [Tryz.underlying251,a,Value.formed,b,Program.keyLits,Value.cells,c,Tryz.underlying3,w1,g,h]
def ptrR:Value→Option (DataW Unit × List MemPlace)
 | .pointer none=>some (.nil,[])
 | .pointer (some ⟨b,0,none⟩)=>some (.lit (.int .i64 (b:Int)),[])
 | _=>none
theorem ptrR_block {v:Value} {b:Nat} {ps:List MemPlace} (h:ptrR v=some (.lit (.int .i64 (b:Int)),ps)):v = .pointer (some ⟨b,0,none⟩):=by
 unfold ptrR at h
 split at h
 · cases h
 · simp only [Option.some.injEq,Prod.mk.injEq,DataW.lit.injEq,Lit.int.injEq,true_and] at h
   obtain ⟨h,_⟩:=h
   rw [Int.ofNat.inj h]
 · cases h
theorem ptrR_nil {v:Value} {ps:List MemPlace} (h:ptrR v=some (.nil,ps)):v = .pointer none:=by
 unfold ptrR at h
 split at h
 · rfl
 · cases h
 · cases h
section
variable {P:Program} {k:TypeId}
def litK (P:Program) (k:TypeId) (v:Value):Lit:=(keyOf P k v).getD (.bool false)
def GoodK (P:Program) (k:TypeId) (v:Value):Prop:=∃ l,keyOf P k v=some l
theorem GoodK.lit {v:Value} (h:GoodK P k v):keyOf P k v=some (litK P k v):=by
 obtain ⟨l,h⟩:=h
 unfold litK
 rw [h]
 rfl
theorem litK_ne (K:Keyed P k) {u v:Value} (a:GoodK P k u) (b:GoodK P k v) (h:u ≠ v):litK P k u ≠ litK P k v:=fun e=>h (K.inj a.lit (by rw [e];exact b.lit))
def plcR (P:Program) (k:TypeId):List (Value × Nat)→DataW Unit
 | [] => .map []
 | p::r=>(plcR P k r).put (litK P k p.1) (.lit (.int .i64 (p.2:Int)))
theorem isMap_plcR:∀ r:List (Value × Nat),IsMap (plcR P k r)
 | []=>Maps.isMap_empty
 | p::r=>(isMap_plcR r).put _ _
theorem has_plcR (K:Keyed P k) {v:Value} (b:GoodK P k v):∀ r:List (Value × Nat),(∀ p ∈ r,GoodK P k p.1)→(Maps.has (plcR P k r) (litK P k v)=true ↔ v ∈ r.map (·.1))
 | [],_=>by
   unfold plcR
   simp [Maps.has_eq]
 | p::r,hg=>by
   have a:=hg p (List.mem_cons_self ..)
   have d:=has_plcR K b r (fun q c=>hg q (List.mem_cons_of_mem _ c))
   unfold plcR
   rw [List.map_cons,List.mem_cons]
   by_cases e:v=p.1
   · rw [e,Maps.has_put_same (isMap_plcR r) (K.key a.lit)]
     simp
   · rw [Maps.has_put_other (litK_ne K b a e),d]
     simp [e]
theorem at_plcR (K:Keyed P k) {v:Value} (a:GoodK P k v):∀ r:List (Value × Nat),(∀ p ∈ r,GoodK P k p.1) →
 (v ∈ r.map (·.1)→∃ b,(v,b) ∈ r∧(plcR P k r).atKey (litK P k v) .nil = .lit (.int .i64 (b:Int)))∧(v ∉ r.map (·.1)→(plcR P k r).atKey (litK P k v) .nil = .nil)
 | [],_=>⟨fun h=>(by cases h),fun _=>by unfold plcR;exact Maps.atKey_of_not_has (by simp [Maps.has_eq]) _⟩
 | p::r,hg=>by
   have c:=hg p (List.mem_cons_self ..)
   have d:=at_plcR K a r (fun q j=>hg q (List.mem_cons_of_mem _ j))
   rw [List.map_cons]
   by_cases e:v=p.1
   · refine ⟨fun _=>⟨p.2,by rw [e];exact List.mem_cons_self ..,?_⟩,fun h=>absurd (by rw [e];exact List.mem_cons_self ..) h⟩
     subst e
     unfold plcR
     exact Maps.atKey_put_same (isMap_plcR r) (K.key a.lit) _ _
   · refine ⟨fun h=>?_,fun h=>?_⟩
     · obtain ⟨b,g,f⟩:=d.1 ((List.mem_cons.1 h).resolve_left e)
       refine ⟨b,List.mem_cons_of_mem _ g,?_⟩
       unfold plcR
       rw [Maps.atKey_put_other (litK_ne K a c e)]
       exact f
     · rw [List.mem_cons,not_or] at h
       unfold plcR
       rw [Maps.atKey_put_other (litK_ne K a c e)]
       exact d.2 h.2
theorem tidy_plcR (K:Keyed P k):∀ r:List (Value × Nat),(∀ p ∈ r,GoodK P k p.1)→Tidy (plcR P k r)
 | [],_=>Maps.tidy_empty
 | p::r,hg=>(tidy_plcR K r (fun q a=>hg q (List.mem_cons_of_mem _ a))).put (K.key (hg p (List.mem_cons_self ..)).lit) _
theorem size_plcR (K:Keyed P k):∀ r:List (Value × Nat),(∀ p ∈ r,GoodK P k p.1)→∃ L:List Value,L.Nodup∧(∀ v ∈ L,v ∈ r.map (·.1))∧Maps.size (plcR P k r)=L.length
 | [],_=>⟨[],List.nodup_nil,fun v h=>(by cases h),rfl⟩
 | p::r,hg=>by
   have f:∀ q ∈ r,GoodK P k q.1:=fun q l=>hg q (List.mem_cons_of_mem _ l)
   obtain ⟨L,h1,c,g⟩:=size_plcR K r f
   have b:=Maps.size_put (k:=litK P k p.1) (tidy_plcR K r f) (.lit (.int .i64 (p.2:Int)))
   have j:=has_plcR K (hg p (List.mem_cons_self ..)) r f
   by_cases d:p.1 ∈ r.map (·.1)
   · rw [if_pos (j.2 d)] at b
     exact ⟨L,h1,fun v a=>by rw [List.map_cons];exact List.mem_cons_of_mem _ (c v a),b.trans g⟩
   · rw [if_neg (fun h=>d (j.1 h))] at b
     refine ⟨p.1::L,List.nodup_cons.2 ⟨fun h=>d (c _ h),h1⟩,fun v a=>?_,by rw [List.length_cons,← g];exact b⟩
     rw [List.map_cons]
     rcases List.mem_cons.1 a with e | a
     · rw [e];exact List.mem_cons_self ..
     · exact List.mem_cons_of_mem _ (c v a)
theorem own_tight {R:Value→Option (DataW Unit × List MemPlace)} {w:World} {b n:Nat} {D:DataW Unit} (h:w.ownsMap P k R b n D):w.ownsMap P k R b (Maps.size D) D:=by
 obtain ⟨c,clock,d,F,_,a⟩:=h
 refine ⟨c,clock,d,F,?_,a⟩
 rw [a]
 simp [Maps.size,length_sorted]
structure PlcM (P:Program) (k:TypeId) (w:World) (g:Nat) (r:List (Value × Nat)):Prop where
 own:w.ownsMap P k ptrR g (Maps.size (plcR P k r)) (plcR P k r)
 good:∀ p ∈ r,GoodK P k p.1
theorem PlcM.lt {w:World} {g:Nat} {r:List (Value × Nat)} (h:PlcM P k w g r):g < w.heap.size:=h.own.lt
theorem PlcM.block {w w':World} {g:Nat} {r:List (Value × Nat)} (h:PlcM P k w g r) (b:w'.heap[g]? = w.heap[g]?):PlcM P k w' g r:=by
 refine ⟨?_,h.good⟩
 obtain ⟨a,clock,c,q⟩:=h.own
 exact ⟨a,clock,b.trans c,q⟩
theorem PlcM.below {w w':World} {g:Nat} {r:List (Value × Nat)} (h:PlcM P k w g r) (a:Below w.heap.size w w'):PlcM P k w' g r:=h.block (a.block g h.lt)
theorem PlcM.no_cell {w:World} {g:Nat} {r:List (Value × Nat)} (h:PlcM P k w g r) (o:Nat):w.cell? ⟨g,o,none⟩=none:=by
 obtain ⟨b,clock,a,_⟩:=h.own
 simp [World.cell?,a]
theorem PlcM.noInt {w:World} {g:Nat} {r:List (Value × Nat)} (h:PlcM P k w g r):NoInt w g:=fun o k z a=>by rw [h.no_cell] at a;cases a
theorem PlcM.ne_blk {w:World} {g b:Nat} {r:List (Value × Nat)} {t:TypeId} {cs:Array Value} (h:PlcM P k w g r) (a:Blk w b t cs):b ≠ g:=by
 rintro rfl
 obtain ⟨d,clock,c,_⟩:=h.own
 unfold Blk at a
 rw [c] at a
 cases a
theorem PlcM.made (w:World) (P:Program) (k:TypeId):PlcM P k (w.alloc (.map #[] 0)) w.heap.size []:=⟨World.ownsMap_made w P k ptrR,fun p h=>(by cases h)⟩
theorem PlcM.look {w:World} {g:Nat} {r:List (Value × Nat)} (h:PlcM P k w g r) (K:Keyed P k) {v:Value} (a:v ∈ r.map (·.1)) :
 ∃ b,(v,b) ∈ r∧(plcR P k r).atKey (litK P k v) .nil = .lit (.int .i64 (b:Int)):=by
 obtain ⟨p,d,e⟩:=List.mem_map.1 a
 have c:=h.good p d
 rw [e] at c
 exact (at_plcR K c r h.good).1 a
theorem PlcM.look_at {w:World} {g t e b:Nat} {r:List (Value × Nat)} (h:PlcM P k w g r) (K:Keyed P k) (j:P.underlying t=some (.map k e)) (m:(zeroValue e).run P w = .ok (.pointer none) w) {v:Value} (d:(v,b) ∈ r) (c:(plcR P k r).atKey (litK P k v) .nil = .lit (.int .i64 (b:Int))) :
 (Instr.lookup t (.map (some g)) v false).run P w = .ok (.pointer (some ⟨b,0,none⟩)) w:=by
 have l:=h.good _ d
 obtain ⟨u,ps,f,a⟩:=h.own.lookup K j m (zd := .nil) (zp:=[]) rfl l.lit
 rw [c] at a
 rw [f,ptrR_block a]
theorem PlcM.look_none {w:World} {g t e:Nat} {r:List (Value × Nat)} (h:PlcM P k w g r) (K:Keyed P k) (f:P.underlying t=some (.map k e)) (j:(zeroValue e).run P w = .ok (.pointer none) w) {v:Value} (b:GoodK P k v) (c:v ∉ r.map (·.1)) :
 (Instr.lookup t (.map (some g)) v false).run P w = .ok (.pointer none) w:=by
 obtain ⟨u,ps,d,a⟩:=h.own.lookup K f j (zd := .nil) (zp:=[]) rfl b.lit
 rw [(at_plcR K b r h.good).2 c] at a
 rw [d,ptrR_nil a]
theorem PlcM.put {w:World} {g t e b:Nat} {r:List (Value × Nat)} (h:PlcM P k w g r) (K:Keyed P k) (n:P.underlying t=some (.map k e)) (j:Maps.size (plcR P k r) < maxLen) {v:Value} (c:GoodK P k v) :
 ∃ w',(Instr.mapUpdate t (.map (some g)) v (.pointer (some ⟨b,0,none⟩))).run P w = .ok () w'∧PlcM P k w' g ((v,b)::r)∧w.grownBy w' (some g):=by
 obtain ⟨w',m,l,f⟩:=h.own.update K n j c.lit (val := .pointer (some ⟨b,0,none⟩)) (d := .lit (.int .i64 (b:Int))) (ps:=[]) rfl
 refine ⟨w',m,⟨own_tight l,fun p a=>?_⟩,f⟩
 rcases List.mem_cons.1 a with e | a
 · rw [e];exact c
 · exact h.good p a
theorem wpl_update (w:World) {ops:Array Oper} {rest:List Oper} {o:Oper} {a:Act} {Q:Exit→Act→World→Prop} (l:o.guard=none) (m x y:Operand) (t:TypeId) (p:o.op=Op.mapUpdate t m x y)
 (e g b:Nat) (K:Keyed P k) (s:P.underlying t=some (.map k e)) {r:List (Value × Nat)} (h:PlcM P k w g r) (n:Maps.size (plcR P k r) < maxLen) (v:Value) (u:GoodK P k v)
 (h1:a.eval m = .map (some g)) (c:a.eval x=v) (d:a.eval y = .pointer (some ⟨b,0,none⟩))
 (f:∀ w',PlcM P k w' g ((v,b)::r)→w.grownBy w' (some g)→wpList P ops Q rest (a.put o.dst undef) w'):wpList P ops Q (o::rest) a w:=by
 refine wpList_plain l fun B j=>?_
 obtain ⟨w',q,z,A⟩:=h.put (b:=b) K s n u
 unfold Oper.wp
 simp [execOp,p,h1,c,d,q,Result.andThen]
 exact j _ _ (f w' z A)
end
open Go.Maps (Keyed IsMap Tidy)
theorem Ints.tail1 {w:World} {b d n c:Nat} {s:Int} {a:List Int} (h:Ints .i64 w (some ⟨b,d,none⟩) n c (s::a)) :
 Ints .i64 w (if c=1 then some ⟨b,d,none⟩ else some ⟨b,d+1,none⟩) (n - 1) (c - 1) a:=by
 have g:=h.len
 have l:=h.cap
 rw [List.length_cons] at g
 by_cases f:c=1
 · rw [if_pos f]
   have j:a=[]:=List.eq_nil_of_length_eq_zero (by omega)
   subst j
   rw [show n - 1=0 by omega]
   exact Ints.nil _ _ _ _ (by omega)
 · rw [if_neg f]
   have:=h.part 1 (n - 1) (c - 1) (by omega) (by omega) (by omega)
   have e:((s::a).drop 1).take (n - 1)=a:=by
    show a.take (n - 1)=a
    exact List.take_of_length_le (by omega)
   rw [e] at this
   exact this
def VCell (w:World) (b x:Nat):Prop:=∃ A n c d,Blk w b 77 #[.slice A n c, .bool d]∧ValN w A n c d x
theorem VCell.lt {w:World} {b x:Nat} (h:VCell w b x):b < w.heap.size:=by
 obtain ⟨A,n,c,d,h1,_⟩:=h
 exact h1.lt
theorem VCell.kept {w w':World} {b x:Nat} (h:VCell w b x) (g:IntKeep w w') (f:w'.heap[b]? = w.heap[b]?):VCell w' b x:=by
 obtain ⟨A,n,c,d,h1,a⟩:=h
 exact ⟨A,n,c,d,f.trans h1,a.kept g⟩
theorem cell_noInt {w:World} {g:Nat} {t:TypeId} {A:Option Addr} {n c:Nat} {b:Bool} (d:Blk w g t #[.slice A n c, .bool b]):NoInt w g:=by
 intro o k z a
 rw [d.cell o] at a
 rcases o with _ | _ | o <;> cases a
theorem nodup_codes {α:Type} {l:List α} (f:α→Nat) (N:Nat) (c:l.Nodup) (hi:∀ x ∈ l,∀ y ∈ l,f x=f y→x=y) (a:∀ x ∈ l,f x < N):l.length≤N:=by
 have h1:(l.map f).Nodup:=by
  unfold List.Nodup at c ⊢
  rw [List.pairwise_map]
  have:l.Pairwise fun x y=>x ∈ l∧y ∈ l∧x ≠ y:=List.Pairwise.imp_of_mem (fun b a h=>⟨b,a,h⟩) c
  exact this.imp fun ⟨b,a,h⟩ e=>h (hi _ b _ a e)
 have d:=nodup_len (l:=l.map f) (m:=List.range N) h1 fun x g=>by
  obtain ⟨y,j,rfl⟩:=List.mem_map.1 g
  exact List.mem_range.2 (a y j)
 simpa using d
structure TreesM (w:World) (g:Nat) (G:Gr) (S:Nat→Prop) (ts:List ((Int × Nat) × Nat)):Prop where
 map:PlcM Tryz.prog 247 w g (ts.map fun p=>(kT p.1.1 p.1.2,p.2))
 key:∀ p ∈ ts,p.1.1 < 0∧nonI p.1.1 < 100∧p.1.2≤100
 val:∀ p ∈ ts,VCell w p.2 (treeN G p.1.1 p.1.2)∧¬ S p.2
structure FortM (w:World) (g:Nat) (G:Gr) (S:Nat→Prop) (fs:List ((Nat × Nat × Nat) × Nat)):Prop where
 map:PlcM Tryz.prog 251 w g (fs.map fun p=>(kF p.1.1 p.1.2.1 p.1.2.2,p.2))
 key:∀ p ∈ fs,p.1.1≤100∧p.1.2.1≤100∧p.1.2.2≤100
 val:∀ p ∈ fs,∃ x,G.rules[p.1.1]? = some x∧VCell w p.2 (forestT (treeN G) (x.right.drop p.1.2.1) p.1.2.2)∧¬ S p.2
def codeT:Value→Nat
 | .agg cs=>nonI (intOf (cs.getD 0 undef)) * 1000+(intOf (cs.getD 1 undef)).toNat
 | _=>0
def codeF:Value→Nat
 | .agg cs=>(intOf (cs.getD 0 undef)).toNat * 1000000+(intOf (cs.getD 1 undef)).toNat * 1000+(intOf (cs.getD 2 undef)).toNat
 | _=>0
theorem codeT_kT (s:Int) (n:Nat):codeT (kT s n)=nonI s * 1000+n:=rfl
theorem codeF_kF (i d n:Nat):codeF (kF i d n)=i * 1000000+d * 1000+n:=rfl
theorem TreesM.few {w:World} {g:Nat} {G:Gr} {S:Nat→Prop} {ts:List ((Int × Nat) × Nat)} (h:TreesM w g G S ts):Maps.size (plcR Tryz.prog 247 (ts.map fun p=>(kT p.1.1 p.1.2,p.2))) < maxLen:=by
 obtain ⟨L,h1,n,o⟩:=size_plcR Tryz.keyKT _ h.map.good
 have d:∀ v ∈ L,∃ p ∈ ts,v=kT p.1.1 p.1.2:=fun v r=>by
  obtain ⟨q,f,e⟩:=List.mem_map.1 (n v r)
  obtain ⟨p,c,rfl⟩:=List.mem_map.1 f
  exact ⟨p,c,e.symm⟩
 have:=nodup_codes codeT 1000000 h1 (fun x j y s e=>by
  obtain ⟨p,c,rfl⟩:=d x j
  obtain ⟨q,f,rfl⟩:=d y s
  have a:=h.key p c
  have b:=h.key q f
  rw [codeT_kT,codeT_kT] at e
  unfold nonI at e a b
  have l:p.1.1=q.1.1:=by omega
  have m:p.1.2=q.1.2:=by omega
  rw [l,m]) (fun x j=>by
  obtain ⟨p,c,rfl⟩:=d x j
  have a:=h.key p c
  rw [codeT_kT]
  omega)
 rw [o]
 unfold maxLen
 omega
theorem FortM.few {w:World} {g:Nat} {G:Gr} {S:Nat→Prop} {d:List ((Nat × Nat × Nat) × Nat)} (h:FortM w g G S d):Maps.size (plcR Tryz.prog 251 (d.map fun p=>(kF p.1.1 p.1.2.1 p.1.2.2,p.2))) < maxLen:=by
 obtain ⟨L,h1,r,s⟩:=size_plcR Tryz.keyKF _ h.map.good
 have f:∀ v ∈ L,∃ p ∈ d,v=kF p.1.1 p.1.2.1 p.1.2.2:=fun v t=>by
  obtain ⟨q,j,e⟩:=List.mem_map.1 (r v t)
  obtain ⟨p,c,rfl⟩:=List.mem_map.1 j
  exact ⟨p,c,e.symm⟩
 have:=nodup_codes codeF 1000000000 h1 (fun x l y u e=>by
  obtain ⟨p,c,rfl⟩:=f x l
  obtain ⟨q,j,rfl⟩:=f y u
  have a:=h.key p c
  have b:=h.key q j
  rw [codeF_kF,codeF_kF] at e
  have m:p.1.1=q.1.1:=by omega
  have n:p.1.2.1=q.1.2.1:=by omega
  have o:p.1.2.2=q.1.2.2:=by omega
  rw [m,n,o]) (fun x l=>by
  obtain ⟨p,c,rfl⟩:=f x l
  have a:=h.key p c
  rw [codeF_kF]
  omega)
 rw [s]
 unfold maxLen
 omega
structure CH where
 c:Nat
 n:Nat
 t:Nat
 f:Nat
def CH.maps (k:CH):Nat→Prop:=fun b=>b=k.t∨b=k.f
structure CntAt (W0:World) (k:CH) (h:GH) (G:Gr) (S:Nat→Prop) (w:World):Prop where
 base:Below W0.heap.size W0 w
 box:Blk w k.c 141 #[.slice h.a1 h.n1 h.c1, .slice h.a2 h.n2 h.c2, .slice h.a3 h.n3 h.c3, .int .i64 G.start, .slice (some ⟨k.n,0,none⟩) h.n2 h.n2, .map (some k.t), .map (some k.f)]
 nul:BoolT w k.n (nullN G)
 low:W0.heap.size≤k.t∧W0.heap.size≤k.f
 ne:k.t ≠ k.f
 trees:∃ ts,TreesM w k.t G S ts
 forts:∃ fs,FortM w k.f G S fs
theorem CntAt.maps_noInt {a w:World} {k:CH} {h:GH} {G:Gr} {S:Nat→Prop} (C:CntAt a k h G S w):∀ g,k.maps g→NoInt w g:=by
 obtain ⟨ts,c⟩:=C.trees
 obtain ⟨d,b⟩:=C.forts
 rintro g (rfl | rfl)
 · exact c.map.noInt
 · exact b.map.noInt
theorem CntAt.keep {a w w':World} {k:CH} {h:GH} {G:Gr} {S:Nat→Prop} (C:CntAt a k h G S w) (b:Off k.maps w w'):IntKeep w w':=IntKeep.of_off b C.maps_noInt
theorem CntAt.not_map {b w:World} {k:CH} {h:GH} {G:Gr} {S:Nat→Prop} (C:CntAt b k h G S w) {g:Nat} {t:TypeId} {cs:Array Value} (a:Blk w g t cs):¬ k.maps g:=by
 obtain ⟨ts,d⟩:=C.trees
 obtain ⟨f,c⟩:=C.forts
 rintro (e | e)
 · exact d.map.ne_blk a e
 · exact c.map.ne_blk a e
theorem CntAt.map_lt {a w:World} {k:CH} {h:GH} {G:Gr} {S:Nat→Prop} (C:CntAt a k h G S w):k.t < w.heap.size∧k.f < w.heap.size:=by
 obtain ⟨ts,c⟩:=C.trees
 obtain ⟨d,b⟩:=C.forts
 exact ⟨c.map.lt,b.map.lt⟩
theorem CntAt.move {l w w':World} {k:CH} {h:GH} {G:Gr} {S P:Nat→Prop} (C:CntAt l k h G S w) (d:Off P w w') (o:IntKeep w w') (h1:∀ b,P b→S b∧l.heap.size≤b∧b ≠ k.c∧b ≠ k.n∧b ≠ k.t∧b ≠ k.f):CntAt l k h G S w':=by
 obtain ⟨v,y⟩:=C.map_lt
 refine ⟨C.base.trans (d.is_below C.base.size fun b j=>(h1 b j).2.1),d.blk C.box fun a=>(h1 _ a).2.2.1 rfl,d.blk C.nul fun a=>(h1 _ a).2.2.2.1 rfl,C.low,C.ne,?_,?_⟩
 · obtain ⟨ts,g⟩:=C.trees
   exact ⟨ts,g.map.block (d.keep _ v fun a=>(h1 _ a).2.2.2.2.1 rfl),g.key,fun p a=>⟨(g.val p a).1.kept o (d.keep _ (g.val p a).1.lt fun j=>(g.val p a).2 (h1 _ j).1),(g.val p a).2⟩⟩
 · obtain ⟨s,m⟩:=C.forts
   refine ⟨s,m.map.block (d.keep _ y fun a=>(h1 _ a).2.2.2.2.2 rfl),m.key,fun p a=>?_⟩
   obtain ⟨x,u,r,q⟩:=m.val p a
   exact ⟨x,u,r.kept o (d.keep _ r.lt fun j=>q (h1 _ j).1),q⟩
theorem CntAt.below {c w w':World} {k:CH} {h:GH} {G:Gr} {S:Nat→Prop} (C:CntAt c k h G S w) (a:Below w.heap.size w w'):CntAt c k h G S w' :=
 C.move (P:=fun _=>False) (Off.of_below a) (.of_below a) fun b a=>a.elim
theorem CntAt.more {m w w':World} {k:CH} {h:GH} {G:Gr} {S:Nat→Prop} (C:CntAt m k h G S w) (a:Below w.heap.size w w') {g:Nat} (r:w.heap.size≤g):CntAt m k h G (fun b=>S b∨b=g) w':=by
 have f:=C.below a
 refine ⟨f.base,f.box,f.nul,f.low,f.ne,?_,?_⟩
 · obtain ⟨ts,d⟩:=C.trees
   obtain ⟨s,t⟩:=C.map_lt
   refine ⟨ts,d.map.below a,d.key,fun p c=>⟨(d.val p c).1.kept (.of_below a) (a.block _ (d.val p c).1.lt),?_⟩⟩
   rintro (h1 | h1)
   · exact (d.val p c).2 h1
   · have:=(d.val p c).1.lt
     omega
 · obtain ⟨n,j⟩:=C.forts
   refine ⟨n,j.map.below a,j.key,fun p c=>?_⟩
   obtain ⟨x,q,l,o⟩:=j.val p c
   refine ⟨x,q,l.kept (.of_below a) (a.block _ l.lt),?_⟩
   rintro (h1 | h1)
   · exact o h1
   · have:=l.lt
     omega
theorem CntAt.less {f w:World} {k:CH} {h:GH} {G:Gr} {S S':Nat→Prop} (C:CntAt f k h G S w) (g:∀ b,S' b→S b):CntAt f k h G S' w:=by
 refine ⟨C.base,C.box,C.nul,C.low,C.ne,?_,?_⟩
 · obtain ⟨ts,c⟩:=C.trees
   exact ⟨ts,c.map,c.key,fun p a=>⟨(c.val p a).1,fun h1=>(c.val p a).2 (g _ h1)⟩⟩
 · obtain ⟨j,d⟩:=C.forts
   refine ⟨j,d.map,d.key,fun p a=>?_⟩
   obtain ⟨x,n,m,h1⟩:=d.val p a
   exact ⟨x,n,m,fun l=>h1 (g _ l)⟩
theorem CntAt.store {d w:World} {k:CH} {h:GH} {G:Gr} {S:Nat→Prop} (C:CntAt d k h G S w) {g:Nat} {o:Option Addr} {ns cs:Nat} {p:Bool} (a:Blk w g 77 #[.slice o ns cs, .bool p]) (r:S g) (s:d.heap.size≤g) (A:Option Addr) (n c:Nat) (b:Bool) :
 CntAt d k h G S ((w.setCell ⟨g,0,none⟩ (.slice A n c)).setCell ⟨g,1,none⟩ (.bool b))∧Off (fun q=>q=g) w ((w.setCell ⟨g,0,none⟩ (.slice A n c)).setCell ⟨g,1,none⟩ (.bool b))∧IntKeep w ((w.setCell ⟨g,0,none⟩ (.slice A n c)).setCell ⟨g,1,none⟩ (.bool b)) ∧
  Blk ((w.setCell ⟨g,0,none⟩ (.slice A n c)).setCell ⟨g,1,none⟩ (.bool b)) g 77 #[.slice A n c, .bool b]:=by
 have f:Off (fun q=>q=g) w ((w.setCell ⟨g,0,none⟩ (.slice A n c)).setCell ⟨g,1,none⟩ (.bool b)):=(Off.of_set w g 0 (.slice A n c)).trans (Off.of_set _ g 1 (.bool b)) fun _ _ h=>h
 have l:IntKeep w ((w.setCell ⟨g,0,none⟩ (.slice A n c)).setCell ⟨g,1,none⟩ (.bool b)):=IntKeep.of_off f fun q j=>by rw [j];exact cell_noInt a
 have m:=C.not_map a
 refine ⟨C.move f l fun q j=>?_,f,l,(a.set 0 _).set 1 _⟩
 subst j
 refine ⟨r,s,?_,?_,fun e=>m (.inl e),fun e=>m (.inr e)⟩
 · rintro rfl
   have h1:=C.box
   unfold Blk at h1 a
   rw [h1] at a
   injection a with a
   injection a with _ h3 _
   exact absurd h3 (by decide)
 · rintro rfl
   have h1:=C.nul
   unfold BoolT Blk at h1
   unfold Blk at a
   rw [h1] at a
   injection a with a
   injection a with _ h3 _
   exact absurd h3 (by decide)
theorem CntAt.putT {v w w':World} {k:CH} {h:GH} {G:Gr} {S:Nat→Prop} (C:CntAt v k h G S w) {ts:List ((Int × Nat) × Nat)} (j:TreesM w k.t G S ts) {s:Int} {n g:Nat} (H:s < 0) (I:nonI s < 100) (u:n≤100) (l:VCell w g (treeN G s n)) (D:¬ S g)
 (a:PlcM Tryz.prog 247 w' k.t ((kT s n,g)::ts.map fun p=>(kT p.1.1 p.1.2,p.2))) (E:w.grownBy w' (some k.t)):CntAt v k h G S w'∧Off k.maps w w':=by
 have b:Off (fun q=>some k.t=some q) w w':=Off.of_grown E
 have F:IntKeep w w':=IntKeep.of_off b fun q f=>by injection f with f;rw [← f];exact j.map.noInt
 have o:∀ {q:Nat} {t:TypeId} {cs:Array Value},Blk w q t cs→Blk w' q t cs:=fun y=>b.blk y fun e=>by injection e with e;exact j.map.ne_blk y e.symm
 have r:∀ {q x:Nat},VCell w q x→VCell w' q x:=fun {q x} l=>by
  obtain ⟨A,n,c,d,h1,B⟩:=l
  exact ⟨A,n,c,d,o h1,B.kept F⟩
 refine ⟨⟨C.base.trans (b.is_below C.base.size fun q f=>by injection f with f;rw [← f];exact C.low.1),o C.box,o C.nul,C.low,C.ne,⟨((s,n),g)::ts,by simpa using a,fun p a=>?_,fun p a=>?_⟩,?_⟩,⟨b.os,b.tape,b.output,b.size,fun q f u=>b.keep q f fun e=>u (by injection e with e;exact .inl e.symm)⟩⟩
 · rcases List.mem_cons.1 a with e | a
   · rw [e];exact ⟨H,I,u⟩
   · exact j.key p a
 · rcases List.mem_cons.1 a with e | a
   · rw [e];exact ⟨r l,D⟩
   · exact ⟨r (j.val p a).1,(j.val p a).2⟩
 · obtain ⟨z,m⟩:=C.forts
   refine ⟨z,m.map.block (b.keep _ m.map.lt fun e=>by injection e with e;exact C.ne e),m.key,fun p a=>?_⟩
   obtain ⟨x,J,l,h1⟩:=m.val p a
   exact ⟨x,J,r l,h1⟩
theorem CntAt.putF {z w w':World} {k:CH} {h:GH} {G:Gr} {S:Nat→Prop} (C:CntAt z k h G S w) {r:List ((Nat × Nat × Nat) × Nat)} (o:FortM w k.f G S r) {i d n g:Nat} {x:Rul} (I:G.rules[i]? = some x) (hi:i≤100) (hd:d≤100) (v:n≤100) (m:VCell w g (forestT (treeN G) (x.right.drop d) n)) (E:¬ S g)
 (a:PlcM Tryz.prog 251 w' k.f ((kF i d n,g)::r.map fun p=>(kF p.1.1 p.1.2.1 p.1.2.2,p.2))) (F:w.grownBy w' (some k.f)):CntAt z k h G S w'∧Off k.maps w w':=by
 have b:Off (fun q=>some k.f=some q) w w':=Off.of_grown F
 have H:IntKeep w w':=IntKeep.of_off b fun q j=>by injection j with j;rw [← j];exact o.map.noInt
 have s:∀ {q:Nat} {t:TypeId} {cs:Array Value},Blk w q t cs→Blk w' q t cs:=fun B=>b.blk B fun e=>by injection e with e;exact o.map.ne_blk B e.symm
 have u:∀ {q x:Nat},VCell w q x→VCell w' q x:=fun {q x} m=>by
  obtain ⟨A,n,c,d,h1,D⟩:=m
  exact ⟨A,n,c,d,s h1,D.kept H⟩
 refine ⟨⟨C.base.trans (b.is_below C.base.size fun q j=>by injection j with j;rw [← j];exact C.low.2),s C.box,s C.nul,C.low,C.ne,?_,⟨((i,d,n),g)::r,by simpa using a,fun p a=>?_,fun p a=>?_⟩⟩,⟨b.os,b.tape,b.output,b.size,fun q j v=>b.keep q j fun e=>v (by injection e with e;exact .inr e.symm)⟩⟩
 · obtain ⟨ts,l⟩:=C.trees
   exact ⟨ts,l.map.block (b.keep _ l.map.lt fun e=>by injection e with e;exact C.ne e.symm),l.key,fun p a=>⟨u (l.val p a).1,(l.val p a).2⟩⟩
 · rcases List.mem_cons.1 a with e | a
   · rw [e];exact ⟨hi,hd,v⟩
   · exact o.key p a
 · rcases List.mem_cons.1 a with e | a
   · rw [e];exact ⟨x,I,u m,E⟩
   · obtain ⟨y,J,m,h1⟩:=o.val p a
     exact ⟨y,J,u m,h1⟩
theorem TreesM.look {w:World} {g:Nat} {G:Gr} {S:Nat→Prop} {ts:List ((Int × Nat) × Nat)} (h:TreesM w g G S ts) (s:Int) (n:Nat) (v:s < 0) (t:nonI s < 100) (u:n≤100) :
 (∃ b,(∀ x:Ext w,(Instr.lookup 138 (.map (some g)) (kT s n) false).run Tryz.prog (bl w x) = .ok (.pointer (some ⟨b,0,none⟩)) (bl w x))∧VCell w b (treeN G s n)) ∨
 (∀ x:Ext w,(Instr.lookup 138 (.map (some g)) (kT s n) false).run Tryz.prog (bl w x) = .ok (.pointer none) (bl w x)):=by
 have j:∀ w,(zeroValue 248).run Tryz.prog w = .ok (.pointer none) w:=fun w=>by kernel_rfl
 have q:GoodK Tryz.prog 247 (kT s n):=keyOf_kT (by unfold nonI at t;omega) (by omega) (by omega)
 by_cases d:kT s n ∈ (ts.map fun p=>(kT p.1.1 p.1.2,p.2)).map (·.1)
 · left
   obtain ⟨b,c,o⟩:=h.map.look Tryz.keyKT d
   obtain ⟨p,r,a⟩:=List.mem_map.1 c
   injection a with a hpb
   obtain ⟨l,m⟩:=kT_inj a
   have f:=(h.val p r).1
   rw [l,m,hpb] at f
   exact ⟨b,fun x=>(h.map.below (bl_below w x)).look_at Tryz.keyKT Tryz.underlying138 (j _) c o,f⟩
 · exact .inr fun x=>(h.map.below (bl_below w x)).look_none Tryz.keyKT Tryz.underlying138 (j _) q d
theorem FortM.look {w:World} {g:Nat} {G:Gr} {S:Nat→Prop} {c:List ((Nat × Nat × Nat) × Nat)} (h:FortM w g G S c) {i d n:Nat} {x:Rul} (A:G.rules[i]? = some x) (hi:i≤100) (hd:d≤100) (B:n≤100) :
 (∃ b,(∀ y:Ext w,(Instr.lookup 139 (.map (some g)) (kF i d n) false).run Tryz.prog (bl w y) = .ok (.pointer (some ⟨b,0,none⟩)) (bl w y))∧VCell w b (forestT (treeN G) (x.right.drop d) n)) ∨
 (∀ y:Ext w,(Instr.lookup 139 (.map (some g)) (kF i d n) false).run Tryz.prog (bl w y) = .ok (.pointer none) (bl w y)):=by
 have o:∀ w,(zeroValue 248).run Tryz.prog w = .ok (.pointer none) w:=fun w=>by kernel_rfl
 have u:GoodK Tryz.prog 251 (kF i d n):=keyOf_kF (by omega) (by omega) (by omega)
 by_cases j:kF i d n ∈ (c.map fun p=>(kF p.1.1 p.1.2.1 p.1.2.2,p.2)).map (·.1)
 · left
   obtain ⟨b,f,t⟩:=h.map.look Tryz.keyKF j
   obtain ⟨p,v,a⟩:=List.mem_map.1 f
   injection a with a hpb
   obtain ⟨q,r,s⟩:=kF_inj a
   obtain ⟨y,m,l,_⟩:=h.val p v
   rw [q,A] at m
   obtain rfl:=Option.some.inj m
   rw [r,s,hpb] at l
   exact ⟨b,fun z=>(h.map.below (bl_below w z)).look_at Tryz.keyKF Tryz.underlying139 (o _) f t,l⟩
 · exact .inr fun z=>(h.map.below (bl_below w z)).look_none Tryz.keyKF Tryz.underlying139 (o _) u j

def TabM (w:World) (A:Option Addr) (n c N:Nat) (tab:Nat→Nat→Nat):Prop:=n≤c∧c≤9223372036854775807∧(0 < n→∃ b a,A=some ⟨b,a,none⟩∧b < w.heap.size∧∀ m,m < n →
 ∃ g,w.cell? ⟨b,a+m,none⟩=some (.slice (some ⟨g,0,none⟩) N N)∧VRow w g 46 ((List.range N).map (tab m)))
theorem TabM.below {w w':World} {A:Option Addr} {n c N:Nat} {tab:Nat→Nat→Nat} (h:TabM w A n c N tab) (a:Below w.heap.size w w'):TabM w' A n c N tab:=by
 refine ⟨h.1,h.2.1,fun l=>?_⟩
 obtain ⟨b,f,e,d,o⟩:=h.2.2 l
 refine ⟨b,f,e,Nat.lt_of_lt_of_le d a.size,fun m k=>?_⟩
 obtain ⟨g,h1,j⟩:=o m k
 exact ⟨g,(a.cell (p:=⟨b,f+m,none⟩) d).trans h1,j.below a⟩
theorem capV_one:capV 1=([1],false):=by
 have h1:(1:Nat) < big:=by
  unfold big
  generalize a:(1024:Nat)=k
  exact Nat.one_lt_two_pow (by omega)
 rw [capV_small h1]
 rfl
def MulRel (w:World) (xs ys:List Nat) (i:Value) (wr:World):Prop :=
 ∃ (k:Nat) (a:List Nat),k≤xs.length∧i = .int .i64 (k:Int)∧a.length=xs.length+ys.length∧Lim a∧val a=val (xs.take k) * val ys ∧
   (∀ j,k+ys.length≤j→a.getD j 0=0)∧Own wr w.heap.size 49 .u32 a∧Below w.heap.size w wr
def MulRel2 (w:World) (x:Nat) (ys a:List Nat) (i:Nat) (c q:Value) (wr:World):Prop :=
 ∃ k:Nat,k≤ys.length∧q = .int .i64 (k:Int)∧c = .int .u64 ((mulP x ys (a.drop i) k).2:Int)∧Own wr w.heap.size 49 .u32 (mulBuf x ys a i k)∧Below w.heap.size w wr
theorem nat_mul_ok (t:Option Addr) (n c1:Nat) (xs:List Nat) (u:Option Addr) (m c2:Nat) (ys:List Nat) (w:World)
 (h1:Nums .u32 w t n c1 xs) (r:Nums .u32 w u m c2 ys) (lx:Lim xs) (M:Lim ys) (N:rightB xs=true) (O:rightB ys=true) :
 Calls Tryz.prog 177 #[.slice t n c1, .slice u m c2] w (RetNat w (mulN xs ys)):=by
 obtain rfl:=h1.len
 obtain rfl:=r.len
 have a0:xs.length≤32:=by simp [rightB] at N;omega
 have ay:ys.length≤32:=by simp [rightB] at O;omega
 have H:=run_make_nums (P:=Tryz.prog) 31 49 .u32 4 Tryz.underlying31 Tryz.info34 (xs.length+ys.length) (by omega) (by omega)
 have az:∀ w:World,(Instr.makeSlice 31 (.int .i64 ((xs.length:Int)+(ys.length:Int))) (.int .i64 ((xs.length:Int)+(ys.length:Int)))).run Tryz.prog w = .ok (.slice (some ⟨w.heap.size,0,none⟩) (xs.length+ys.length) (xs.length+ys.length)) (w.alloc (.cells (nums .u32 (List.replicate (xs.length+ys.length) 0)).toArray 49)):=H
 clear H
 have G:mulN xs ys=fitN (val xs * val ys):=by simp [mulN,N,O]
 rw [G]
 clear G
 go_enter Tryz.func177,Tryz.ntmps177
 go_wp2_with (first
  | (go_at_call 75;(with_reducible refine (nat_right _ _ _ _ _ h1).mono ?_);rintro e w' ⟨rfl,rfl⟩)
  | (go_at_call 75;(with_reducible refine (nat_right _ _ _ _ _ r).mono ?_);rintro e w' ⟨rfl,rfl⟩))
 go_loopw [29] (MulRel w xs ys) (fun i _=>xs.length - (intOf i).toNat)
 case atStart =>
  refine ⟨0,List.replicate (xs.length+ys.length) 0,Nat.zero_le _,rfl,by simp,?_,?_,?_,Own.new _ _ _ _,(Below.refl _ _).alloc (Nat.le_refl _) _⟩
  · intro y hy
    have:=List.eq_of_mem_replicate hy
    omega
  · have:=drop_zeros_val (List.replicate (xs.length+ys.length) 0) 0 (fun i _=>by simp [List.getElem?_replicate];split <;> rfl)
    simpa [val] using this
  · intro j _
    simp [List.getElem?_replicate]
    split <;> rfl
 case round =>
  obtain ⟨i,a,hi,rfl,D,g,E,F,b,f⟩:=hrel
  have d:=LH D
  have B:=LH E
  have S:=LH F
  clear D E F
  by_cases ah:i < xs.length
  · obtain ⟨b1,o1,x,rfl,au,Hx,ad⟩:=(h1.below f).get (j:=i) ah
    have L:=lx.of_get Hx.out
    go_wp2
    obtain ⟨R,rfl⟩:∃ R:World,R=wr:=⟨_,rfl⟩
    go_loopw [9,36] (MulRel2 w x ys a i) (fun _ q _=>ys.length - (intOf q).toNat)
    case atStart=>exact ⟨0,Nat.zero_le _,rfl,rfl,by rw [mulBuf_zero];exact b,f⟩
    case round =>
     clear b f ad
     obtain ⟨k,hk,rfl,rfl,b,f⟩:=hrel
     have ae:=mulP_carry x ys (a.drop i) L M (g.drop _) k
     by_cases ai:k < ys.length
     · obtain ⟨b2,o2,y,rfl,av,o,aw⟩:=(r.below f).get (j:=k) ai
       have am:=M.of_get o.out
       have l:=LH (mulBuf_len x ys a i k (by rw [d.out];omega))
       obtain ⟨z,C,af⟩:=b.cell (i:=i+k) (by rw [l.out,d.out];omega)
       have ag:=b.frozen (i+k)
       have p:Hid (a[i+k]? = some z):=LH (by rw [← mulBuf_get x ys a i k (by rw [d.out];omega)];exact C.out)
       have ao:=g.of_get p.out
       have hb:=mul_bound L am ao ae
       have a1:(0:Int)≤(x:Int) * (y:Int):=by rw [← Int.natCast_mul];omega
       have a2:(x:Int) * (y:Int)+(z:Int)+((mulP x ys (a.drop i) k).2:Int) < 18446744073709551616:=by rw [← Int.natCast_mul];omega
       have U:=LH (mulBuf_succ x ys a i k (by rw [d.out];omega))
       clear hb
       go_wp2
       go_roundw
       case rel =>
        refine ⟨k+1,by omega,by go_num,?_,?_,f.setCell (by simp) _⟩
        · have an:=p.out
          simp only [mulP,getD_of_get_n o.out]
          rw [show (a.drop i).getD k 0=z from by simp [List.getElem?_drop,an]]
          go_num
        · have:=b.set_ (i+k) ((x * y+z+(mulP x ys (a.drop i) k).2) % 4294967296)
          have J:=U.out
          rw [getD_of_get_n o.out,getD_of_get_n p.out] at J
          rw [J] at this
          simpa using this
       case measure=>simp [intOf];omega
     · obtain rfl:k=ys.length:=by omega
       have I:=mul_row x ys a i (by rw [d.out];omega) S.out
       have T:=LH I
       clear I
       have l:=LH (mulBuf_len x ys a i ys.length (by rw [d.out];omega))
       obtain ⟨z,C,af⟩:=b.cell (i:=i+ys.length) (by rw [l.out,d.out];omega)
       have ag:=b.frozen (i+ys.length)
       go_wp2
       go_roundw
       case rel =>
        obtain ⟨W,X,Y⟩:=T.out
        refine ⟨i+1,_,by omega,by go_num,?_,?_,?_,Y,?_,f.setCell (by simp) _⟩
        · rw [X,d.out]
        · intro v hv
          rcases List.mem_or_eq_of_mem_set hv with h | h
          · exact mulBuf_lim x ys a i ys.length g v h
          · omega
        · rw [W,B.out,val_take_succ,getD_of_get_n Hx.out,Nat.add_mul,Nat.mul_assoc]
        · have:=b.set_ (i+ys.length) (mulP x ys (a.drop i) ys.length).2
          simpa using this
       case measure=>simp [intOf];omega
  · obtain rfl:i=xs.length:=by omega
    have s:=B.out
    rw [List.take_length] at s
    have aj:=b.nums (n:=xs.length+ys.length) (c:=xs.length+ys.length) d.out (Nat.le_refl _) (by omega)
    have V:=LH s
    clear s
    go_wp2_with (go_at_call 207;(with_reducible refine (nat_fit _ _ _ _ _ aj g).mono ?_);rintro e w' ⟨A,c,rfl,hN,Z⟩)
    go_ret2
    rw [← V.out]
    exact ⟨A,c,rfl,hN,below_tail f Z⟩
theorem nat_mul (b:Option Addr) (n c1:Nat) (xs:List Nat) (c:Option Addr) (m c2:Nat) (ys:List Nat) (w:World)
 (h1:Nums .u32 w b n c1 xs) (d:Nums .u32 w c m c2 ys) (h:Lim xs) (j:Lim ys) :
 Calls Tryz.prog 177 #[.slice b n c1, .slice c m c2] w (RetNat w (mulN xs ys)):=by
 by_cases f:rightB xs=true
 case neg =>
  have k:rightB xs=false:=by simpa using f
  have a:mulN xs ys=([],1):=by simp [mulN,k]
  rw [a]
  clear a f
  go_enter Tryz.func177,Tryz.ntmps177
  go_wp2_with (first
   | (go_at_call 75;(with_reducible refine (nat_right _ _ _ _ _ h1).mono ?_);rintro e w' ⟨rfl,rfl⟩)
   | (go_at_call 75;(with_reducible refine (nat_right _ _ _ _ _ d).mono ?_);rintro e w' ⟨rfl,rfl⟩))
  go_ret2
  exact ⟨none,0,rfl,Nums.nil _ _ _ _ (by simp),Below.refl _ _⟩
 by_cases g:rightB ys=true
 case neg =>
  have l:rightB ys=false:=by simpa using g
  have a:mulN xs ys=([],1):=by simp [mulN,l]
  rw [a]
  clear a g
  go_enter Tryz.func177,Tryz.ntmps177
  go_wp2_with (first
   | (go_at_call 75;(with_reducible refine (nat_right _ _ _ _ _ h1).mono ?_);rintro e w' ⟨rfl,rfl⟩)
   | (go_at_call 75;(with_reducible refine (nat_right _ _ _ _ _ d).mono ?_);rintro e w' ⟨rfl,rfl⟩))
  go_ret2
  exact ⟨none,0,rfl,Nums.nil _ _ _ _ (by simp),Below.refl _ _⟩
 exact nat_mul_ok b n c1 xs c m c2 ys w h1 d h j f g
end Go.Proofs.YtggbjdmpjidhgaaGreatDoor
