/- maps whose keys are several numbers, and whose elements are places of cells: what they hold. -/
import Derived.Test.YtggbjdmpjidhgaaGreatDoorQCtW1
import Derived.Test.YtggbjdmpjidhgaaGreatDoorQCtR1
import Derived.Test.YtggbjdmpjidhgaaGreatDoorQCtP4
import Derived.DeepKeys4
import Derived.Test.YtggbjdmpjidhgaaGreatDoorQGrN1
set_option linter.unusedVariables false
set_option linter.unusedSimpArgs false
set_option maxHeartbeats 8000000
set_option maxRecDepth 100000
namespace Go.Proofs.YtggbjdmpjidhgaaGreatDoor
open Go.RowKit
open Go.Maps (Keyed IsMap Tidy)
theorem Tryz.laidOut:laidOutB Tryz.prog=true:=by kernel_rfl
theorem Tryz.rowKT:(247:TypeId) < Tryz.prog.types.size:=of_decide_eq_true (by kernel_rfl)
theorem Tryz.rowKF:(251:TypeId) < Tryz.prog.types.size:=of_decide_eq_true (by kernel_rfl)
theorem Tryz.wideKT:(match Tryz.prog.underlying 247 with | some (.array _ _) | some (.struct _)=>true | _=>false)=true:=by kernel_rfl
theorem Tryz.wideKF:(match Tryz.prog.underlying 251 with | some (.array _ _) | some (.struct _)=>true | _=>false)=true:=by kernel_rfl
theorem Tryz.keyKT:Keyed Tryz.prog 247:=Keyed.of_law (deep_law_laid Tryz.laidOut (m:=2) (by omega) Tryz.rowKT (by kernel_rfl) Tryz.wideKT)
theorem Tryz.keyKF:Keyed Tryz.prog 251:=Keyed.of_law (deep_law_laid Tryz.laidOut (m:=2) (by omega) Tryz.rowKF (by kernel_rfl) Tryz.wideKF)
def kT (s:Int) (n:Nat):Value := .agg #[.int .i64 s, .int .i64 (n:Int)]
def kF (i d n:Nat):Value := .agg #[.int .i64 (i:Int), .int .i64 (d:Int), .int .i64 (n:Int)]
theorem kT_inj {s s':Int} {n n':Nat} (h:kT s n=kT s' n'):s=s'∧n=n':=by
 unfold kT at h
 simp at h
 exact ⟨h.1,by omega⟩
theorem kF_inj {i d n i' d' n':Nat} (h:kF i d n=kF i' d' n'):i=i'∧d=d'∧n=n':=by
 unfold kF at h
 simp at h
 omega
theorem wf_small {x:Int} (h1:-1000≤x) (h2:x≤1000):(Lit.int .i64 x).wf=true:=WalkArith.wf_i64 (by omega)
theorem size_two {P:Program} {t:Nat} (h:t < P.types.size) (ht:1≤t):∃ m,P.types.size=m+2:=⟨P.types.size - 2,by omega⟩
theorem keyOf_kT {s:Int} {n:Nat} (h1:-1000≤s) (h2:s≤1000) (h3:n≤1000):∃ l,keyOf Tryz.prog 247 (kT s n)=some l:=by
 have e1:Tryz.prog.keyType 247=true:=by kernel_rfl
 have e2:Tryz.prog.cellsOf 247=2:=by kernel_rfl
 have e3:Tryz.prog.cellsOf 3=1:=by kernel_rfl
 have w1:=wf_small h1 h2
 have w2:(Lit.int .i64 (n:Int)).wf=true:=wf_small (by omega) (by omega)
 obtain ⟨m,hm⟩:=size_two Tryz.rowKT (by decide)
 unfold keyOf kT
 rw [hm]
 simp [Tryz.underlying247,e1,Value.formed,e2,Program.keyLits,Value.cells,e3,Tryz.underlying3,w1,w2,List.range_succ]
theorem keyOf_kF {i d n:Nat} (h1:i≤1000) (h2:d≤1000) (h3:n≤1000):∃ l,keyOf Tryz.prog 251 (kF i d n)=some l:=by
 have e1:Tryz.prog.keyType 251=true:=by kernel_rfl
 have e2:Tryz.prog.cellsOf 251=3:=by kernel_rfl
 have e3:Tryz.prog.cellsOf 3=1:=by kernel_rfl
 have w1:(Lit.int .i64 (i:Int)).wf=true:=wf_small (by omega) (by omega)
 have w2:(Lit.int .i64 (d:Int)).wf=true:=wf_small (by omega) (by omega)
 have w3:(Lit.int .i64 (n:Int)).wf=true:=wf_small (by omega) (by omega)
 obtain ⟨m,hm⟩:=size_two Tryz.rowKF (by decide)
 unfold keyOf kF
 rw [hm]
 simp [Tryz.underlying251,e1,Value.formed,e2,Program.keyLits,Value.cells,e3,Tryz.underlying3,w1,w2,w3]
def ptrR:Value→Option (DataW Unit × List MemPlace)
 | .pointer none=>some (.nil,[])
 | .pointer (some ⟨b,0,none⟩)=>some (.lit (.int .i64 (b:Int)),[])
 | _=>none
theorem ptrR_block {v:Value} {b:Nat} {ps:List MemPlace} (h:ptrR v=some (.lit (.int .i64 (b:Int)),ps)):v = .pointer (some ⟨b,0,none⟩):=by
 unfold ptrR at h
 split at h
 · cases h
 · simp only [Option.some.injEq,Prod.mk.injEq,DataW.lit.injEq,Lit.int.injEq,true_and] at h
   obtain ⟨h,_⟩:=h
   rw [Int.ofNat.inj h]
 · cases h
theorem ptrR_nil {v:Value} {ps:List MemPlace} (h:ptrR v=some (.nil,ps)):v = .pointer none:=by
 unfold ptrR at h
 split at h
 · rfl
 · cases h
 · cases h
section
variable {P:Program} {k:TypeId}
def litK (P:Program) (k:TypeId) (v:Value):Lit:=(keyOf P k v).getD (.bool false)
def GoodK (P:Program) (k:TypeId) (v:Value):Prop:=∃ l,keyOf P k v=some l
theorem GoodK.lit {v:Value} (h:GoodK P k v):keyOf P k v=some (litK P k v):=by
 obtain ⟨l,h⟩:=h
 unfold litK
 rw [h]
 rfl
theorem litK_ne (K:Keyed P k) {u v:Value} (hu:GoodK P k u) (hv:GoodK P k v) (h:u ≠ v):litK P k u ≠ litK P k v:=fun e=>h (K.inj hu.lit (by rw [e];exact hv.lit))
def plcR (P:Program) (k:TypeId):List (Value × Nat)→DataW Unit
 | [] => .map []
 | p::r=>(plcR P k r).put (litK P k p.1) (.lit (.int .i64 (p.2:Int)))
theorem isMap_plcR:∀ r:List (Value × Nat),IsMap (plcR P k r)
 | []=>Maps.isMap_empty
 | p::r=>(isMap_plcR r).put _ _
theorem has_plcR (K:Keyed P k) {v:Value} (hv:GoodK P k v):∀ r:List (Value × Nat),(∀ p ∈ r,GoodK P k p.1)→(Maps.has (plcR P k r) (litK P k v)=true ↔ v ∈ r.map (·.1))
 | [],_=>by
   unfold plcR
   simp [Maps.has_eq]
 | p::r,hg=>by
   have hp:=hg p (List.mem_cons_self ..)
   have ih:=has_plcR K hv r (fun q hq=>hg q (List.mem_cons_of_mem _ hq))
   unfold plcR
   rw [List.map_cons,List.mem_cons]
   by_cases e:v=p.1
   · rw [e,Maps.has_put_same (isMap_plcR r) (K.key hp.lit)]
     simp
   · rw [Maps.has_put_other (litK_ne K hv hp e),ih]
     simp [e]
theorem at_plcR (K:Keyed P k) {v:Value} (hv:GoodK P k v):∀ r:List (Value × Nat),(∀ p ∈ r,GoodK P k p.1) →
 (v ∈ r.map (·.1)→∃ b,(v,b) ∈ r∧(plcR P k r).atKey (litK P k v) .nil = .lit (.int .i64 (b:Int)))∧(v ∉ r.map (·.1)→(plcR P k r).atKey (litK P k v) .nil = .nil)
 | [],_=>⟨fun h=>(by cases h),fun _=>by unfold plcR;exact Maps.atKey_of_not_has (by simp [Maps.has_eq]) _⟩
 | p::r,hg=>by
   have hp:=hg p (List.mem_cons_self ..)
   have ih:=at_plcR K hv r (fun q hq=>hg q (List.mem_cons_of_mem _ hq))
   rw [List.map_cons]
   by_cases e:v=p.1
   · refine ⟨fun _=>⟨p.2,by rw [e];exact List.mem_cons_self ..,?_⟩,fun h=>absurd (by rw [e];exact List.mem_cons_self ..) h⟩
     subst e
     unfold plcR
     exact Maps.atKey_put_same (isMap_plcR r) (K.key hv.lit) _ _
   · refine ⟨fun h=>?_,fun h=>?_⟩
     · obtain ⟨b,hb,hat⟩:=ih.1 ((List.mem_cons.1 h).resolve_left e)
       refine ⟨b,List.mem_cons_of_mem _ hb,?_⟩
       unfold plcR
       rw [Maps.atKey_put_other (litK_ne K hv hp e)]
       exact hat
     · rw [List.mem_cons,not_or] at h
       unfold plcR
       rw [Maps.atKey_put_other (litK_ne K hv hp e)]
       exact ih.2 h.2
theorem tidy_plcR (K:Keyed P k):∀ r:List (Value × Nat),(∀ p ∈ r,GoodK P k p.1)→Tidy (plcR P k r)
 | [],_=>Maps.tidy_empty
 | p::r,hg=>(tidy_plcR K r (fun q hq=>hg q (List.mem_cons_of_mem _ hq))).put (K.key (hg p (List.mem_cons_self ..)).lit) _
theorem size_plcR (K:Keyed P k):∀ r:List (Value × Nat),(∀ p ∈ r,GoodK P k p.1)→∃ L:List Value,L.Nodup∧(∀ v ∈ L,v ∈ r.map (·.1))∧Maps.size (plcR P k r)=L.length
 | [],_=>⟨[],List.nodup_nil,fun v h=>(by cases h),rfl⟩
 | p::r,hg=>by
   have hr:∀ q ∈ r,GoodK P k q.1:=fun q hq=>hg q (List.mem_cons_of_mem _ hq)
   obtain ⟨L,h1,h2,h3⟩:=size_plcR K r hr
   have hs:=Maps.size_put (k:=litK P k p.1) (tidy_plcR K r hr) (.lit (.int .i64 (p.2:Int)))
   have hh:=has_plcR K (hg p (List.mem_cons_self ..)) r hr
   by_cases hin:p.1 ∈ r.map (·.1)
   · rw [if_pos (hh.2 hin)] at hs
     exact ⟨L,h1,fun v hv=>by rw [List.map_cons];exact List.mem_cons_of_mem _ (h2 v hv),hs.trans h3⟩
   · rw [if_neg (fun h=>hin (hh.1 h))] at hs
     refine ⟨p.1::L,List.nodup_cons.2 ⟨fun h=>hin (h2 _ h),h1⟩,fun v hv=>?_,by rw [List.length_cons,← h3];exact hs⟩
     rw [List.map_cons]
     rcases List.mem_cons.1 hv with e | hv
     · rw [e];exact List.mem_cons_self ..
     · exact List.mem_cons_of_mem _ (h2 v hv)
theorem own_tight {R:Value→Option (DataW Unit × List MemPlace)} {w:World} {b n:Nat} {D:DataW Unit} (h:w.ownsMap P k R b n D):w.ownsMap P k R b (Maps.size D) D:=by
 obtain ⟨es,clock,hb,F,_,hD⟩:=h
 refine ⟨es,clock,hb,F,?_,hD⟩
 rw [hD]
 simp [Maps.size,length_sorted]
structure PlcM (P:Program) (k:TypeId) (w:World) (g:Nat) (r:List (Value × Nat)):Prop where
 own:w.ownsMap P k ptrR g (Maps.size (plcR P k r)) (plcR P k r)
 good:∀ p ∈ r,GoodK P k p.1
theorem PlcM.lt {w:World} {g:Nat} {r:List (Value × Nat)} (h:PlcM P k w g r):g < w.heap.size:=h.own.lt
theorem PlcM.block {w w':World} {g:Nat} {r:List (Value × Nat)} (h:PlcM P k w g r) (hb:w'.heap[g]? = w.heap[g]?):PlcM P k w' g r:=by
 refine ⟨?_,h.good⟩
 obtain ⟨es,clock,hh,q⟩:=h.own
 exact ⟨es,clock,hb.trans hh,q⟩
theorem PlcM.below {w w':World} {g:Nat} {r:List (Value × Nat)} (h:PlcM P k w g r) (hb:Below w.heap.size w w'):PlcM P k w' g r:=h.block (hb.block g h.lt)
theorem PlcM.no_cell {w:World} {g:Nat} {r:List (Value × Nat)} (h:PlcM P k w g r) (o:Nat):w.cell? ⟨g,o,none⟩=none:=by
 obtain ⟨es,clock,hh,_⟩:=h.own
 simp [World.cell?,hh]
theorem PlcM.noInt {w:World} {g:Nat} {r:List (Value × Nat)} (h:PlcM P k w g r):NoInt w g:=fun o k z hc=>by rw [h.no_cell] at hc;cases hc
theorem PlcM.ne_blk {w:World} {g g':Nat} {r:List (Value × Nat)} {t:TypeId} {cs:Array Value} (h:PlcM P k w g r) (hB:Blk w g' t cs):g' ≠ g:=by
 rintro rfl
 obtain ⟨es,clock,hh,_⟩:=h.own
 unfold Blk at hB
 rw [hh] at hB
 cases hB
theorem PlcM.made (w:World) (P:Program) (k:TypeId):PlcM P k (w.alloc (.map #[] 0)) w.heap.size []:=⟨World.ownsMap_made w P k ptrR,fun p h=>(by cases h)⟩
theorem PlcM.look {w:World} {g:Nat} {r:List (Value × Nat)} (h:PlcM P k w g r) (K:Keyed P k) {v:Value} (hm:v ∈ r.map (·.1)) :
 ∃ b,(v,b) ∈ r∧(plcR P k r).atKey (litK P k v) .nil = .lit (.int .i64 (b:Int)):=by
 obtain ⟨p,hp,e⟩:=List.mem_map.1 hm
 have hv:=h.good p hp
 rw [e] at hv
 exact (at_plcR K hv r h.good).1 hm
theorem PlcM.look_at {w:World} {g t e b:Nat} {r:List (Value × Nat)} (h:PlcM P k w g r) (K:Keyed P k) (ht:P.underlying t=some (.map k e)) (hz:(zeroValue e).run P w = .ok (.pointer none) w) {v:Value} (hm:(v,b) ∈ r) (hat:(plcR P k r).atKey (litK P k v) .nil = .lit (.int .i64 (b:Int))) :
 (Instr.lookup t (.map (some g)) v false).run P w = .ok (.pointer (some ⟨b,0,none⟩)) w:=by
 have hv:=h.good _ hm
 obtain ⟨u,ps,hrun,hu⟩:=h.own.lookup K ht hz (zd := .nil) (zp:=[]) rfl hv.lit
 rw [hat] at hu
 rw [hrun,ptrR_block hu]
theorem PlcM.look_none {w:World} {g t e:Nat} {r:List (Value × Nat)} (h:PlcM P k w g r) (K:Keyed P k) (ht:P.underlying t=some (.map k e)) (hz:(zeroValue e).run P w = .ok (.pointer none) w) {v:Value} (hv:GoodK P k v) (hm:v ∉ r.map (·.1)) :
 (Instr.lookup t (.map (some g)) v false).run P w = .ok (.pointer none) w:=by
 obtain ⟨u,ps,hrun,hu⟩:=h.own.lookup K ht hz (zd := .nil) (zp:=[]) rfl hv.lit
 rw [(at_plcR K hv r h.good).2 hm] at hu
 rw [hrun,ptrR_nil hu]
theorem PlcM.put {w:World} {g t e b:Nat} {r:List (Value × Nat)} (h:PlcM P k w g r) (K:Keyed P k) (ht:P.underlying t=some (.map k e)) (hn:Maps.size (plcR P k r) < maxLen) {v:Value} (hv:GoodK P k v) :
 ∃ w',(Instr.mapUpdate t (.map (some g)) v (.pointer (some ⟨b,0,none⟩))).run P w = .ok () w'∧PlcM P k w' g ((v,b)::r)∧w.grownBy w' (some g):=by
 obtain ⟨w',hrun,ho,hg⟩:=h.own.update K ht hn hv.lit (val := .pointer (some ⟨b,0,none⟩)) (d := .lit (.int .i64 (b:Int))) (ps:=[]) rfl
 refine ⟨w',hrun,⟨own_tight ho,fun p hp=>?_⟩,hg⟩
 rcases List.mem_cons.1 hp with e | hp
 · rw [e];exact hv
 · exact h.good p hp
theorem wpl_update (w:World) {ops:Array Oper} {rest:List Oper} {o:Oper} {a:Act} {Q:Exit→Act→World→Prop} (hg:o.guard=none) (m x y:Operand) (t:TypeId) (hop:o.op=Op.mapUpdate t m x y)
 (e g b:Nat) (K:Keyed P k) (ht:P.underlying t=some (.map k e)) {r:List (Value × Nat)} (h:PlcM P k w g r) (hn:Maps.size (plcR P k r) < maxLen) (v:Value) (hv:GoodK P k v)
 (h1:a.eval m = .map (some g)) (h2:a.eval x=v) (h3:a.eval y = .pointer (some ⟨b,0,none⟩))
 (hK:∀ w',PlcM P k w' g ((v,b)::r)→w.grownBy w' (some g)→wpList P ops Q rest (a.put o.dst undef) w'):wpList P ops Q (o::rest) a w:=by
 refine wpList_plain hg fun K' hK'=>?_
 obtain ⟨w',hrun,r1,r2⟩:=h.put (b:=b) K ht hn hv
 unfold Oper.wp
 simp [execOp,hop,h1,h2,h3,hrun,Result.andThen]
 exact hK' _ _ (hK w' r1 r2)
end
open Go.Maps (Keyed IsMap Tidy)
theorem Ints.tail1 {w:World} {b off n c:Nat} {s:Int} {zs:List Int} (h:Ints .i64 w (some ⟨b,off,none⟩) n c (s::zs)) :
 Ints .i64 w (if c=1 then some ⟨b,off,none⟩ else some ⟨b,off+1,none⟩) (n - 1) (c - 1) zs:=by
 have hl:=h.len
 have hc:=h.cap
 rw [List.length_cons] at hl
 by_cases hc1:c=1
 · rw [if_pos hc1]
   have hz:zs=[]:=List.eq_nil_of_length_eq_zero (by omega)
   subst hz
   rw [show n - 1=0 by omega]
   exact Ints.nil _ _ _ _ (by omega)
 · rw [if_neg hc1]
   have:=h.part 1 (n - 1) (c - 1) (by omega) (by omega) (by omega)
   have e:((s::zs).drop 1).take (n - 1)=zs:=by
    show zs.take (n - 1)=zs
    exact List.take_of_length_le (by omega)
   rw [e] at this
   exact this
def VCell (w:World) (b x:Nat):Prop:=∃ A n c d,Blk w b 77 #[.slice A n c, .bool d]∧ValN w A n c d x
theorem VCell.lt {w:World} {b x:Nat} (h:VCell w b x):b < w.heap.size:=by
 obtain ⟨A,n,c,d,h1,_⟩:=h
 exact h1.lt
theorem VCell.kept {w w':World} {b x:Nat} (h:VCell w b x) (hk:IntKeep w w') (hb:w'.heap[b]? = w.heap[b]?):VCell w' b x:=by
 obtain ⟨A,n,c,d,h1,h2⟩:=h
 exact ⟨A,n,c,d,hb.trans h1,h2.kept hk⟩
theorem cell_noInt {w:World} {g:Nat} {t:TypeId} {A:Option Addr} {n c:Nat} {b:Bool} (hX:Blk w g t #[.slice A n c, .bool b]):NoInt w g:=by
 intro o k z hc
 rw [hX.cell o] at hc
 rcases o with _ | _ | o <;> cases hc
theorem nodup_codes {α:Type} {l:List α} (f:α→Nat) (N:Nat) (hn:l.Nodup) (hi:∀ x ∈ l,∀ y ∈ l,f x=f y→x=y) (hb:∀ x ∈ l,f x < N):l.length≤N:=by
 have h1:(l.map f).Nodup:=by
  unfold List.Nodup at hn ⊢
  rw [List.pairwise_map]
  have:l.Pairwise fun x y=>x ∈ l∧y ∈ l∧x ≠ y:=List.Pairwise.imp_of_mem (fun ha hb h=>⟨ha,hb,h⟩) hn
  exact this.imp fun ⟨ha,hb,h⟩ e=>h (hi _ ha _ hb e)
 have h2:=nodup_len (l:=l.map f) (m:=List.range N) h1 fun x hx=>by
  obtain ⟨y,hy,rfl⟩:=List.mem_map.1 hx
  exact List.mem_range.2 (hb y hy)
 simpa using h2
structure TreesM (w:World) (g:Nat) (G:Gr) (S:Nat→Prop) (ts:List ((Int × Nat) × Nat)):Prop where
 map:PlcM Tryz.prog 247 w g (ts.map fun p=>(kT p.1.1 p.1.2,p.2))
 key:∀ p ∈ ts,p.1.1 < 0∧nonI p.1.1 < 100∧p.1.2≤100
 val:∀ p ∈ ts,VCell w p.2 (treeN G p.1.1 p.1.2)∧¬ S p.2
structure FortM (w:World) (g:Nat) (G:Gr) (S:Nat→Prop) (fs:List ((Nat × Nat × Nat) × Nat)):Prop where
 map:PlcM Tryz.prog 251 w g (fs.map fun p=>(kF p.1.1 p.1.2.1 p.1.2.2,p.2))
 key:∀ p ∈ fs,p.1.1≤100∧p.1.2.1≤100∧p.1.2.2≤100
 val:∀ p ∈ fs,∃ x,G.rules[p.1.1]? = some x∧VCell w p.2 (forestT (treeN G) (x.right.drop p.1.2.1) p.1.2.2)∧¬ S p.2
def codeT:Value→Nat
 | .agg cs=>nonI (intOf (cs.getD 0 undef)) * 1000+(intOf (cs.getD 1 undef)).toNat
 | _=>0
def codeF:Value→Nat
 | .agg cs=>(intOf (cs.getD 0 undef)).toNat * 1000000+(intOf (cs.getD 1 undef)).toNat * 1000+(intOf (cs.getD 2 undef)).toNat
 | _=>0
theorem codeT_kT (s:Int) (n:Nat):codeT (kT s n)=nonI s * 1000+n:=rfl
theorem codeF_kF (i d n:Nat):codeF (kF i d n)=i * 1000000+d * 1000+n:=rfl
theorem TreesM.few {w:World} {g:Nat} {G:Gr} {S:Nat→Prop} {ts:List ((Int × Nat) × Nat)} (h:TreesM w g G S ts):Maps.size (plcR Tryz.prog 247 (ts.map fun p=>(kT p.1.1 p.1.2,p.2))) < maxLen:=by
 obtain ⟨L,h1,h2,h3⟩:=size_plcR Tryz.keyKT _ h.map.good
 have hof:∀ v ∈ L,∃ p ∈ ts,v=kT p.1.1 p.1.2:=fun v hv=>by
  obtain ⟨q,hq,e⟩:=List.mem_map.1 (h2 v hv)
  obtain ⟨p,hp,rfl⟩:=List.mem_map.1 hq
  exact ⟨p,hp,e.symm⟩
 have:=nodup_codes codeT 1000000 h1 (fun x hx y hy e=>by
  obtain ⟨p,hp,rfl⟩:=hof x hx
  obtain ⟨q,hq,rfl⟩:=hof y hy
  have a:=h.key p hp
  have b:=h.key q hq
  rw [codeT_kT,codeT_kT] at e
  unfold nonI at e a b
  have e1:p.1.1=q.1.1:=by omega
  have e2:p.1.2=q.1.2:=by omega
  rw [e1,e2]) (fun x hx=>by
  obtain ⟨p,hp,rfl⟩:=hof x hx
  have a:=h.key p hp
  rw [codeT_kT]
  omega)
 rw [h3]
 unfold maxLen
 omega
theorem FortM.few {w:World} {g:Nat} {G:Gr} {S:Nat→Prop} {fs:List ((Nat × Nat × Nat) × Nat)} (h:FortM w g G S fs):Maps.size (plcR Tryz.prog 251 (fs.map fun p=>(kF p.1.1 p.1.2.1 p.1.2.2,p.2))) < maxLen:=by
 obtain ⟨L,h1,h2,h3⟩:=size_plcR Tryz.keyKF _ h.map.good
 have hof:∀ v ∈ L,∃ p ∈ fs,v=kF p.1.1 p.1.2.1 p.1.2.2:=fun v hv=>by
  obtain ⟨q,hq,e⟩:=List.mem_map.1 (h2 v hv)
  obtain ⟨p,hp,rfl⟩:=List.mem_map.1 hq
  exact ⟨p,hp,e.symm⟩
 have:=nodup_codes codeF 1000000000 h1 (fun x hx y hy e=>by
  obtain ⟨p,hp,rfl⟩:=hof x hx
  obtain ⟨q,hq,rfl⟩:=hof y hy
  have a:=h.key p hp
  have b:=h.key q hq
  rw [codeF_kF,codeF_kF] at e
  have e1:p.1.1=q.1.1:=by omega
  have e2:p.1.2.1=q.1.2.1:=by omega
  have e3:p.1.2.2=q.1.2.2:=by omega
  rw [e1,e2,e3]) (fun x hx=>by
  obtain ⟨p,hp,rfl⟩:=hof x hx
  have a:=h.key p hp
  rw [codeF_kF]
  omega)
 rw [h3]
 unfold maxLen
 omega
structure CH where
 c:Nat
 n:Nat
 t:Nat
 f:Nat
def CH.maps (k:CH):Nat→Prop:=fun b=>b=k.t∨b=k.f
structure CntAt (W0:World) (k:CH) (h:GH) (G:Gr) (S:Nat→Prop) (w:World):Prop where
 base:Below W0.heap.size W0 w
 box:Blk w k.c 141 #[.slice h.a1 h.n1 h.c1, .slice h.a2 h.n2 h.c2, .slice h.a3 h.n3 h.c3, .int .i64 G.start, .slice (some ⟨k.n,0,none⟩) h.n2 h.n2, .map (some k.t), .map (some k.f)]
 nul:BoolT w k.n (nullN G)
 low:W0.heap.size≤k.t∧W0.heap.size≤k.f
 ne:k.t ≠ k.f
 trees:∃ ts,TreesM w k.t G S ts
 forts:∃ fs,FortM w k.f G S fs
theorem CntAt.maps_noInt {W0 w:World} {k:CH} {h:GH} {G:Gr} {S:Nat→Prop} (C:CntAt W0 k h G S w):∀ g,k.maps g→NoInt w g:=by
 obtain ⟨ts,ht⟩:=C.trees
 obtain ⟨fs,hf⟩:=C.forts
 rintro g (rfl | rfl)
 · exact ht.map.noInt
 · exact hf.map.noInt
theorem CntAt.keep {W0 w w':World} {k:CH} {h:GH} {G:Gr} {S:Nat→Prop} (C:CntAt W0 k h G S w) (ho:Off k.maps w w'):IntKeep w w':=IntKeep.of_off ho C.maps_noInt
theorem CntAt.not_map {W0 w:World} {k:CH} {h:GH} {G:Gr} {S:Nat→Prop} (C:CntAt W0 k h G S w) {g:Nat} {t:TypeId} {cs:Array Value} (hB:Blk w g t cs):¬ k.maps g:=by
 obtain ⟨ts,ht⟩:=C.trees
 obtain ⟨fs,hf⟩:=C.forts
 rintro (e | e)
 · exact ht.map.ne_blk hB e
 · exact hf.map.ne_blk hB e
theorem CntAt.map_lt {W0 w:World} {k:CH} {h:GH} {G:Gr} {S:Nat→Prop} (C:CntAt W0 k h G S w):k.t < w.heap.size∧k.f < w.heap.size:=by
 obtain ⟨ts,ht⟩:=C.trees
 obtain ⟨fs,hf⟩:=C.forts
 exact ⟨ht.map.lt,hf.map.lt⟩
theorem CntAt.move {W0 w w':World} {k:CH} {h:GH} {G:Gr} {S P:Nat→Prop} (C:CntAt W0 k h G S w) (ho:Off P w w') (hk:IntKeep w w') (h1:∀ b,P b→S b∧W0.heap.size≤b∧b ≠ k.c∧b ≠ k.n∧b ≠ k.t∧b ≠ k.f):CntAt W0 k h G S w':=by
 obtain ⟨ml1,ml2⟩:=C.map_lt
 refine ⟨C.base.trans (ho.is_below C.base.size fun b hb=>(h1 b hb).2.1),ho.blk C.box fun hp=>(h1 _ hp).2.2.1 rfl,ho.blk C.nul fun hp=>(h1 _ hp).2.2.2.1 rfl,C.low,C.ne,?_,?_⟩
 · obtain ⟨ts,ht⟩:=C.trees
   exact ⟨ts,ht.map.block (ho.keep _ ml1 fun hp=>(h1 _ hp).2.2.2.2.1 rfl),ht.key,fun p hp=>⟨(ht.val p hp).1.kept hk (ho.keep _ (ht.val p hp).1.lt fun hb=>(ht.val p hp).2 (h1 _ hb).1),(ht.val p hp).2⟩⟩
 · obtain ⟨fs,hf⟩:=C.forts
   refine ⟨fs,hf.map.block (ho.keep _ ml2 fun hp=>(h1 _ hp).2.2.2.2.2 rfl),hf.key,fun p hp=>?_⟩
   obtain ⟨x,hx,hv,hs⟩:=hf.val p hp
   exact ⟨x,hx,hv.kept hk (ho.keep _ hv.lt fun hb=>hs (h1 _ hb).1),hs⟩
theorem CntAt.below {W0 w w':World} {k:CH} {h:GH} {G:Gr} {S:Nat→Prop} (C:CntAt W0 k h G S w) (hb:Below w.heap.size w w'):CntAt W0 k h G S w' :=
 C.move (P:=fun _=>False) (Off.of_below hb) (.of_below hb) fun b hb=>hb.elim
theorem CntAt.more {W0 w w':World} {k:CH} {h:GH} {G:Gr} {S:Nat→Prop} (C:CntAt W0 k h G S w) (hb:Below w.heap.size w w') {g:Nat} (hg:w.heap.size≤g):CntAt W0 k h G (fun b=>S b∨b=g) w':=by
 have C':=C.below hb
 refine ⟨C'.base,C'.box,C'.nul,C'.low,C'.ne,?_,?_⟩
 · obtain ⟨ts,ht⟩:=C.trees
   obtain ⟨ml1,ml2⟩:=C.map_lt
   refine ⟨ts,ht.map.below hb,ht.key,fun p hp=>⟨(ht.val p hp).1.kept (.of_below hb) (hb.block _ (ht.val p hp).1.lt),?_⟩⟩
   rintro (h1 | h1)
   · exact (ht.val p hp).2 h1
   · have:=(ht.val p hp).1.lt
     omega
 · obtain ⟨fs,hf⟩:=C.forts
   refine ⟨fs,hf.map.below hb,hf.key,fun p hp=>?_⟩
   obtain ⟨x,hx,hv,hs⟩:=hf.val p hp
   refine ⟨x,hx,hv.kept (.of_below hb) (hb.block _ hv.lt),?_⟩
   rintro (h1 | h1)
   · exact hs h1
   · have:=hv.lt
     omega
theorem CntAt.less {W0 w:World} {k:CH} {h:GH} {G:Gr} {S S':Nat→Prop} (C:CntAt W0 k h G S w) (hs:∀ b,S' b→S b):CntAt W0 k h G S' w:=by
 refine ⟨C.base,C.box,C.nul,C.low,C.ne,?_,?_⟩
 · obtain ⟨ts,ht⟩:=C.trees
   exact ⟨ts,ht.map,ht.key,fun p hp=>⟨(ht.val p hp).1,fun h1=>(ht.val p hp).2 (hs _ h1)⟩⟩
 · obtain ⟨fs,hf⟩:=C.forts
   refine ⟨fs,hf.map,hf.key,fun p hp=>?_⟩
   obtain ⟨x,hx,hv,h1⟩:=hf.val p hp
   exact ⟨x,hx,hv,fun h2=>h1 (hs _ h2)⟩
theorem CntAt.store {W0 w:World} {k:CH} {h:GH} {G:Gr} {S:Nat→Prop} (C:CntAt W0 k h G S w) {g:Nat} {As:Option Addr} {ns cs:Nat} {bs:Bool} (hX:Blk w g 77 #[.slice As ns cs, .bool bs]) (hS:S g) (hg:W0.heap.size≤g) (A:Option Addr) (n c:Nat) (b:Bool) :
 CntAt W0 k h G S ((w.setCell ⟨g,0,none⟩ (.slice A n c)).setCell ⟨g,1,none⟩ (.bool b))∧Off (fun q=>q=g) w ((w.setCell ⟨g,0,none⟩ (.slice A n c)).setCell ⟨g,1,none⟩ (.bool b))∧IntKeep w ((w.setCell ⟨g,0,none⟩ (.slice A n c)).setCell ⟨g,1,none⟩ (.bool b)) ∧
  Blk ((w.setCell ⟨g,0,none⟩ (.slice A n c)).setCell ⟨g,1,none⟩ (.bool b)) g 77 #[.slice A n c, .bool b]:=by
 have ho:Off (fun q=>q=g) w ((w.setCell ⟨g,0,none⟩ (.slice A n c)).setCell ⟨g,1,none⟩ (.bool b)):=(Off.of_set w g 0 (.slice A n c)).trans (Off.of_set _ g 1 (.bool b)) fun _ _ h=>h
 have hk:IntKeep w ((w.setCell ⟨g,0,none⟩ (.slice A n c)).setCell ⟨g,1,none⟩ (.bool b)):=IntKeep.of_off ho fun q hq=>by rw [hq];exact cell_noInt hX
 have hm:=C.not_map hX
 refine ⟨C.move ho hk fun q hq=>?_,ho,hk,(hX.set 0 _).set 1 _⟩
 subst hq
 refine ⟨hS,hg,?_,?_,fun e=>hm (.inl e),fun e=>hm (.inr e)⟩
 · rintro rfl
   have h1:=C.box
   unfold Blk at h1 hX
   rw [h1] at hX
   injection hX with hX
   injection hX with _ h3 _
   exact absurd h3 (by decide)
 · rintro rfl
   have h1:=C.nul
   unfold BoolT Blk at h1
   unfold Blk at hX
   rw [h1] at hX
   injection hX with hX
   injection hX with _ h3 _
   exact absurd h3 (by decide)
theorem CntAt.putT {W0 w w':World} {k:CH} {h:GH} {G:Gr} {S:Nat→Prop} (C:CntAt W0 k h G S w) {ts:List ((Int × Nat) × Nat)} (ht:TreesM w k.t G S ts) {s:Int} {n g:Nat} (hs:s < 0) (hs2:nonI s < 100) (hn:n≤100) (hv:VCell w g (treeN G s n)) (hg:¬ S g)
 (hp:PlcM Tryz.prog 247 w' k.t ((kT s n,g)::ts.map fun p=>(kT p.1.1 p.1.2,p.2))) (hgr:w.grownBy w' (some k.t)):CntAt W0 k h G S w'∧Off k.maps w w':=by
 have ho:Off (fun q=>some k.t=some q) w w':=Off.of_grown hgr
 have hk:IntKeep w w':=IntKeep.of_off ho fun q hq=>by injection hq with hq;rw [← hq];exact ht.map.noInt
 have hblk:∀ {q:Nat} {t:TypeId} {cs:Array Value},Blk w q t cs→Blk w' q t cs:=fun hB=>ho.blk hB fun e=>by injection e with e;exact ht.map.ne_blk hB e.symm
 have hcell:∀ {q x:Nat},VCell w q x→VCell w' q x:=fun {q x} hv=>by
  obtain ⟨A,n,c,d,h1,h2⟩:=hv
  exact ⟨A,n,c,d,hblk h1,h2.kept hk⟩
 refine ⟨⟨C.base.trans (ho.is_below C.base.size fun q hq=>by injection hq with hq;rw [← hq];exact C.low.1),hblk C.box,hblk C.nul,C.low,C.ne,⟨((s,n),g)::ts,by simpa using hp,fun p hp=>?_,fun p hp=>?_⟩,?_⟩,⟨ho.os,ho.tape,ho.output,ho.size,fun q hq hn=>ho.keep q hq fun e=>hn (by injection e with e;exact .inl e.symm)⟩⟩
 · rcases List.mem_cons.1 hp with e | hp
   · rw [e];exact ⟨hs,hs2,hn⟩
   · exact ht.key p hp
 · rcases List.mem_cons.1 hp with e | hp
   · rw [e];exact ⟨hcell hv,hg⟩
   · exact ⟨hcell (ht.val p hp).1,(ht.val p hp).2⟩
 · obtain ⟨fs,hf⟩:=C.forts
   refine ⟨fs,hf.map.block (ho.keep _ hf.map.lt fun e=>by injection e with e;exact C.ne e),hf.key,fun p hp=>?_⟩
   obtain ⟨x,hx,hv,h1⟩:=hf.val p hp
   exact ⟨x,hx,hcell hv,h1⟩
theorem CntAt.putF {W0 w w':World} {k:CH} {h:GH} {G:Gr} {S:Nat→Prop} (C:CntAt W0 k h G S w) {fs:List ((Nat × Nat × Nat) × Nat)} (hf:FortM w k.f G S fs) {i d n g:Nat} {x:Rul} (hx:G.rules[i]? = some x) (hi:i≤100) (hd:d≤100) (hn:n≤100) (hv:VCell w g (forestT (treeN G) (x.right.drop d) n)) (hg:¬ S g)
 (hp:PlcM Tryz.prog 251 w' k.f ((kF i d n,g)::fs.map fun p=>(kF p.1.1 p.1.2.1 p.1.2.2,p.2))) (hgr:w.grownBy w' (some k.f)):CntAt W0 k h G S w'∧Off k.maps w w':=by
 have ho:Off (fun q=>some k.f=some q) w w':=Off.of_grown hgr
 have hk:IntKeep w w':=IntKeep.of_off ho fun q hq=>by injection hq with hq;rw [← hq];exact hf.map.noInt
 have hblk:∀ {q:Nat} {t:TypeId} {cs:Array Value},Blk w q t cs→Blk w' q t cs:=fun hB=>ho.blk hB fun e=>by injection e with e;exact hf.map.ne_blk hB e.symm
 have hcell:∀ {q x:Nat},VCell w q x→VCell w' q x:=fun {q x} hv=>by
  obtain ⟨A,n,c,d,h1,h2⟩:=hv
  exact ⟨A,n,c,d,hblk h1,h2.kept hk⟩
 refine ⟨⟨C.base.trans (ho.is_below C.base.size fun q hq=>by injection hq with hq;rw [← hq];exact C.low.2),hblk C.box,hblk C.nul,C.low,C.ne,?_,⟨((i,d,n),g)::fs,by simpa using hp,fun p hp=>?_,fun p hp=>?_⟩⟩,⟨ho.os,ho.tape,ho.output,ho.size,fun q hq hn=>ho.keep q hq fun e=>hn (by injection e with e;exact .inr e.symm)⟩⟩
 · obtain ⟨ts,ht⟩:=C.trees
   exact ⟨ts,ht.map.block (ho.keep _ ht.map.lt fun e=>by injection e with e;exact C.ne e.symm),ht.key,fun p hp=>⟨hcell (ht.val p hp).1,(ht.val p hp).2⟩⟩
 · rcases List.mem_cons.1 hp with e | hp
   · rw [e];exact ⟨hi,hd,hn⟩
   · exact hf.key p hp
 · rcases List.mem_cons.1 hp with e | hp
   · rw [e];exact ⟨x,hx,hcell hv,hg⟩
   · obtain ⟨y,hy,hv,h1⟩:=hf.val p hp
     exact ⟨y,hy,hcell hv,h1⟩
theorem TreesM.look {w:World} {g:Nat} {G:Gr} {S:Nat→Prop} {ts:List ((Int × Nat) × Nat)} (h:TreesM w g G S ts) (s:Int) (n:Nat) (hs:s < 0) (hs2:nonI s < 100) (hn:n≤100) :
 (∃ b,(∀ x:Ext w,(Instr.lookup 138 (.map (some g)) (kT s n) false).run Tryz.prog (bl w x) = .ok (.pointer (some ⟨b,0,none⟩)) (bl w x))∧VCell w b (treeN G s n)) ∨
 (∀ x:Ext w,(Instr.lookup 138 (.map (some g)) (kT s n) false).run Tryz.prog (bl w x) = .ok (.pointer none) (bl w x)):=by
 have hz:∀ w,(zeroValue 248).run Tryz.prog w = .ok (.pointer none) w:=fun w=>by kernel_rfl
 have hgood:GoodK Tryz.prog 247 (kT s n):=keyOf_kT (by unfold nonI at hs2;omega) (by omega) (by omega)
 by_cases hin:kT s n ∈ (ts.map fun p=>(kT p.1.1 p.1.2,p.2)).map (·.1)
 · left
   obtain ⟨b,hb,hat⟩:=h.map.look Tryz.keyKT hin
   obtain ⟨p,hp,hpe⟩:=List.mem_map.1 hb
   injection hpe with hpe hpb
   obtain ⟨e1,e2⟩:=kT_inj hpe
   have hv:=(h.val p hp).1
   rw [e1,e2,hpb] at hv
   exact ⟨b,fun x=>(h.map.below (bl_below w x)).look_at Tryz.keyKT Tryz.underlying138 (hz _) hb hat,hv⟩
 · exact .inr fun x=>(h.map.below (bl_below w x)).look_none Tryz.keyKT Tryz.underlying138 (hz _) hgood hin
theorem FortM.look {w:World} {g:Nat} {G:Gr} {S:Nat→Prop} {fs:List ((Nat × Nat × Nat) × Nat)} (h:FortM w g G S fs) {i d n:Nat} {x:Rul} (hx:G.rules[i]? = some x) (hi:i≤100) (hd:d≤100) (hn:n≤100) :
 (∃ b,(∀ y:Ext w,(Instr.lookup 139 (.map (some g)) (kF i d n) false).run Tryz.prog (bl w y) = .ok (.pointer (some ⟨b,0,none⟩)) (bl w y))∧VCell w b (forestT (treeN G) (x.right.drop d) n)) ∨
 (∀ y:Ext w,(Instr.lookup 139 (.map (some g)) (kF i d n) false).run Tryz.prog (bl w y) = .ok (.pointer none) (bl w y)):=by
 have hz:∀ w,(zeroValue 248).run Tryz.prog w = .ok (.pointer none) w:=fun w=>by kernel_rfl
 have hgood:GoodK Tryz.prog 251 (kF i d n):=keyOf_kF (by omega) (by omega) (by omega)
 by_cases hin:kF i d n ∈ (fs.map fun p=>(kF p.1.1 p.1.2.1 p.1.2.2,p.2)).map (·.1)
 · left
   obtain ⟨b,hb,hat⟩:=h.map.look Tryz.keyKF hin
   obtain ⟨p,hp,hpe⟩:=List.mem_map.1 hb
   injection hpe with hpe hpb
   obtain ⟨e1,e2,e3⟩:=kF_inj hpe
   obtain ⟨y,hy,hv,_⟩:=h.val p hp
   rw [e1,hx] at hy
   obtain rfl:=Option.some.inj hy
   rw [e2,e3,hpb] at hv
   exact ⟨b,fun z=>(h.map.below (bl_below w z)).look_at Tryz.keyKF Tryz.underlying139 (hz _) hb hat,hv⟩
 · exact .inr fun z=>(h.map.below (bl_below w z)).look_none Tryz.keyKF Tryz.underlying139 (hz _) hgood hin
end Go.Proofs.YtggbjdmpjidhgaaGreatDoor
