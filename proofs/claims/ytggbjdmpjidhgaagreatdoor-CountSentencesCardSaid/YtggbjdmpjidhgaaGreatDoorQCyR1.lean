/- a grammar that is reduced, in memory: what the reference's loops keep. -/
import Derived.Test.YtggbjdmpjidhgaaGreatDoorQCyP9
import Derived.Test.YtggbjdmpjidhgaaGreatDoorQCtP4
import Derived.Test.YtggbjdmpjidhgaaGreatDoorQPs8
import Derived.Test.YtggbjdmpjidhgaaGreatDoorQKit
set_option linter.unusedVariables false
set_option linter.unusedSimpArgs false
set_option maxHeartbeats 8000000
set_option maxRecDepth 100000
namespace Go.Proofs.YtggbjdmpjidhgaaGreatDoor
open Go.RowKit
structure Off (S:Nat→Prop) (w w':World):Prop where
 os:w'.os=w.os
 tape:w'.tape=w.tape
 output:w'.output=w.output
 size:w.heap.size≤w'.heap.size
 keep:∀ k,k < w.heap.size→¬ S k→w'.heap[k]? = w.heap[k]?
theorem Off.refl (S:Nat→Prop) (w:World):Off S w w:=⟨rfl,rfl,rfl,Nat.le_refl _,fun _ _ _=>rfl⟩
theorem Off.trans {S T:Nat→Prop} {a b c:World} (x:Off S a b) (y:Off T b c) (h:∀ k,k < a.heap.size→T k→S k):Off S a c :=
 ⟨y.os.trans x.os,y.tape.trans x.tape,y.output.trans x.output,Nat.le_trans x.size y.size,fun k hk hn=>(y.keep k (Nat.lt_of_lt_of_le hk x.size) fun ht=>hn (h k hk ht)).trans (x.keep k hk hn)⟩
theorem Off.of_below {S:Nat→Prop} {w w':World} (h:Below w.heap.size w w'):Off S w w':=⟨h.os,h.tape,h.output,h.size,fun k hk _=>h.block k hk⟩
theorem Off.of_grown {w w':World} {r:Option Nat} (h:w.grownBy w' r):Off (fun k=>r=some k) w w':=⟨h.os,h.tape,h.output,h.size,fun k hk hn=>h.block k hk fun e=>hn e.symm⟩
theorem Off.of_set (w:World) (g i:Nat) (v:Value):Off (fun k=>k=g) w (w.setCell ⟨g,i,none⟩ v):=⟨rfl,rfl,rfl,by simp,fun k _ hn=>Below.heap_setCell w ⟨g,i,none⟩ v k hn⟩
theorem Off.is_below {S:Nat→Prop} {w w':World} {B:Nat} (x:Off S w w') (hB:B≤w.heap.size) (hS:∀ k,S k→B≤k):Below B w w' :=
 ⟨x.os,x.tape,x.output,x.size,fun k hk=>x.keep k (Nat.lt_of_lt_of_le hk hB) fun hs=>by have:=hS k hs;omega⟩
theorem Off.blk {S:Nat→Prop} {w w':World} {g:Nat} {t:TypeId} {cs:Array Value} (x:Off S w w') (hb:Blk w g t cs) (hn:¬ S g):Blk w' g t cs:=(x.keep g hb.lt hn).trans hb
theorem Off.row {S:Nat→Prop} {w w':World} {base e size n c:Nat} {A:Option Addr} {xs:List Value} (x:Off S w w') (h:w.ownsRow base e size (.slice A n c) n xs) (hn:∀ b,(Value.slice A n c).ownBlock=some b→¬ S b):w'.ownsRow base e size (.slice A n c) n xs :=
 own_keep h fun b hb hlt=>x.keep b hlt (hn b hb)
theorem own_typed {w:World} {base e size n c:Nat} {A:Option Addr} {xs:List Value} (h:w.ownsRow base e size (.slice A n c) n xs) {b:Nat} (hb:(Value.slice A n c).ownBlock=some b):∃ cs fr,w.heap[b]? = some (.cells cs e fr):=by
 rcases h.2 with ⟨hv,rfl⟩ | ⟨g,cap,cur,hv,hbs,hg,hnc,hcm,hcs,htake⟩
 · injection hv with h1 h2 h3
   subst h1
   cases hb
 · injection hv with h1 h2 h3
   subst h1
   have:g=b:=by simpa [Value.ownBlock] using hb
   subst this
   exact ⟨_,_,hg⟩
theorem own_apart {w:World} {base e size n c base' e' size' n' c':Nat} {A A':Option Addr} {xs xs':List Value} (h:w.ownsRow base e size (.slice A n c) n xs) (h':w.ownsRow base' e' size' (.slice A' n' c') n' xs') (hne:e ≠ e') {b:Nat}
 (hb:(Value.slice A n c).ownBlock=some b) (hb':(Value.slice A' n' c').ownBlock=some b):False:=by
 obtain ⟨cs,fr,h1⟩:=own_typed h hb
 obtain ⟨cs',fr',h2⟩:=own_typed h' hb'
 rw [h1] at h2
 injection h2 with h2
 injection h2 with _ h3 _
 exact hne h3
theorem offX {w a b:World} {g r:Nat} (h:Off (fun k=>k=g) w a) (h':Off (fun k=>k=r) a b):Off (fun k=>k=g∨k=r) w b :=
 (Off.trans (S:=fun k=>k=g∨k=r) ⟨h.os,h.tape,h.output,h.size,fun k hk hn=>h.keep k hk fun e=>hn (.inl e)⟩ h' fun _ _ e => .inr e)
def toL (n:Nat) (o:List Nat):List Int:=(List.range n).map fun i=>toI o i
theorem toL_len (n:Nat) (o:List Nat):(toL n o).length=n:=by simp [toL]
theorem toL_get {n:Nat} {o:List Nat} {i:Nat} (hi:i < n):(toL n o)[i]? = some (toI o i):=by simp [toL,hi]
theorem toI_last {o:List Nat} {i:Nat} (h:i ∉ o):toI (o++[i]) i=(o.length:Int):=by
 unfold toI
 refine findI_at (x:=i) (by simp) (by simp) fun j hj y hy=>?_
 rw [List.getElem?_append_left hj] at hy
 rw [decide_eq_false_iff_not]
 rintro rfl
 exact h (List.mem_of_getElem? hy)
theorem toL_set {n:Nat} {o:List Nat} {i:Nat} (hi:i ∉ o):(toL n o).set i (o.length:Int)=toL n (o++[i]):=by
 refine List.ext_getElem? fun j=>?_
 rw [List.getElem?_set]
 by_cases hj:j < n
 · rw [toL_get hj,toL_len,toL_get hj]
   split
   · rename_i he
     subst he
     rw [if_pos hj,toI_last hi]
   · rename_i he
     rw [toI_app_ne o (fun h=>he h.symm)]
 · have e1:(toL n o)[j]? = none:=List.getElem?_eq_none (by rw [toL_len];omega)
   have e2:(toL n (o++[i]))[j]? = none:=List.getElem?_eq_none (by rw [toL_len];omega)
   rw [e1,e2,toL_len]
   split
   · rename_i he;rw [if_neg (by omega)]
   · rfl
theorem toL_nil (n:Nat):toL n []=List.replicate n (-1):=by
 refine List.ext_getElem? fun j=>?_
 rw [List.getElem?_replicate]
 by_cases hj:j < n
 · rw [toL_get hj,if_pos hj,toI_none (by simp)]
 · rw [List.getElem?_eq_none (by rw [toL_len];omega),if_neg hj]
structure Red2 (W0:World) (gO gT n:Nat) (v1:Value) (G:Gr) (w:World) (Ak:Option Addr) (ck:Nat) (An:Option Addr) (cn:Nat) (ks old:List Nat):Prop where
 off:Off (fun k=>k=gT∨k=gO) W0 w
 tos:Blk w gT 3 (ints .i64 (toL n old)).toArray
 out:Blk w gO 26 #[v1, .slice An old.length cn, .slice none 0 0, .int .i64 0]
 kept:w.ownsRow W0.heap.size 3 1 (.slice Ak ks.length ck) ks.length (ints .i64 (intsOf ks))
 nons:w.ownsRow W0.heap.size 9 1 (.slice An old.length cn) old.length (old.map fun i=>Value.string (nameO G i))
theorem Red2.below {W0:World} {gO gT n:Nat} {v1:Value} {G:Gr} {w w':World} {Ak:Option Addr} {ck:Nat} {An:Option Addr} {cn:Nat} {ks old:List Nat} (r:Red2 W0 gO gT n v1 G w Ak ck An cn ks old) (hb:Below w.heap.size w w'):Red2 W0 gO gT n v1 G w' Ak ck An cn ks old :=
 ⟨r.off.trans (Off.of_below (S:=fun k=>k=gT∨k=gO) hb) fun _ _ h=>h,Blk.ext r.tos hb,Blk.ext r.out hb,own_keep r.kept fun b _ hl=>hb.block b hl,own_keep r.nons fun b _ hl=>hb.block b hl⟩
theorem Red2.put {W0:World} {gO gT n:Nat} {v1:Value} {G:Gr} {w w1:World} {Ak:Option Addr} {ck:Nat} {An:Option Addr} {cn:Nat} {ks old:List Nat} (r:Red2 W0 gO gT n v1 G w Ak ck An cn ks old)
 (hT:gT < W0.heap.size) (hO:gO < W0.heap.size) (j:Nat) (A':Option Addr) (c':Nat)
 (ho:w1.ownsRow W0.heap.size 3 1 (.slice A' (ks.length+1) c') (ks.length+1) (ints .i64 (intsOf ks)++[.int .i64 (j:Int)])) (hg:w.grownBy w1 (Value.slice Ak ks.length ck).ownBlock) :
 Red2 W0 gO gT n v1 G w1 A' c' An cn (ks++[j]) old:=by
 have hx:=Off.of_grown hg
 have hk:∀ b,(Value.slice Ak ks.length ck).ownBlock=some b→W0.heap.size≤b:=fun b hb=>(r.kept.lt b hb).1
 refine ⟨r.off.trans hx fun k hk' h=>?_,hx.blk r.tos fun h=>?_,hx.blk r.out fun h=>?_,?_,hx.row r.nons fun b hb h=>own_apart r.kept r.nons (by decide) h hb⟩
 · have:=hk k h;omega
 · have:=hk gT h;omega
 · have:=hk gO h;omega
 · have e:ints .i64 (intsOf (ks++[j]))=ints .i64 (intsOf ks)++[.int .i64 (j:Int)]:=by simp [ints,intsOf]
   rw [e,List.length_append,List.length_singleton]
   exact ho
theorem Red2.name {W0:World} {gO gT n:Nat} {v1:Value} {G:Gr} {w w1:World} {Ak:Option Addr} {ck:Nat} {An:Option Addr} {cn:Nat} {ks old:List Nat} (r:Red2 W0 gO gT n v1 G w Ak ck An cn ks old)
 (hT:gT < W0.heap.size) (hO:gO < W0.heap.size) (hTO:gT ≠ gO) {l:Nat} (hl:l ∉ old) (A':Option Addr) (c':Nat)
 (ho:w1.ownsRow W0.heap.size 9 1 (.slice A' (old.length+1) c') (old.length+1) ((old.map fun i=>Value.string (nameO G i))++[.string (nameO G l)]))
 (hg:(w.setCell ⟨gT,l,none⟩ (.int .i64 (old.length:Int))).grownBy w1 (Value.slice An old.length cn).ownBlock) :
 Red2 W0 gO gT n v1 G (w1.setCell ⟨gO,1,none⟩ (.slice A' (old.length+1) c')) Ak ck A' c' ks (old++[l]):=by
 have hx:=Off.of_grown hg
 have hs:=Off.of_set w gT l (.int .i64 (old.length:Int))
 have hz:=Off.of_set w1 gO 1 (.slice A' (old.length+1) c')
 have hn:∀ b,(Value.slice An old.length cn).ownBlock=some b→W0.heap.size≤b:=fun b hb=>(r.nons.lt b hb).1
 have hk:∀ b,(Value.slice Ak ks.length ck).ownBlock=some b→W0.heap.size≤b:=fun b hb=>(r.kept.lt b hb).1
 have hapart:∀ b,(Value.slice Ak ks.length ck).ownBlock=some b→(Value.slice An old.length cn).ownBlock=some b→False:=fun b h1 h2=>own_apart r.kept r.nons (by decide) h1 h2
 have hto:Blk (w.setCell ⟨gT,l,none⟩ (.int .i64 (old.length:Int))) gT 3 (ints .i64 (toL n (old++[l]))).toArray:=by
  have:=Blk.set r.tos l (.int .i64 (old.length:Int))
  have e:(ints .i64 (toL n old)).toArray.setIfInBounds l (.int .i64 (old.length:Int))=(ints .i64 (toL n (old++[l]))).toArray:=by
   rw [← toL_set hl]
   simp [ints,List.map_set]
  rw [e] at this
  exact this
 refine ⟨((r.off.trans hs fun k _ h => .inl h).trans hx fun k hk' h=>?_).trans hz fun k _ h => .inr h,hz.blk (hx.blk hto fun h=>?_) hTO,?_,?_,?_⟩
 · have:=hn k h;omega
 · have:=hn gT h;omega
 · have h1:=hx.blk (hs.blk r.out fun h=>hTO h.symm) fun h=>by have:=hn gO h;omega
   have:=Blk.set h1 1 (.slice A' (old.length+1) c')
   rw [List.length_append,List.length_singleton]
   exact this
 · exact hz.row (hx.row (hs.row r.kept fun b hb h=>by have:=hk b hb;omega) fun b hb h=>hapart b hb h) fun b hb h=>by have:=hk b hb;omega
 · rw [List.length_append,List.length_singleton,List.map_append]
   refine hz.row ho fun b hb h=>?_
   have:=(ho.lt b hb).1
   omega
structure Red3 (W0:World) (gO:Nat) (v1 v2:Value) (w:World) (A3:Option Addr) (c3:Nat) (rs:List Rul):Prop where
 off:Off (fun k=>k=gO) W0 w
 out:Blk w gO 26 #[v1,v2, .slice A3 rs.length c3, .int .i64 0]
 rules:∃ cs,w.ownsRow W0.heap.size 52 3 (.slice A3 rs.length c3) rs.length cs∧RulCs w (fun b=>W0.heap.size≤b∧(Value.slice A3 rs.length c3).ownBlock ≠ some b) cs rs
theorem Red3.below {W0:World} {gO:Nat} {v1 v2:Value} {w w':World} {A3:Option Addr} {c3:Nat} {rs:List Rul} (r:Red3 W0 gO v1 v2 w A3 c3 rs) (hb:Below w.heap.size w w'):Red3 W0 gO v1 v2 w' A3 c3 rs:=by
 obtain ⟨cs,h1,h2⟩:=r.rules
 exact ⟨r.off.trans (Off.of_below (S:=fun k=>k=gO) hb) fun _ _ h=>h,Blk.ext r.out hb,cs,own_keep h1 fun b _ hl=>hb.block b hl,h2.keep hb.size fun k hk ha=>⟨hb.block k hk,ha⟩⟩
theorem Red3.put {W0:World} {gO:Nat} {v1 v2:Value} {w w1:World} {A3:Option Addr} {c3:Nat} {rs:List Rul} (r:Red3 W0 gO v1 v2 w A3 c3 rs) (hO:gO < W0.heap.size) (q:Rul) {Ar:Option Addr} {cr:Nat}
 (hr:Ints .i64 w Ar q.right.length cr q.right) (ha:∀ b off,Ar=some ⟨b,off,none⟩→b < w.heap.size∧W0.heap.size≤b∧(Value.slice A3 rs.length c3).ownBlock ≠ some b) (A':Option Addr) (c':Nat)
 (ho:∀ cs,w.ownsRow W0.heap.size 52 3 (.slice A3 rs.length c3) rs.length cs→w1.ownsRow W0.heap.size 52 3 (.slice A' (rs.length+1) c') (rs.length+1) (cs++[.int .i64 q.left, .slice Ar q.right.length cr, .int .i64 q.prec]))
 (hg:w.grownBy w1 (Value.slice A3 rs.length c3).ownBlock) (hb:∀ b,(Value.slice A' (rs.length+1) c').ownBlock=some b→b < w.heap.size→(Value.slice A3 rs.length c3).ownBlock=some b) :
 Red3 W0 gO v1 v2 (w1.setCell ⟨gO,2,none⟩ (.slice A' (rs.length+1) c')) A' c' (rs++[q]):=by
 obtain ⟨cs,h1,h2⟩:=r.rules
 have hx:=Off.of_grown hg
 have hz:=Off.of_set w1 gO 2 (.slice A' (rs.length+1) c')
 have hk:∀ b,(Value.slice A3 rs.length c3).ownBlock=some b→W0.heap.size≤b:=fun b hb=>(h1.lt b hb).1
 have hown:=ho cs h1
 refine ⟨(r.off.trans hx fun k hk' h=>?_).trans hz fun k _ h=>h,?_,cs++[.int .i64 q.left, .slice Ar q.right.length cr, .int .i64 q.prec],?_,?_⟩
 · have:=hk k h;omega
 · have h3:=hx.blk r.out fun h=>by have:=hk gO h;omega
   have:=Blk.set h3 2 (.slice A' (rs.length+1) c')
   rw [List.length_append,List.length_singleton]
   exact this
 · rw [List.length_append,List.length_singleton]
   refine hz.row hown fun b hb h=>?_
   have:=(hown.lt b hb).1
   omega
 · rw [List.length_append,List.length_singleton]
   refine (h2.snoc q hr ha).keep (by have:=hx.size;have:=hz.size;omega) fun k hk' hav=>⟨(hz.keep k (Nat.lt_of_lt_of_le hk' hx.size) fun h=>by omega).trans (hx.keep k hk' hav.2),hav.1,fun e=>hav.2 (hb k e hk')⟩
def keepI (G:Gr) (i:Nat):Bool:=match G.rules[i]? with
 | some r=>keepB (prodN G) (reachN G) r
 | none=>false
def ksN (G:Gr) (j:Nat):List Nat:=(List.range j).filter (keepI G)
def keptT (G:Gr) (j:Nat):List Rul:=(G.rules.take j).filter (keepB (prodN G) (reachN G))
theorem ksN_yes {G:Gr} {j:Nat} {r:Rul} (hr:G.rules[j]? = some r) (h:keepB (prodN G) (reachN G) r=true):ksN G (j+1)=ksN G j++[j]∧keptT G (j+1)=keptT G j++[r]:=by
 have hk:keepI G j=true:=by unfold keepI;rw [hr];exact h
 constructor
 · unfold ksN
   rw [List.range_succ,List.filter_append]
   simp [hk]
 · unfold keptT
   rw [take_snoc' hr,List.filter_append]
   simp [h]
theorem ksN_no {G:Gr} {j:Nat} {r:Rul} (hr:G.rules[j]? = some r) (h:keepB (prodN G) (reachN G) r=false):ksN G (j+1)=ksN G j∧keptT G (j+1)=keptT G j:=by
 have hk:keepI G j=false:=by unfold keepI;rw [hr];exact h
 constructor
 · unfold ksN
   rw [List.range_succ,List.filter_append]
   simp [hk]
 · unfold keptT
   rw [take_snoc' hr,List.filter_append]
   simp [h]
theorem ks_rules (G:Gr):∀ j,j≤G.rules.length→(ksN G j).length=(keptT G j).length∧∀ q i:Nat,(ksN G j)[q]? = some i→∃ r,G.rules[i]? = some r∧(keptT G j)[q]? = some r
 | 0,_=>⟨rfl,fun q i h=>by simp [ksN] at h⟩
 | j+1,hj=>by
   obtain ⟨h1,h2⟩:=ks_rules G j (by omega)
   have hr:G.rules[j]? = some (G.rules[j]'(by omega)):=List.getElem?_eq_getElem _
   generalize G.rules[j]=r at hr
   cases hk:keepB (prodN G) (reachN G) r with
   | false =>
     obtain ⟨e1,e2⟩:=ksN_no hr hk
     rw [e1,e2]
     exact ⟨h1,h2⟩
   | true =>
     obtain ⟨e1,e2⟩:=ksN_yes hr hk
     rw [e1,e2]
     refine ⟨by simp [h1],fun q i hq=>?_⟩
     rcases Nat.lt_trichotomy q (ksN G j).length with hlt | heq | hgt
     · rw [List.getElem?_append_left hlt] at hq
       rw [List.getElem?_append_left (by omega)]
       exact h2 q i hq
     · subst heq
       rw [List.getElem?_append_right (Nat.le_refl _),Nat.sub_self] at hq
       have:j=i:=by simpa using hq
       subst this
       refine ⟨r,hr,?_⟩
       rw [h1,List.getElem?_append_right (Nat.le_refl _),Nat.sub_self]
       rfl
     · rw [List.getElem?_eq_none (by simp;omega)] at hq
       cases hq
theorem keptT_all (G:Gr):keptT G G.rules.length=keptR G:=by unfold keptT keptR;rw [List.take_length]
theorem ks_lt {G:Gr} {j i:Nat} (h:i ∈ ksN G j):i < j:=by
 unfold ksN at h
 exact List.mem_range.1 (List.mem_filter.1 h).1
theorem ks_len (G:Gr) (j:Nat):(ksN G j).length≤j:=Nat.le_trans (List.length_filter_le _ _) (by simp)
theorem oldT_len (G:Gr) (hG:G.Fits) (j:Nat):(oldOf (keptT G j)).length≤G.nons.length:=by
 refine nodup_le _ _ (oldOf_nodup _) fun i hi=>?_
 obtain ⟨r,hr,rfl⟩:=oldOf_mem.1 hi
 have:=hG.left r (List.mem_of_mem_take (List.mem_filter.1 hr).1)
 omega
section
variable {P:Program} {w:World}
theorem run_append_nilS (base size:Nat) (t ty e:TypeId) (i:TypeInfo) (ht:P.underlying t=some (.slice e)) (hi:P.info? e=some i)
 (A:Option Addr) (n c:Nat) (xs:List Value) (hown:w.ownsRow base e size (.slice A n c) n xs) (c2:Nat) :
 (Builtin.append_ #[t,t] ty #[.slice A n c, .slice none 0 c2]).run P w = .ok (.slice A n c) w:=by
 rcases hown.2 with ⟨hv,rfl⟩ | ⟨g,cap,cur,hv,_,_,hnc,_⟩
 · rw [hv]
   simp [Builtin.append_,run_underlying ht,sizeOf,typeInfo,hi,Builtin.lenOf,Builtin.firstCells]
 · rw [hv]
   simp [Builtin.append_,run_underlying ht,sizeOf,typeInfo,hi,Builtin.lenOf,Builtin.firstCells,hnc,storeCells]
theorem wpl_appendN {ops:Array Oper} {rest:List Oper} {o:Oper} {a:Act} {Q:Exit→Act→World→Prop} (hgd:o.guard=none) (s x:Operand) (t:TypeId)
 (ho:o.op = .call { callee := .builtin .append,args:=#[s,x],argTypes:=#[t,t] })
 (base:Nat) (e:TypeId) (z:Value) (size bytes:Nat) (ht:P.underlying t=some (.slice e))
 (hi:(P.info? e).map (fun i=>(i.zero,i.size,i.bytes))=some (some z,size,bytes)) (hz1:z.cells.size=size) (hsz0:0 < size)
 (A:Option Addr) (n c:Nat) (xs:List Value) (hs:a.eval s = .slice A n c) (hown:w.ownsRow base e size (.slice A n c) n xs)
 (A2:Option Addr) (m c2:Nat) (news:List Value) (hl:news.length=m * size) (hx:a.eval x = .slice A2 m c2) (h0:A2=none→m=0)
 (hcells:∀ ad,A2=some ad→∀ j u,news[j]? = some u→w.cell? (ad.add j)=some u) (h1:∀ u ∈ news,u.oneCell'=true)
 (h63:n+m≤9223372036854775807) (hbytes:(n+m) * bytes≤140737488355328) (hbase:base≤w.heap.size)
 (h:∀ A' c' w',w'.ownsRow base e size (.slice A' (n+m) c') (n+m) (xs++news)→w.grownBy w' (Value.slice A n c).ownBlock→(∀ b,(Value.slice A' (n+m) c').ownBlock=some b→b < w.heap.size→(Value.slice A n c).ownBlock=some b) →
   wpList P ops Q rest (a.put o.dst (.slice A' (n+m) c')) w'):wpList P ops Q (o::rest) a w:=by
 rcases A2 with _ | ad
 · obtain rfl:=h0 rfl
   have hn:news=[]:=List.eq_nil_of_length_eq_zero (by omega)
   subst hn
   obtain ⟨i,hi',hz,hsz,hby⟩:=info_parts hi
   have hrun:=run_append_nilS (P:=P) base size t o.type e i ht hi' A n c xs hown c2
   refine wpList_plain hgd fun K hK=>?_
   unfold Oper.wp execOp
   simp only [ho,resolve,invoke,builtin,Sem.run_bind,Sem.run_pure,Result.andThen_ok,List.map_toArray,List.map_cons,List.map_nil,hs,hx,hrun]
   exact hK _ _ (h A c w (by simpa using hown) (World.grownBy.refl _ _) fun b hb _=>hb)
 · exact wpl_appendM hgd s x t ho base e z size bytes ht hi hz1 hsz0 A n c xs hs hown ad m c2 news hl hx (hcells ad rfl) h1 h63 hbytes hbase h
end
theorem trms_cells {w:World} {A:Option Addr} {n c:Nat} {ts:List Trm} (h:Trms w A n c ts):(A=none→n=0)∧∀ ad,A=some ad→∀ j u,(trmCs ts)[j]? = some u→w.cell? (ad.add j)=some u:=by
 constructor
 · intro h0
   rcases Nat.eq_zero_or_pos n with h1 | h1
   · exact h1
   · obtain ⟨b,off,he,_⟩:=h.2.2.2 h1
     rw [h0] at he;cases he
 · intro ad ha j u hu
   have hl:=(List.getElem?_eq_some_iff.1 hu).1
   rw [trmCs_len,h.1] at hl
   obtain ⟨b,off,he,_,hc⟩:=h.2.2.2 (by omega)
   rw [ha] at he
   injection he with he
   subst he
   have hq:ts[j / 3]? = some (ts[j / 3]'(by rw [h.1];omega)):=List.getElem?_eq_getElem _
   obtain ⟨c0,c1,c2⟩:=hc _ _ hq
   obtain ⟨d0,d1,d2⟩:=trmCs_at hq
   have hadd:(⟨b,off,none⟩:Addr).add j=⟨b,off+j,none⟩:=by
    unfold Addr.add
    split
    · rename_i h0;subst h0;rfl
    · rfl
   rw [hadd]
   rcases (by omega:j=j / 3 * 3+0∨j=j / 3 * 3+1∨j=j / 3 * 3+2) with e | e | e
   · rw [e] at hu
     rw [d0] at hu
     rw [← Option.some.inj hu,← c0]
     congr 2
     omega
   · rw [e] at hu
     rw [d1] at hu
     rw [← Option.some.inj hu,← c1]
     congr 2
     omega
   · rw [e] at hu
     rw [d2] at hu
     rw [← Option.some.inj hu,← c2]
     congr 2
     omega
theorem trmCs_one (ts:List Trm):∀ u ∈ trmCs ts,u.oneCell'=true:=by
 intro u hu
 unfold trmCs at hu
 rw [List.mem_flatMap] at hu
 obtain ⟨t,_,ht⟩:=hu
 simp only [List.mem_cons,List.not_mem_nil,or_false] at ht
 rcases ht with rfl | rfl | rfl <;> rfl
theorem nums_zeros (n:Nat):nums .i64 (List.replicate n 0)=ints .i64 (List.replicate n 0):=by simp [nums,ints]
theorem make_intsT (n:Nat) (hn:n≤1000) (w:World) :
 (Instr.makeSlice 27 (.int .i64 (n:Int)) (.int .i64 (n:Int))).run Tryz.prog w = .ok (.slice (some ⟨w.heap.size,0,none⟩) n n) (w.alloc (.cells (ints .i64 (List.replicate n 0)).toArray 3)):=by
 rw [← nums_zeros]
 exact run_make_nums (P:=Tryz.prog) 27 3 .i64 8 Tryz.underlying27 Tryz.infoInt n (by omega) (by omega) w
def fillL (n j:Nat):List Int:=List.replicate j (-1)++List.replicate (n - j) 0
theorem fill_step {n j:Nat} (hj:j < n):(fillL n j).set j (-1)=fillL n (j+1):=by
 unfold fillL
 rw [List.set_append_right _ _ (by simp),List.length_replicate,Nat.sub_self]
 obtain ⟨d,hd⟩:∃ d,n - j=d+1:=⟨n - j - 1,by omega⟩
 rw [hd,List.replicate_succ,List.set_cons_zero,show n - (j+1)=d by omega,List.replicate_succ',List.append_assoc]
 rfl
theorem fill_end (n:Nat):fillL n n=List.replicate n (-1):=by simp [fillL]
theorem fill_start (n:Nat):fillL n 0=List.replicate n 0:=by simp [fillL]
theorem fill_len {n j:Nat} (hj:j≤n):(fillL n j).length=n:=by simp [fillL];omega
end Go.Proofs.YtggbjdmpjidhgaaGreatDoor
