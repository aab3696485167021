/- counts: a table of values that is being made: its rows lie in blocks of their own; append of a row. -/
import Derived.Test.YtggbjdmpjidhgaaGreatDoorQCtR3
set_option linter.unusedVariables false
set_option linter.unusedSimpArgs false
set_option maxHeartbeats 8000000
set_option maxRecDepth 100000
namespace Go.Proofs.YtggbjdmpjidhgaaGreatDoor
open Go.RowKit
section
variable {P:Program}
theorem noInt_cells {w:World} {g:Nat} {cs:Array Value} {e:TypeId} {fr:Nat × Nat} (hg:w.heap[g]? = some (.cells cs e fr)) (h:∀ u ∈ cs.toList,∀ k z,u ≠ Value.int k z):NoInt w g:=by
 intro o k z hc
 rw [cell_of_row w g o cs e fr hg] at hc
 have hm:Value.int k z ∈ cs.toList:=by
  refine List.mem_of_getElem? (i:=o) ?_
  simpa using hc
 exact h _ hm k z rfl
theorem noInt_mem {w:World} {g:Nat} {cs:Array Value} {e:TypeId} {fr:Nat × Nat} (hg:w.heap[g]? = some (.cells cs e fr)) (h:NoInt w g):∀ u ∈ cs.toList,∀ k z,u ≠ Value.int k z:=by
 intro u hu k z he
 subst he
 obtain ⟨o,ho⟩:=List.getElem?_of_mem hu
 refine h o k z ?_
 rw [cell_of_row w g o cs e fr hg]
 simpa using ho
theorem NoInt.same {w w':World} {g:Nat} (h:NoInt w g) (hs:w'.heap[g]? = w.heap[g]?):NoInt w' g:=fun o k z hc=>h o k z ((World.cell?_of_block (a:=⟨g,o,none⟩) hs).symm.trans hc)
theorem zero_noInt {z:Value} (hz:∀ u ∈ z.cells.toList,∀ k x,u ≠ Value.int k x) (q:Nat):∀ u ∈ (Builtin.zeroCells z.cells q).toList,∀ k x,u ≠ Value.int k x:=by
 intro u hu k x he
 subst he
 unfold Builtin.zeroCells at hu
 simp only [Array.toList_map,List.mem_map,Array.toList_range,List.mem_range] at hu
 obtain ⟨i,hi,he⟩:=hu
 have hs:0 < z.cells.size:=by
  rcases Nat.eq_zero_or_pos z.cells.size with h | h
  · rw [h] at hi;omega
  · exact h
 have hlt:=Nat.mod_lt i hs
 rw [getElem!_pos z.cells (i % z.cells.size) hlt] at he
 exact hz _ (by simp) k x he
theorem append_noInt (w:World) (base:Nat) (t ty e:TypeId) (i:TypeInfo) (z:Value) (ht:P.underlying t=some (.slice e)) (hi:P.info? e=some i) (hz:i.zero=some z)
 (A:Option Addr) (n c:Nat) (xs:List Value) (hown:w.ownsRow base e i.size (.slice A n c) n xs)
 (a:Addr) (m c2:Nat) (hm:0 < m) (news:List Value) (hl:news.length=m * i.size) (hnews:∀ j u,news[j]? = some u→w.cell? (a.add j)=some u) (h1:∀ u ∈ news,u.oneCell'=true)
 (h63:n+m≤9223372036854775807) (hbytes:(n+m) * i.bytes≤140737488355328)
 (hno:∀ g,(Value.slice A n c).ownBlock=some g→NoInt w g) (hn2:∀ u ∈ news,∀ k x,u ≠ Value.int k x) (hx2:∀ u ∈ xs,∀ k x,u ≠ Value.int k x) (hz2:∀ u ∈ z.cells.toList,∀ k x,u ≠ Value.int k x)
 {v':Value} {w':World} (hr:(Builtin.append_ #[t,t] ty #[.slice A n c, .slice (some a) m c2]).run P w = .ok v' w'):∀ g,v'.ownBlock=some g→NoInt w' g:=by
 rcases hown.2 with ⟨hv,hn0⟩ | ⟨g,cap,cur,hv,hbg,hg,hnc,hcm,hcs,htake⟩
 · injection hv with e1 e2 e3
   subst e1 e2 e3
   have hq:=run_append_nil (P:=P) w t ty e i z ht hi hz a m c2 news hl hnews hm (by omega) (by have hb:=hbytes;simp only [Nat.zero_add] at hb;omega)
   rw [hq] at hr
   injection hr with r1 r2
   subst r1 r2
   intro g hg
   have:w.heap.size=g:=by simpa [Value.ownBlock] using hg
   subst this
   refine noInt_cells (heap_alloc_new w.drew _) fun u hu=>?_
   rw [Array.toList_append,List.mem_append] at hu
   rcases hu with hu | hu
   · exact hn2 u (by simpa using hu)
   · exact zero_noInt hz2 _ u hu
 · injection hv with e1 e2 e3
   subst e1 e3
   by_cases hroom:n+m≤c
   · have hfit:n * i.size+news.length≤cur.size:=by rw [hl,hcs,← Nat.add_mul];exact Nat.mul_le_mul_right _ hroom
     have hq:=run_append_room (P:=P) w t ty e i ht hi g n c cur hg a m c2 news hl hnews h1 hroom hfit
     rw [hq] at hr
     injection hr with r1 r2
     subst r1 r2
     intro b hb
     have:g=b:=by simpa [Value.ownBlock] using hb
     subst this
     have hcur:=noInt_mem hg (hno g rfl)
     refine noInt_cells (setRow_heap w g cur _ e _ hg) fun u hu=>?_
     rw [List.toList_toArray,List.mem_append,List.mem_append] at hu
     rcases hu with (hu | hu) | hu
     · exact hcur u (List.mem_of_mem_take hu)
     · exact hn2 u hu
     · exact hcur u (List.mem_of_mem_drop hu)
   · have holds:∀ j u,xs[j]? = some u→w.cell? ((⟨g,0,none⟩:Addr).add j)=some u:=hown.cells (g:=g) rfl
     have hq:=run_append_grow (P:=P) w t ty e i z ht hi hz ⟨g,0,none⟩ n c xs hown.1 holds a m c2 news hl hnews (by omega) (by omega) (growslice_fits (by omega) hbytes)
     rw [hq] at hr
     injection hr with r1 r2
     subst r1 r2
     intro b hb
     have:w.heap.size=b:=by simpa [Value.ownBlock] using hb
     subst this
     refine noInt_cells (heap_alloc_new w.drew _) fun u hu=>?_
     rw [Array.toList_append,Array.toList_append,List.mem_append,List.mem_append] at hu
     rcases hu with (hu | hu) | hu
     · exact hx2 u (by simpa using hu)
     · exact hn2 u (by simpa using hu)
     · exact zero_noInt hz2 _ u hu
theorem wpl_appendV {w:World} {ops:Array Oper} {rest:List Oper} {o:Oper} {a:Act} {Q:Exit→Act→World→Prop} (hgd:o.guard=none) (s x:Operand) (t:TypeId)
 (ho:o.op = .call { callee := .builtin .append,args:=#[s,x],argTypes:=#[t,t] })
 (base:Nat) (e:TypeId) (z:Value) (bytes:Nat) (ht:P.underlying t=some (.slice e))
 (hi:(P.info? e).map (fun i=>(i.zero,i.size,i.bytes))=some (some z,1,bytes)) (hz1:z.cells.size=1) (hz2:∀ u ∈ z.cells.toList,∀ k x,u ≠ Value.int k x)
 (A:Option Addr) (n c:Nat) (xs:List Value) (hs:a.eval s = .slice A n c) (hown:w.ownsRow base e 1 (.slice A n c) n xs)
 (hno:∀ g,(Value.slice A n c).ownBlock=some g→NoInt w g) (hx2:∀ u ∈ xs,∀ k x,u ≠ Value.int k x)
 (ad:Addr) (c2:Nat) (u:Value) (hx:a.eval x = .slice (some ad) 1 c2) (hcell:w.cell? ad=some u) (h1:u.oneCell'=true) (hu:∀ k x,u ≠ Value.int k x)
 (h63:n+1≤9223372036854775807) (hbytes:(n+1) * bytes≤140737488355328) (hbase:base≤w.heap.size)
 (h:∀ A' c' w',w'.ownsRow base e 1 (.slice A' (n+1) c') (n+1) (xs++[u])→w.grownBy w' (Value.slice A n c).ownBlock→(∀ b,(Value.slice A' (n+1) c').ownBlock=some b→b < w.heap.size→(Value.slice A n c).ownBlock=some b) →
   (∀ b,(Value.slice A' (n+1) c').ownBlock=some b→NoInt w' b)→wpList P ops Q rest (a.put o.dst (.slice A' (n+1) c')) w'):wpList P ops Q (o::rest) a w:=by
 obtain ⟨i,hi',hz,hsz,hby⟩:=info_parts hi
 have hcells:∀ j v,[u][j]? = some v→w.cell? (ad.add j)=some v:=by
  intro j v hv
  have hj:j=0:=by have:=(List.getElem?_eq_some_iff.1 hv).1;simp at this;omega
  subst hj
  obtain rfl:u=v:=by simpa using hv
  have e1:ad.add 0=ad:=by unfold Addr.add;simp
  rw [e1];exact hcell
 have h1':∀ v ∈ [u],v.oneCell'=true:=fun v hv=>by rw [List.mem_singleton.1 hv];exact h1
 obtain ⟨v',w',hrun,h3,h4,_,h5⟩:=run_append_own_at (P:=P) w base t o.type e i z 1 bytes ht hi' hz hsz hby hz1 (by decide) _ n xs hown ad 1 c2 [u] rfl hcells h1' (by simpa [maxLen] using h63) hbytes hbase
 have h6:=append_noInt (P:=P) w base t o.type e i z ht hi' hz A n c xs (by rw [hsz];exact hown) ad 1 c2 (by decide) [u] (by rw [hsz];rfl) hcells h1' h63 (by rw [hby];exact hbytes) hno (fun v hv=>by rw [List.mem_singleton.1 hv];exact hu) hx2 hz2 hrun
 obtain ⟨A',c',rfl⟩:=own_form h3
 have h5':∀ b,(Value.slice A' (n+1) c').ownBlock=some b→b < w.heap.size→(Value.slice A n c).ownBlock=some b:=by
  intro b hb hlt
  rcases h5 with h5 | h5
  · rw [← h5];exact hb
  · rw [h5] at hb;injection hb with hb;omega
 refine wpList_plain hgd fun K hK=>?_
 unfold Oper.wp execOp
 simp only [ho,resolve,invoke,builtin,Sem.run_bind,Sem.run_pure,Result.andThen_ok,List.map_toArray,List.map_cons,List.map_nil,hs,hx,hrun]
 exact hK _ _ (h A' c' w' h3 h4 h5' h6)
end
structure TabO (w:World) (B:Nat) (A:Option Addr) (n c N:Nat) (gs:List Nat) (tab:Nat→Nat→Nat):Prop where
 own:w.ownsRow B 89 1 (.slice A n c) n (gs.map fun g=>Value.slice (some ⟨g,0,none⟩) N N)
 noInt:∀ g,(Value.slice A n c).ownBlock=some g→NoInt w g
 nodup:gs.Nodup
 row:∀ (m g:Nat),gs[m]? = some g→B≤g∧VRow w g 46 ((List.range N).map (tab m))
theorem TabO.len {w:World} {B:Nat} {A:Option Addr} {n c N:Nat} {gs:List Nat} {tab:Nat→Nat→Nat} (h:TabO w B A n c N gs tab):gs.length=n:=by
 have:=h.own.1
 simpa using this
theorem TabO.start (w:World) (B N:Nat) (tab:Nat→Nat→Nat):TabO w B none 0 0 N [] tab:=⟨World.ownsRow_nil _ _ _ _,fun g h=>(by cases h),List.nodup_nil,fun m g h=>by simp at h⟩
theorem TabO.tab {w:World} {B:Nat} {A:Option Addr} {n c N:Nat} {gs:List Nat} {tab:Nat→Nat→Nat} (h:TabO w B A n c N gs tab):TabM w A n c N tab:=by
 have hs:=own_sl h.own
 have hl:=h.len
 refine ⟨hs.2.1,hs.2.2.1,fun hn=>?_⟩
 obtain ⟨b,off,e,hb,hc⟩:=hs.2.2.2 (by simp;omega)
 refine ⟨b,off,e,hb,fun m hm=>?_⟩
 have hg:gs[m]? = some (gs[m]'(by omega)):=List.getElem?_eq_getElem (by omega)
 refine ⟨_,?_,(h.row m _ hg).2⟩
 rw [hc m (by simp;omega),List.getElem?_map,hg]
 rfl
theorem TabO.below {w w':World} {B:Nat} {A:Option Addr} {n c N:Nat} {gs:List Nat} {tab:Nat→Nat→Nat} (h:TabO w B A n c N gs tab) (hb:Below w.heap.size w w'):TabO w' B A n c N gs tab :=
 ⟨own_below h.own hb,fun g hg=>(h.noInt g hg).same (hb.block g (h.own.lt g hg).2),h.nodup,fun m g hg=>⟨(h.row m g hg).1,(h.row m g hg).2.below hb⟩⟩
theorem TabO.off {S:Nat→Prop} {w w':World} {B:Nat} {A:Option Addr} {n c N:Nat} {gs:List Nat} {tab:Nat→Nat→Nat} (h:TabO w B A n c N gs tab) (ho:Off S w w') (h1:∀ b,(Value.slice A n c).ownBlock=some b→¬ S b) (h2:∀ g ∈ gs,¬ S g) (hk:IntKeep w w'):TabO w' B A n c N gs tab :=
 ⟨ho.row h.own h1,fun g hg=>(h.noInt g hg).same (ho.keep g (h.own.lt g hg).2 (h1 g hg)),h.nodup,fun m g hg=>⟨(h.row m g hg).1,(h.row m g hg).2.kept hk (ho.keep g (h.row m g hg).2.lt (h2 g (List.mem_of_getElem? hg)))⟩⟩
theorem TabO.apart {w:World} {B:Nat} {A:Option Addr} {n c N:Nat} {gs:List Nat} {tab:Nat→Nat→Nat} (h:TabO w B A n c N gs tab) {m g:Nat} (hg:gs[m]? = some g):(Value.slice A n c).ownBlock ≠ some g:=by
 intro hb
 obtain ⟨cs,fr,h1⟩:=own_typed h.own hb
 obtain ⟨cs2,h2,_⟩:=(h.row m g hg).2
 unfold Blk at h2
 rw [h1] at h2
 injection h2 with h2
 injection h2 with _ h3 _
 exact absurd h3 (by decide)
theorem tab_set {tab:Nat→Nat→Nat} {N m i x:Nat} (hi:i < N):((List.range N).map (tab m)).set i x=(List.range N).map (putTab tab m i x m):=by
 refine List.ext_getElem? fun j=>?_
 rw [List.getElem?_set,List.length_map,List.length_range,List.getElem?_map,List.getElem?_map]
 by_cases hj:j < N
 · rw [List.getElem?_range hj]
   by_cases hij:i=j
   · subst hij
     rw [if_pos rfl,if_pos hi]
     simp [putTab]
   · rw [if_neg hij]
     show some (tab m j)=some (putTab tab m i x m j)
     unfold putTab
     rw [if_neg fun h=>hij h.2.symm]
 · rw [List.getElem?_eq_none (by simpa using hj),if_neg (by omega)]
   rfl
theorem nodup_ne {gs:List Nat} (h:gs.Nodup) {m m' g g':Nat} (hg:gs[m]? = some g) (hg':gs[m']? = some g') (hm:m' ≠ m):g' ≠ g:=by
 rintro rfl
 obtain ⟨l1,e1⟩:=List.getElem?_eq_some_iff.1 hg
 obtain ⟨l2,e2⟩:=List.getElem?_eq_some_iff.1 hg'
 have hp:=List.pairwise_iff_getElem.1 h
 rcases (by omega:m < m'∨m' < m) with hlt | hlt
 · exact hp m m' l1 l2 hlt (e1.trans e2.symm)
 · exact hp m' m l2 l1 hlt (e2.trans e1.symm)
theorem TabO.put {w:World} {B:Nat} {A:Option Addr} {n c N:Nat} {gs:List Nat} {tab:Nat→Nat→Nat} (h:TabO w B A n c N gs tab) {m g i:Nat} (hg:gs[m]? = some g) (hi:i < N) {A1:Option Addr} {n1 c1:Nat} {b1:Bool} {x:Nat} (hv:ValN w A1 n1 c1 b1 x) :
 TabO ((w.setCell ⟨g,i * 2,none⟩ (.slice A1 n1 c1)).setCell ⟨g,i * 2+1,none⟩ (.bool b1)) B A n c N gs (putTab tab m i x)∧Off (fun k=>k=g) w ((w.setCell ⟨g,i * 2,none⟩ (.slice A1 n1 c1)).setCell ⟨g,i * 2+1,none⟩ (.bool b1)):=by
 have ho:Off (fun k=>k=g) w ((w.setCell ⟨g,i * 2,none⟩ (.slice A1 n1 c1)).setCell ⟨g,i * 2+1,none⟩ (.bool b1)):=(Off.of_set w g (i * 2) (.slice A1 n1 c1)).trans (Off.of_set _ g (i * 2+1) (.bool b1)) fun _ _ h=>h
 have hap:=h.apart hg
 obtain ⟨hB,hrow⟩:=h.row m g hg
 obtain ⟨hrow',hk⟩:=hrow.put (j:=i) (by simpa using hi) hv
 have h1:∀ b,(Value.slice A n c).ownBlock=some b→¬ b=g:=fun b hb e=>hap (by rw [hb,e])
 refine ⟨⟨ho.row h.own h1,fun q hq=>(h.noInt q hq).same (ho.keep q (h.own.lt q hq).2 (h1 q hq)),h.nodup,fun m' g' hg'=>?_⟩,ho⟩
 by_cases hm:m'=m
 · subst hm
   obtain rfl:g=g':=by rw [hg] at hg';exact Option.some.inj hg'
   exact ⟨hB,by rw [← tab_set hi];exact hrow'⟩
 · have hne:g' ≠ g:=nodup_ne h.nodup hg hg' hm
   obtain ⟨hB',hrow2⟩:=h.row m' g' hg'
   have e:(List.range N).map (putTab tab m i x m')=(List.range N).map (tab m'):=List.map_congr_left fun j _=>by unfold putTab;rw [if_neg fun hh=>hm hh.1]
   rw [e]
   exact ⟨hB',hrow2.kept hk (ho.keep g' hrow2.lt hne)⟩
theorem TabO.snoc {w w':World} {B:Nat} {A A':Option Addr} {n c c' N:Nat} {gs:List Nat} {tab:Nat→Nat→Nat} (h:TabO w B A n c N gs tab) {g:Nat}
 (ho:w'.ownsRow B 89 1 (.slice A' (n+1) c') (n+1) ((gs.map fun g=>Value.slice (some ⟨g,0,none⟩) N N)++[Value.slice (some ⟨g,0,none⟩) N N]))
 (hg:w.grownBy w' (Value.slice A n c).ownBlock) (hno:∀ b,(Value.slice A' (n+1) c').ownBlock=some b→NoInt w' b)
 (hrow:VRow w g 46 ((List.range N).map (tab n))) (hB:B≤g) (hne:g ∉ gs):TabO w' B A' (n+1) c' N (gs++[g]) tab:=by
 have hoff:=Off.of_grown hg
 have hk:IntKeep w w':=IntKeep.of_off hoff fun q hq=>h.noInt q hq
 have hl:=h.len
 refine ⟨by rw [List.map_append];exact ho,hno,?_,fun m q hq=>?_⟩
 · rw [List.nodup_append]
   exact ⟨h.nodup,by simp,fun a ha b hb e=>hne (by rw [← List.mem_singleton.1 hb,← e];exact ha)⟩
 · rcases snoc_cases hq with ⟨hm,hq⟩ | ⟨rfl,rfl⟩
   · obtain ⟨h1,h2⟩:=h.row m q hq
     exact ⟨h1,h2.kept hk (hoff.keep q h2.lt fun e=>h.apart hq e)⟩
   · refine ⟨hB,?_⟩
     rw [hl]
     refine hrow.kept hk (hoff.keep g hrow.lt fun e=>?_)
     obtain ⟨cs,fr,h1⟩:=own_typed h.own e
     obtain ⟨cs2,h2,_⟩:=hrow
     unfold Blk at h2
     rw [h1] at h2
     injection h2 with h2
     injection h2 with _ h3 _
     exact absurd h3 (by decide)
end Go.Proofs.YtggbjdmpjidhgaaGreatDoor
