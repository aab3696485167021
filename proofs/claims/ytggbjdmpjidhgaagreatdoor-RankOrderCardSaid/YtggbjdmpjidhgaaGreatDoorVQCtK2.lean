/- counts: a table of values that is being made: its rows lie in blocks of their own; append of a row. -/
import Derived.Test.YtggbjdmpjidhgaaGreatDoorVQCtM1
set_option linter.unusedVariables false
set_option linter.unusedSimpArgs false
set_option maxHeartbeats 8000000
set_option maxRecDepth 100000
namespace Go.Proofs.YtggbjdmpjidhgaaGreatDoor
open Go.RowKit
section
variable {P:Program}
theorem NoInt.same {w w':World} {g:Nat} (h:NoInt w g) (c:w'.heap[g]? = w.heap[g]?):NoInt w' g:=fun o k z b=>h o k z ((World.cell?_of_block (a:=⟨g,o,none⟩) c).symm.trans b)
end
structure TabO (w:World) (B:Nat) (A:Option Addr) (n c N:Nat) (gs:List Nat) (tab:Nat→Nat→Nat):Prop where
 own:w.ownsRow B 89 1 (.slice A n c) n (gs.map fun g=>Value.slice (some ⟨g,0,none⟩) N N)
 noInt:∀ g,(Value.slice A n c).ownBlock=some g→NoInt w g
 nodup:gs.Nodup
 row:∀ (m g:Nat),gs[m]? = some g→B≤g∧VRow w g 46 ((List.range N).map (tab m))
theorem TabO.len {w:World} {B:Nat} {A:Option Addr} {n c N:Nat} {a:List Nat} {tab:Nat→Nat→Nat} (h:TabO w B A n c N a tab):a.length=n:=by
 have:=h.own.1
 simpa using this
theorem TabO.start (w:World) (B N:Nat) (tab:Nat→Nat→Nat):TabO w B none 0 0 N [] tab:=⟨World.ownsRow_nil _ _ _ _,fun g h=>(by cases h),List.nodup_nil,fun m g h=>by simp at h⟩
theorem TabO.tab {w:World} {B:Nat} {A:Option Addr} {n c N:Nat} {a:List Nat} {tab:Nat→Nat→Nat} (h:TabO w B A n c N a tab):TabM w A n c N tab:=by
 have d:=own_sl h.own
 have l:=h.len
 refine ⟨d.2.1,d.2.2.1,fun p=>?_⟩
 obtain ⟨b,k,e,g,j⟩:=d.2.2.2 (by simp;omega)
 refine ⟨b,k,e,g,fun m o=>?_⟩
 have f:a[m]? = some (a[m]'(by omega)):=List.getElem?_eq_getElem (by omega)
 refine ⟨_,?_,(h.row m _ f).2⟩
 rw [j m (by simp;omega),List.getElem?_map,f]
 rfl
theorem TabO.below {w w':World} {B:Nat} {A:Option Addr} {n c N:Nat} {d:List Nat} {tab:Nat→Nat→Nat} (h:TabO w B A n c N d tab) (b:Below w.heap.size w w'):TabO w' B A n c N d tab :=
 ⟨own_below h.own b,fun g a=>(h.noInt g a).same (b.block g (h.own.lt g a).2),h.nodup,fun m g a=>⟨(h.row m g a).1,(h.row m g a).2.below b⟩⟩
theorem TabO.off {S:Nat→Prop} {w w':World} {B:Nat} {A:Option Addr} {n c N:Nat} {d:List Nat} {tab:Nat→Nat→Nat} (h:TabO w B A n c N d tab) (f:Off S w w') (h1:∀ b,(Value.slice A n c).ownBlock=some b→¬ S b) (j:∀ g ∈ d,¬ S g) (k:IntKeep w w'):TabO w' B A n c N d tab :=
 ⟨f.row h.own h1,fun g a=>(h.noInt g a).same (f.keep g (h.own.lt g a).2 (h1 g a)),h.nodup,fun m g a=>⟨(h.row m g a).1,(h.row m g a).2.kept k (f.keep g (h.row m g a).2.lt (j g (List.mem_of_getElem? a)))⟩⟩
end Go.Proofs.YtggbjdmpjidhgaaGreatDoor
