/- A region that draws its order: what its operations have laid stays; each operation is shown once, with what it hangs on; a last one may write. -/
import Derived.Test.YtggbjdmpjidhgaaGreatDoorQCyW9
set_option linter.unusedVariables false
set_option linter.unusedSimpArgs false
set_option maxHeartbeats 8000000
set_option maxRecDepth 100000
namespace Go.Proofs.YtggbjdmpjidhgaaGreatDoor
open Go.RowKit
section
variable {P:Program} {M:World→Prop} {R:World→World→Prop}
def upd (u:Nat→Value) (i:Nat) (v:Value):Nat→Value:=fun j=>if j=i then v else u j
def onB (o:Oper) (p:Nat):Bool:=o.after.toList.any fun e=>Region.binds .any e && decide (e.on=p)
def ancF (l:List Oper):Nat→Nat→Nat→Bool
 | 0,_,_=>false
 | f+1,j,i=>match l[j]? with
   | none=>false
   | some o=>o.after.any fun e=>Region.binds .any e && (decide (e.on=i) || ancF l f e.on i)
def tailsB (l:List Oper) (n:Nat):Bool:=decide (n=l.length) || (List.range n).all fun i=>ancF l l.length n i
def StepsF (P:Program) (M:World→Prop) (R:World→World→Prop) (F:(Nat→Value)→Act) (D:Nat→Value→World→Prop):Nat→List Oper→Prop
 | _,[]=>True
 | i,o::rest=>(o.guard=none∧(∀ u v,(F u).put o.dst v=F (upd u i v))∧∀ (Q:Exit→Act→World→Prop) (u:Nat→Value) (X:World),M X→(∀ p,onB o p=true→D p (u p) X) →
    ∀ K:Act→World→Prop,(∀ v X',M X'→R X X'→D i v X'→K ((F u).put o.dst v) X')→o.wp P (F u) X K Q)∧StepsF P M R F D (i+1) rest
theorem StepsF.nil {F:(Nat→Value)→Act} {D:Nat→Value→World→Prop} {i:Nat}:StepsF P M R F D i []:=trivial
theorem StepsF.cons {F:(Nat→Value)→Act} {D:Nat→Value→World→Prop} {i:Nat} {o:Oper} {rest:List Oper} (hg:o.guard=none) (hp:∀ u v,(F u).put o.dst v=F (upd u i v))
 (h:∀ (Q:Exit→Act→World→Prop) (u:Nat→Value) (X:World),M X→(∀ p,onB o p=true→D p (u p) X)→∀ K:Act→World→Prop,(∀ v X',M X'→R X X'→D i v X'→K ((F u).put o.dst v) X')→o.wp P (F u) X K Q)
 (t:StepsF P M R F D (i+1) rest):StepsF P M R F D i (o::rest):=⟨⟨hg,hp,h⟩,t⟩
def JF (l:List Oper) (n:Nat) (M:World→Prop) (F:(Nat→Value)→Act) (D:Nat→Value→World→Prop) (fin:(Nat→Value)→World→Prop) (listed:Array Bool) (a:Act) (X:World):Prop :=
 ∃ u,a=F u∧listed.size=l.length∧(∀ i o,l[i]? = some o→listed.getD i false=true→∀ p,onB o p=true→listed.getD p false=true) ∧
   (∀ i,i ≠ n→listed.getD i false=true→listed.getD n false=false→D i (u i) X)∧(listed.getD n false=false→M X)∧(listed.getD n false=true→fin u X)
theorem getD_one {listed:Array Bool} {i j:Nat} (hi:i < listed.size):(listed.setIfInBounds i true).getD j false=if j=i then true else listed.getD j false:=by
 by_cases h:j=i
 · subst h;rw [if_pos rfl];simp [Array.getD,hi]
 · rw [if_neg h,Array.getD_eq_getD_getElem?,Array.getD_eq_getD_getElem?,Array.getElem?_setIfInBounds_ne (Ne.symm h)]
theorem getD_tt {listed:Array Bool} {i:Nat} (h:listed.getD i true=false):i < listed.size∧listed.getD i false=false:=by
 simp only [Array.getD] at h ⊢
 split at h
 · rename_i hi;exact ⟨hi,by rw [dif_pos hi];exact h⟩
 · cases h
theorem onB_iff {o:Oper} {p:Nat}:onB o p=true ↔ ∃ e ∈ o.after,Region.binds .any e=true∧e.on=p:=by
 unfold onB
 rw [List.any_eq_true]
 constructor
 · rintro ⟨e,he,h⟩
   rw [Bool.and_eq_true,decide_eq_true_iff] at h
   exact ⟨e,Array.mem_def.2 he,h⟩
 · rintro ⟨e,he,h⟩
   exact ⟨e,Array.mem_def.1 he,by rw [Bool.and_eq_true,decide_eq_true_iff];exact h⟩
theorem anc_listed {l:List Oper} {listed:Array Bool} (hc:∀ i o,l[i]? = some o→listed.getD i false=true→∀ p,onB o p=true→listed.getD p false=true) :
 ∀ (f j i:Nat),ancF l f j i=true→listed.getD j false=true→listed.getD i false=true
 | 0,_,_,h,_=>by cases h
 | f+1,j,i,h,hj=>by
   unfold ancF at h
   cases ho:l[j]? with
   | none=>rw [ho] at h;cases h
   | some o =>
     rw [ho] at h
     simp only [Array.any_eq_true] at h
     obtain ⟨k,hk,h⟩:=h
     rw [Bool.and_eq_true,Bool.or_eq_true,decide_eq_true_iff] at h
     have hp:=hc j o ho hj _ (onB_iff.2 ⟨_,Array.getElem_mem hk,h.1,rfl⟩)
     rcases h.2 with h2 | h2
     · rw [← h2];exact hp
     · exact anc_listed hc f _ i h2 hp
theorem StepsF.steps {l:List Oper} {n:Nat} {F:(Nat→Value)→Act} {D:Nat→Value→World→Prop} {fin:(Nat→Value)→World→Prop} (hD:∀ i v X X',D i v X→R X X'→D i v X') (ht:tailsB l n=true) (hn:n≤l.length) :
 ∀ (m:List Oper) (i:Nat),(∀ j,j < m.length→m[j]? = l[i+j]?)→i+m.length=n→StepsF P M R F D i m→∀ rest,StepsU P (JF l n M F D fin) n rest→StepsU P (JF l n M F D fin) i (m++rest)
 | [],i,_,hl,_,rest,hr=>by
   have:i=n:=by simpa using hl
   subst this
   exact hr
 | o::m,i,hm,hl,hs,rest,hr=>by
   have hin:i < n:=by simp only [List.length_cons] at hl;omega
   have ho:l[i]? = some o:=by simpa using (hm 0 (by simp)).symm
   refine StepsU.cons hs.1.1 (fun Q listed a X hJ hun hpre K hK=>?_) (StepsF.steps hD ht hn m (i+1) (fun j hj=>by have:=hm (j+1) (by simp;omega);simpa [Nat.add_assoc,Nat.add_comm 1 j] using this) (by simp only [List.length_cons] at hl;omega) hs.2 rest hr)
   obtain ⟨u,rfl,hsz,hcl,hd,hw,hf⟩:=hJ
   obtain ⟨hil,hiF⟩:=getD_tt hun
   have hnl:listed.getD n false=false:=by
    cases hx:listed.getD n false with
    | false=>rfl
    | true =>
      unfold tailsB at ht
      rw [Bool.or_eq_true,decide_eq_true_iff] at ht
      rcases ht with h | h
      · subst h
        rw [← hsz] at hx
        simp [Array.getD] at hx
      · have:=anc_listed hcl _ _ _ (List.all_eq_true.1 h i (List.mem_range.2 hin)) hx
        rw [hiF] at this
        cases this
   have hon:∀ p,onB o p=true→listed.getD p false=true:=fun p hp=>by
    obtain ⟨e,he,hb,rfl⟩:=onB_iff.1 hp
    exact hpre e he hb
   refine hs.1.2.2 Q u X (hw hnl) (fun p hp=>hd p (fun h=>by subst h;have:=hon p hp;rw [hnl] at this;cases this) (hon p hp) hnl) K fun v X' hm' hb hv=>?_
   refine hK _ _ ⟨upd u i v,hs.1.2.1 u v,by simpa using hsz,fun j oj hoj hj p hp=>?_,fun j hjn hj _=>?_,fun _=>hm',fun h=>?_⟩
   · rw [getD_one hil] at hj ⊢
     by_cases hpi:p=i
     · rw [if_pos hpi]
     · rw [if_neg hpi]
       by_cases hji:j=i
       · subst hji
         rw [ho] at hoj
         obtain rfl:=Option.some.inj hoj
         exact hon p hp
       · rw [if_neg hji] at hj
         exact hcl j oj hoj hj p hp
   · rw [getD_one hil] at hj
     unfold upd
     by_cases hji:j=i
     · subst hji;rw [if_pos rfl];exact hv
     · rw [if_neg hji] at hj ⊢
       exact hD j _ X X' (hd j hjn hj hnl) hb
   · rw [getD_one hil,if_neg (by omega),hnl] at h
     cases h
def MonoL (R:World→World→Prop):List (Value→World→Prop)→Prop
 | []=>True
 | d::ds=>(∀ v X X',d v X→R X X'→d v X')∧MonoL R ds
def atL (ds:List (Value→World→Prop)) (i:Nat) (v:Value) (X:World):Prop:=(ds.getD i fun _ _=>True) v X
theorem MonoL.at:∀ {ds:List (Value→World→Prop)},MonoL R ds→∀ i v X X',atL ds i v X→R X X'→atL ds i v X'
 | [],_,i,_,_,_,_,_=>trivial
 | d::ds,h,0,v,X,X',hd,hb=>h.1 v X X' hd hb
 | d::ds,h,i+1,v,X,X',hd,hb=>MonoL.at (ds:=ds) h.2 i v X X' hd hb
theorem wp_region_grow {id:Nat} {Q:Exit→Act→World→Prop} {a:Act} {w:World} {l:List Oper} (M:World→Prop) (R:World→World→Prop) (F:(Nat→Value)→Act) (u0:List Value) (D:List (Value→World→Prop)) (hm:P.follows .mixedOrders=true) (hb:backB l.toArray=true)
 (ha:a=F fun i=>u0.getD i undef) (hM:M w.drew) (hD:MonoL R D) (hs:StepsF P M R F (atL D) 0 l)
 (he:∀ u X,M X→(∀ i,i < l.length→atL D i (u i) X)→Q .normal (F u) X):(Code.region id l.toArray true).wp P Q a w:=by
 refine wp_region_invU (JF l l.length M F (atL D) fun _ _=>True) hm hb ⟨_,ha,by simp,fun i o _ h=>?_,fun i _ h _=>?_,fun _=>hM,fun _=>trivial⟩ ?_ fun listed a X hJ hall=>?_
 · simp [Array.getD] at h
 · simp [Array.getD] at h
 · have:=StepsF.steps (n:=l.length) (fin:=fun _ _=>True) hD.at (by unfold tailsB;simp) (Nat.le_refl _) l 0 (fun j _=>by rw [Nat.zero_add]) (Nat.zero_add _) hs [] trivial
   rwa [List.append_nil] at this
 · obtain ⟨u,rfl,hsz,_,hd,hw,_⟩:=hJ
   have hn:listed.getD l.length false=false:=by rw [← hsz];simp [Array.getD]
   refine he u X (hw hn) fun i hi=>hd i (by omega) ?_ hn
   have h1:=hall i hi
   have hil:i < listed.size:=by omega
   simp only [Array.getD,dif_pos hil] at h1 ⊢
   exact h1
theorem wp_region_grow1 {id:Nat} {Q:Exit→Act→World→Prop} {a:Act} {w:World} {l:List Oper} {t:Oper} (M:World→Prop) (R:World→World→Prop) (F:(Nat→Value)→Act) (u0:List Value) (D:List (Value→World→Prop)) (fin:(Nat→Value)→World→Prop) (hm:P.follows .mixedOrders=true) (hb:backB (l++[t]).toArray=true)
 (htl:tailsB (l++[t]) l.length=true) (htg:t.guard=none) (ha:a=F fun i=>u0.getD i undef) (hM:M w.drew) (hD:MonoL R D) (hs:StepsF P M R F (atL D) 0 l)
 (ht:∀ (Q:Exit→Act→World→Prop) u X,M X→(∀ i,i < l.length→atL D i (u i) X)→∀ K:Act→World→Prop,(∀ u' X',fin u' X'→K (F u') X')→t.wp P (F u) X K Q)
 (he:∀ u X,fin u X→Q .normal (F u) X):(Code.region id (l++[t]).toArray true).wp P Q a w:=by
 have hll:(l++[t]).length=l.length+1:=by simp
 refine wp_region_invU (JF (l++[t]) l.length M F (atL D) fin) hm hb ⟨_,ha,by simp,fun i o _ h=>?_,fun i _ h _=>?_,fun _=>hM,fun h=>?_⟩ ?_ fun listed a X hJ hall=>?_
 · simp [Array.getD] at h
 · simp [Array.getD] at h
 · simp [Array.getD] at h
 · refine StepsF.steps (l:=l++[t]) (n:=l.length) (fin:=fin) hD.at htl (by omega) l 0 (fun j hj=>by rw [Nat.zero_add,List.getElem?_append_left hj]) (Nat.zero_add _) hs [t] ?_
   refine StepsU.cons htg (fun Q listed a X hJ hun hpre K hK=>?_) StepsU.nil
   obtain ⟨u,rfl,hsz,hcl,hd,hw,hf⟩:=hJ
   obtain ⟨hil,hiF⟩:=getD_tt hun
   have hon:∀ p,onB t p=true→listed.getD p false=true:=fun p hp=>by
    obtain ⟨e,he,hb,rfl⟩:=onB_iff.1 hp
    exact hpre e he hb
   have hto:(l++[t])[l.length]? = some t:=by rw [List.getElem?_append_right (Nat.le_refl _),Nat.sub_self];rfl
   have hcl2:∀ i o,(l++[t])[i]? = some o→(listed.setIfInBounds l.length true).getD i false=true→∀ p,onB o p=true→(listed.setIfInBounds l.length true).getD p false=true:=fun j oj hoj hj p hp=>by
    rw [getD_one hil] at hj ⊢
    by_cases hpi:p=l.length
    · rw [if_pos hpi]
    · rw [if_neg hpi]
      by_cases hji:j=l.length
      · subst hji
        rw [hto] at hoj
        obtain rfl:=Option.some.inj hoj
        exact hon p hp
      · rw [if_neg hji] at hj
        exact hcl j oj hoj hj p hp
   have hall:∀ i,i < l.length→listed.getD i false=true:=fun i hi=>by
    unfold tailsB at htl
    rw [Bool.or_eq_true,decide_eq_true_iff] at htl
    rcases htl with h | h
    · omega
    · have:=anc_listed hcl2 _ _ _ (List.all_eq_true.1 h i (List.mem_range.2 hi)) (by rw [getD_one hil,if_pos rfl])
      rwa [getD_one hil,if_neg (by omega)] at this
   refine ht Q u X (hw hiF) (fun i hi=>hd i (by omega) (hall i hi) hiF) K fun u' X' hfin=>?_
   refine hK _ _ ⟨u',rfl,by simpa using hsz,hcl2,fun j _ _ h=>?_,fun h=>?_,fun _=>hfin⟩
   · rw [getD_one hil,if_pos rfl] at h;cases h
   · rw [getD_one hil,if_pos rfl] at h;cases h
 · obtain ⟨u,rfl,hsz,_,_,_,hf⟩:=hJ
   refine he u X (hf ?_)
   have h1:=hall l.length (by omega)
   have hil:l.length < listed.size:=by omega
   simp only [Array.getD,dif_pos hil] at h1 ⊢
   exact h1
end
end Go.Proofs.YtggbjdmpjidhgaaGreatDoor
