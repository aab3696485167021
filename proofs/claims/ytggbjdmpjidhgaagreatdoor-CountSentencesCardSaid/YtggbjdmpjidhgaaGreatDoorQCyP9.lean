/- a grammar that is reduced is right, plainly (no program in sight). -/
import Derived.Test.YtggbjdmpjidhgaaGreatDoorQCyW6
set_option linter.unusedVariables false
set_option linter.unusedSimpArgs false
set_option maxHeartbeats 8000000
set_option maxRecDepth 100000
namespace Go.Proofs.YtggbjdmpjidhgaaGreatDoor
open Go.RowKit
theorem right_parts {G:Gr}:G.right=true ↔ G.termsOK=true∧G.nonsOK=true∧(1≤G.rules.length∧G.rules.length≤40)∧(0≤G.start∧G.start < (G.nons.length:Int))∧G.leftsGo G.rules (-1)=some ((G.nons.length:Int) - 1):=by
 unfold Gr.right
 simp only [Bool.and_eq_true,decide_eq_true_eq,and_assoc]
theorem terms_same {G H:Gr} (h:H.terms=G.terms):H.termsOK=G.termsOK:=by
 unfold Gr.termsOK
 have:H.termOK=G.termOK:=by
  funext i t
  unfold Gr.termOK Gr.term
  rw [h]
 rw [this,h]
theorem prod_start {G:Gr} (hG:G.Fits) (h:(prodN G).getD G.start.toNat false=true):G.start.toNat ∈ oldN G:=(old_mem hG).2 ⟨h,reach_start hG⟩
theorem red_ruleOK {G:Gr} (hG:G.Fits) {r:Rul} (hr:r ∈ keptR G) (h:G.ruleOK r=true):(redG G).ruleOK (redR (oldN G) r)=true:=by
 unfold Gr.ruleOK at h ⊢
 simp only [Bool.and_eq_true,decide_eq_true_eq,List.all_eq_true] at h ⊢
 obtain ⟨⟨h1,h2⟩,h3⟩:=h
 refine ⟨⟨by simp [redR,h1],h2⟩,fun s' hs'=>?_⟩
 obtain ⟨s,hs,rfl⟩:=List.mem_map.1 hs'
 have h4:=h3 s hs
 have hin:=kept_sym hG hr hs
 unfold Gr.symOK at h4 ⊢
 rw [Bool.and_eq_true] at h4 ⊢
 by_cases h0:s < 0
 · have hn:=(redS_neg s hin).2 h0
   have hnn:=redS_non h0 (hin h0)
   have hlt:=toI_lt (oldN G) (nonI s)
   refine ⟨?_,?_⟩
   · unfold Gr.has
     rw [if_neg (by omega),decide_eq_true_iff]
     show -1 - redS (oldN G) s < (((oldN G).map (nameO G)).length:Int)
     rw [List.length_map]
     have:(nonI (redS (oldN G) s):Int)=-1 - redS (oldN G) s:=by unfold nonI;omega
     omega
   · have:decide (0≤redS (oldN G) s)=false:=by rw [decide_eq_false_iff_not];omega
     rw [this];rfl
 · have he:redS (oldN G) s=s:=by unfold redS;rw [if_neg h0]
   rw [he]
   refine ⟨?_,h4.2⟩
   have:=h4.1
   unfold Gr.has at this ⊢
   rw [if_pos (by omega)] at this ⊢
   exact this
theorem toI_part {rs qs:List Rul} {i:Nat} (h:i ∈ oldOf rs):toI (oldOf (rs++qs)) i=toI (oldOf rs) i:=by
 induction qs using snoc_ind with
 | h0=>rw [List.append_nil]
 | h1 qs q ih =>
   rw [← List.append_assoc,oldOf_snoc]
   unfold putO
   split
   · exact ih
   · rename_i hq
     rw [toI_app_ne _ (fun he=>hq (by rw [← he];rw [oldOf_mem] at h ⊢;obtain ⟨r,hr,hl⟩:=h;exact ⟨r,List.mem_append_left _ hr,hl⟩)),ih]
theorem red_lefts (G:Gr) (hG:G.Fits) (hok:∀ r ∈ keptR G,(redG G).ruleOK (redR (oldN G) r)=true):∀ (rs qs:List Rul),rs++qs=keptR G →
 (redG G).leftsGo (rs.map (redR (oldN G))) (-1)=some (((oldOf rs).length:Int) - 1):=by
 intro rs
 induction rs using snoc_ind with
 | h0=>intro qs _;simp [Gr.leftsGo,oldOf]
 | h1 rs r ih =>
   intro qs hq
   have h1:=ih (r::qs) (by rw [← hq];simp)
   have hr:r ∈ keptR G:=by rw [← hq];simp
   rw [List.map_append,List.map_cons,List.map_nil,Gr.leftsGo_snoc,h1,Option.bind_some]
   have hall:oldN G=oldOf ((rs++[r])++qs):=by unfold oldN;rw [hq]
   have hmem:r.left.toNat ∈ oldOf (rs++[r]):=oldOf_mem.2 ⟨r,by simp,rfl⟩
   have hleft:(redR (oldN G) r).left=toI (oldOf (rs++[r])) r.left.toNat:=by
    show toI (oldN G) r.left.toNat=_
    rw [hall,toI_part hmem]
   rw [if_pos]
   · rw [hleft,oldOf_snoc]
     unfold putO
     split
     · rename_i hi
       have:=toI_lt (oldOf rs) r.left.toNat
       rw [Option.some.injEq]
       omega
     · rename_i hi
       have hnd:(oldOf rs++[r.left.toNat]).Nodup:=by
        have:=oldOf_nodup (rs++[r])
        rw [oldOf_snoc] at this
        unfold putO at this
        rwa [if_neg hi] at this
       rw [toI_app hnd,Option.some.injEq]
       simp only [List.length_append,List.length_singleton]
       omega
   · refine ⟨?_,?_,hok r hr⟩
     · rw [hleft]
       have:¬ toI (oldOf (rs++[r])) r.left.toNat < 0:=fun h=>toI_neg.1 h hmem
       omega
     · rw [hleft,oldOf_snoc]
       unfold putO
       split
       · have:=toI_lt (oldOf rs) r.left.toNat
         omega
       · rename_i hi
         have hnd:(oldOf rs++[r.left.toNat]).Nodup:=by
          have:=oldOf_nodup (rs++[r])
          rw [oldOf_snoc] at this
          unfold putO at this
          rwa [if_neg hi] at this
         rw [toI_app hnd]
         omega
theorem red_right {G:Gr} (h:G.right=true) (hp:(prodN G).getD G.start.toNat false=true):(redG G).right=true:=by
 have hG:=Gr.fits h
 obtain ⟨h1,h2,h3,h4,h5⟩:=right_parts.1 h
 have hst:=prod_start hG hp
 obtain ⟨k,hk,hk2,hk3⟩:=toI_mem (old_nodup G) hst
 have hlen:=old_len hG
 have hn2:=hG.n2
 have hrok:=(G.lefts_all _ _ _ h5).2
 have hok:∀ r ∈ keptR G,(redG G).ruleOK (redR (oldN G) r)=true:=fun r hr=>red_ruleOK hG hr (hrok r (kept_mem.1 hr).1).2.2
 have hml:(redG G).nons.length=(oldN G).length:=by show ((oldN G).map (nameO G)).length=_;rw [List.length_map]
 obtain ⟨r0,hr0,_⟩:=oldOf_mem.1 hst
 refine right_parts.2 ⟨(terms_same (G:=G) (H:=redG G) rfl).trans h1,?_,⟨?_,?_⟩,⟨?_,?_⟩,?_⟩
 · unfold Gr.nonsOK
   rw [Bool.and_eq_true,decide_eq_true_iff,hml]
   refine ⟨by omega,allI_true fun j s hs=>?_⟩
   obtain ⟨i,hi,rfl⟩:∃ i,(oldN G)[j]? = some i∧nameO G i=s:=by
    have:((oldN G).map (nameO G))[j]? = some s:=hs
    rw [List.getElem?_map] at this
    cases hj:(oldN G)[j]? with
    | none=>rw [hj] at this;cases this
    | some i=>rw [hj] at this;exact ⟨i,rfl,by simpa using this⟩
   have hil:=use_lt ((old_mem hG).1 (List.mem_of_getElem? hi))
   unfold Gr.nonsOK at h2
   rw [Bool.and_eq_true] at h2
   have hname:∀ q,q < G.nons.length→G.nons[q]? = some (nameO G q):=fun q hq=>by
    unfold nameO
    rw [List.getElem?_eq_getElem hq]
    rfl
   have hok2:=fun q hq=>allI_get h2.2 (hname q hq)
   have h6:=hok2 i hil
   unfold Gr.nonOK at h6 ⊢
   simp only [Bool.and_eq_true,decide_eq_true_eq] at h6 ⊢
   refine ⟨⟨h6.1.1,?_⟩,h6.2⟩
   show findI (fun t=>decide (t=nameO G i)) ((oldN G).map (nameO G))=(j:Int)
   refine findI_at (x:=nameO G i) (by rw [List.getElem?_map,hi];rfl) (by simp) fun q hq y hy=>?_
   rw [List.getElem?_map] at hy
   cases hq2:(oldN G)[q]? with
   | none=>rw [hq2] at hy;cases hy
   | some iq =>
     rw [hq2] at hy
     have:nameO G iq=y:=by simpa using hy
     subst this
     rw [decide_eq_false_iff_not]
     intro he
     have hql:=use_lt ((old_mem hG).1 (List.mem_of_getElem? hq2))
     have h7:=hok2 iq hql
     unfold Gr.nonOK at h7
     simp only [Bool.and_eq_true,decide_eq_true_eq] at h7
     have h8:=h7.1.2
     rw [he,h6.1.2] at h8
     have h9:i=iq:=by omega
     have:=toI_get (old_nodup G) hi
     have h10:=toI_get (old_nodup G) hq2
     rw [← h9] at h10
     omega
 · show 1≤((keptR G).map (redR (oldN G))).length
   rw [List.length_map]
   exact List.length_pos_of_mem hr0
 · show ((keptR G).map (redR (oldN G))).length≤40
   rw [List.length_map]
   exact Nat.le_trans (List.length_filter_le _ _) h3.2
 · show 0≤toI (oldN G) G.start.toNat
   omega
 · rw [hml]
   show toI (oldN G) G.start.toNat < _
   omega
 · rw [hml]
   have:=red_lefts G hG hok (keptR G) [] (by simp)
   exact this
section
variable {G:Gr}
def sig (G:Gr) (i:Nat):Nat:=(toI (oldN G) i).toNat
theorem sig_toI {i:Nat} (h:i ∈ oldN G):toI (oldN G) i=(sig G i:Int)∧sig G i < (oldN G).length∧(oldN G)[sig G i]? = some i:=by
 obtain ⟨k,hk,hk2,hk3⟩:=toI_mem (old_nodup G) h
 have:sig G i=k:=by unfold sig;omega
 rw [this]
 exact ⟨hk3,hk,hk2⟩
theorem sig_get {k i:Nat} (h:(oldN G)[k]? = some i):sig G i=k:=by
 have:=toI_get (old_nodup G) h
 unfold sig
 omega
theorem red_nons:(redG G).nons.length=(oldN G).length:=by show ((oldN G).map (nameO G)).length=_;rw [List.length_map]
theorem red_rule {r':Rul}:r' ∈ (redG G).rules ↔ ∃ r ∈ keptR G,redR (oldN G) r=r':=List.mem_map
theorem red_left {r:Rul} (hr:r ∈ keptR G):(redR (oldN G) r).left.toNat=sig G r.left.toNat:=rfl
theorem red_sym (hG:G.Fits) {r:Rul} (hr:r ∈ keptR G) {s:Int} (hs:s ∈ r.right):(redS (oldN G) s < 0 ↔ s < 0)∧(s < 0→nonI (redS (oldN G) s)=sig G (nonI s)):=by
 refine ⟨redS_neg s (kept_sym hG hr hs),fun h0=>?_⟩
 have h1:=redS_non h0 (kept_sym hG hr hs h0)
 have h2:=(sig_toI (kept_sym hG hr hs h0)).1
 omega
theorem red_start (hG:G.Fits) (hp:(prodN G).getD G.start.toNat false=true):(redG G).start.toNat=sig G G.start.toNat:=rfl
theorem kept_of (hG:G.Fits) {r:Rul} (hr:r ∈ G.rules) (hu:r.left.toNat ∈ oldN G) (ha:allP true (prodN G) r.right=true):r ∈ keptR G :=
 kept_mem.2 ⟨hr,((old_mem hG).1 hu).2,ha⟩
theorem red_prod (hG:G.Fits) (hH:(redG G).Fits) {i:Nat} (hi:i ∈ oldN G):(prodN (redG G)).getD (sig G i) false=true:=by
 have:=grown_least (b:=true) (G:=G) (fun i=>(prodN G).getD i false=true∧(i ∈ oldN G→(prodN (redG G)).getD (sig G i) false=true)) (fun r hr hX=>?_) ((old_mem hG).1 hi).1
 · exact this.2 hi
 · have ha:allP true (prodN G) r.right=true:=allP_iff.2 fun s hs=>⟨(hX s hs).1,fun h0=>((hX s hs).2 h0).1⟩
   have hl:=hG.left r hr
   refine ⟨grown_closed (b:=true) hr (by omega) ha,fun hu=>?_⟩
   have hk:=kept_of hG hr hu ha
   rw [← red_left hk]
   refine grown_closed (b:=true) (G:=redG G) (red_rule.2 ⟨r,hk,rfl⟩) ?_ (allP_iff.2 fun s' hs'=>⟨fun _=>rfl,fun h0'=>?_⟩)
   · rw [red_nons,red_left hk];exact (sig_toI hu).2.1
   · obtain ⟨s,hs,rfl⟩:=List.mem_map.1 hs'
     have h1:=red_sym hG hk hs
     have h0:=h1.1.1 h0'
     rw [h1.2 h0]
     exact ((hX s hs).2 h0).2 (kept_sym hG hk hs h0)
theorem red_reach (hG:G.Fits) (hH:(redG G).Fits) (hp:(prodN G).getD G.start.toNat false=true) {i:Nat} (hi:i ∈ oldN G):(reachN (redG G)).getD (sig G i) false=true:=by
 have:=reach_least (G:=G) (fun i=>i ∈ oldN G∧(reachN (redG G)).getD (sig G i) false=true) ⟨prod_start hG hp,by have:=reach_start hH;rwa [red_start hG hp] at this⟩ (fun r hr hX ha s hs h0=>?_) ((old_mem hG).1 hi).2
 · exact this.2
 · have hk:=kept_of hG hr hX.1 ha
   have h1:=red_sym hG hk hs
   refine ⟨kept_sym hG hk hs h0,?_⟩
   rw [← h1.2 h0]
   refine reach_closed hH (red_rule.2 ⟨r,hk,rfl⟩) (by rw [red_left hk];exact hX.2) (allP_iff.2 fun s' hs'=>⟨fun _=>rfl,fun h0'=>?_⟩) (List.mem_map.2 ⟨s,hs,rfl⟩) (h1.1.2 h0)
   obtain ⟨q,hq,rfl⟩:=List.mem_map.1 hs'
   have h2:=red_sym hG hk hq
   rw [h2.2 (h2.1.1 h0')]
   exact red_prod hG hH (kept_sym hG hk hq (h2.1.1 h0'))
theorem cyc_bit (hG:G.Fits) (i:Nat):(cycS (stepsN G)).testBit i=true ↔ i < G.nons.length∧comesTo (stepsN G) i i=true:=by
 unfold cycS
 rw [setB_bit,stepsN_len]
 simp only [Bool.and_eq_true,decide_eq_true_eq]
 have:=hG.n2
 constructor
 · rintro ⟨_,h1,h2⟩;exact ⟨h1,h2⟩
 · rintro ⟨h1,h2⟩;exact ⟨by omega,h1,h2⟩
end
def sumL:List Nat→Nat
 | []=>0
 | x::l=>x+sumL l
theorem sumL_congr {α:Type} {f g:α→Nat}:∀ {l:List α},(∀ x ∈ l,f x=g x)→sumL (l.map f)=sumL (l.map g)
 | [],_=>rfl
 | x::l,h=>by
   show f x+sumL (l.map f)=g x+sumL (l.map g)
   rw [h x (List.mem_cons_self ..),sumL_congr fun y hy=>h y (List.mem_cons_of_mem _ hy)]
theorem sumL_zero {α:Type} {f:α→Nat}:∀ {l:List α},sumL (l.map f)=0 ↔ ∀ x ∈ l,f x=0
 | []=>by simp [sumL]
 | x::l=>by
   show f x+sumL (l.map f)=0 ↔ _
   rw [Nat.add_eq_zero_iff,sumL_zero]
   simp
theorem sumL_append (l m:List Nat):sumL (l++m)=sumL l+sumL m:=by
 induction l with
 | nil=>simp [sumL]
 | cons x l ih=>show x+sumL (l++m)=x+sumL l+sumL m;omega
def forestT (T:Int→Nat→Nat):List Int→Nat→Nat
 | [],n=>if n=0 then 1 else 0
 | s::l,n=>sumL ((List.range (n+1)).map fun k=>T s k * forestT T l (n - k))
theorem forest_zero (T:Int→Nat→Nat) (s:Int) (l:List Int):forestT T (s::l) 0=T s 0 * forestT T l 0:=by
 simp [forestT,sumL]
theorem forest_none {T:Int→Nat→Nat}:∀ {l:List Int},forestT T l 0=0 ↔ ∃ s ∈ l,T s 0=0
 | []=>by simp [forestT]
 | s::l=>by
   rw [forest_zero,Nat.mul_eq_zero,forest_none]
   simp
theorem forest_congr {T T':Int→Nat→Nat}:∀ {l:List Int} {n:Nat},(∀ s ∈ l,∀ k,k≤n→T s k=T' s k)→forestT T l n=forestT T' l n
 | [],n,_=>rfl
 | s::l,n,h=>by
   unfold forestT
   refine sumL_congr fun k hk=>?_
   have hk':=List.mem_range.1 hk
   rw [h s (List.mem_cons_self ..) k (by omega),forest_congr fun q hq j hj=>h q (List.mem_cons_of_mem _ hq) j (by omega)]
theorem forest_same {T T':Int→Nat→Nat}:∀ {l:List Int} {n:Nat},(∀ s ∈ l,∀ k,k < n→T s k=T' s k) →
 (∀ (p:Nat) s,l[p]? = some s→(∀ (q:Nat) s',q ≠ p→l[q]? = some s'→T s' 0 ≠ 0)→T s n=T' s n)→(n=0→∀ s ∈ l,T s 0=0→T' s 0=0)→forestT T l n=forestT T' l n:=by
 intro l n
 rcases Nat.eq_zero_or_pos n with rfl | hn
 · intro _ h2 h3
   by_cases hz:∃ s ∈ l,T s 0=0
   · rw [forest_none.2 hz]
     obtain ⟨s,hs,h0⟩:=hz
     exact (forest_none.2 ⟨s,hs,h3 rfl s hs h0⟩).symm
   · refine forest_congr fun s hs k hk=>?_
     obtain rfl:k=0:=by omega
     obtain ⟨p,hp⟩:=List.getElem?_of_mem hs
     exact h2 p s hp fun q s' _ hq h0=>hz ⟨s',List.mem_of_getElem? hq,h0⟩
 · intro h1 h2 _
   induction l with
   | nil=>rfl
   | cons s l ih =>
     unfold forestT
     refine sumL_congr fun k hk=>?_
     have hk':=List.mem_range.1 hk
     have h00:∀ q ∈ s::l,T q 0=T' q 0:=fun q hq=>h1 q hq 0 hn
     rcases Nat.eq_zero_or_pos k with rfl | hkp
     · rw [← h00 s (List.mem_cons_self ..)]
       by_cases hs0:T s 0=0
       · rw [hs0,Nat.zero_mul,Nat.zero_mul]
       · rw [Nat.sub_zero,ih (fun q hq=>h1 q (List.mem_cons_of_mem _ hq)) (fun p q hp ho=>h2 (p+1) q (by simpa using hp) fun j s' hj hs'=>?_) (fun h=>absurd h (by omega))]
         cases j with
         | zero=>simp at hs';rw [← hs'];exact hs0
         | succ j=>exact ho j s' (by omega) (by simpa using hs')
     · rcases Nat.lt_or_ge k n with hkn | hkn
       · rw [h1 s (List.mem_cons_self ..) k hkn,forest_congr fun q hq j hj=>h1 q (List.mem_cons_of_mem _ hq) j (by omega)]
       · obtain rfl:k=n:=by omega
         rw [Nat.sub_self]
         have e:forestT T l 0=forestT T' l 0:=forest_congr fun q hq j hj=>by
          obtain rfl:j=0:=by omega
          exact h00 q (List.mem_cons_of_mem _ hq)
         by_cases hz:∃ q ∈ l,T q 0=0
         · rw [← e,forest_none.2 hz,Nat.mul_zero,Nat.mul_zero]
         · rw [← e,h2 0 s rfl fun j s' hj hs' h0=>?_]
           cases j with
           | zero=>exact hj rfl
           | succ j=>exact hz ⟨s',List.mem_of_getElem? (by simpa using hs'),h0⟩
def oneT (n:Nat):Nat:=if n=1 then 1 else 0
def rulesT (T:Int→Nat→Nat) (rs:List Rul) (i n:Nat):Nat:=sumL ((rs.filter fun r=>decide (r.left.toNat=i)).map fun r=>forestT T r.right n)
def treeF (G:Gr):Nat→Int→Nat→Nat
 | 0,s,n=>if 0≤s then oneT n else 0
 | f+1,s,n=>if 0≤s then oneT n else rulesT (treeF G f) G.rules (nonI s) n
theorem treeF_term (G:Gr) (f:Nat) {s:Int} (h:0≤s) (n:Nat):treeF G f s n=oneT n:=by
 cases f <;> simp [treeF,h]
theorem treeF_non (G:Gr) (f:Nat) {s:Int} (h:s < 0) (n:Nat):treeF G (f+1) s n=rulesT (treeF G f) G.rules (nonI s) n:=by
 unfold treeF
 rw [if_neg (by omega)]
theorem rulesT_congr {T T':Int→Nat→Nat} {rs:List Rul} {i n:Nat} (h:∀ r ∈ rs,r.left.toNat=i→forestT T r.right n=forestT T' r.right n):rulesT T rs i n=rulesT T' rs i n:=by
 unfold rulesT
 refine sumL_congr fun r hr=>?_
 rw [List.mem_filter,decide_eq_true_iff] at hr
 exact h r hr.1 hr.2
theorem tree_null {G:Gr} (hG:G.Fits):∀ (f:Nat) {s:Int},treeF G f s 0 ≠ 0→nulB (nullN G) s=true
 | 0,s,h=>by
   exfalso
   unfold treeF at h
   split at h
   · exact h (by simp [oneT])
   · exact h rfl
 | f+1,s,h=>by
   by_cases h0:0≤s
   · rw [treeF_term G _ h0] at h
     exact absurd (by simp [oneT]) h
   · rw [treeF_non G f (by omega)] at h
     obtain ⟨r,hr,hf⟩:∃ r ∈ G.rules.filter (fun r=>decide (r.left.toNat=nonI s)),forestT (treeF G f) r.right 0 ≠ 0:=by
      apply Classical.byContradiction
      intro hc
      apply h
      unfold rulesT
      rw [sumL_zero]
      intro r hr
      apply Classical.byContradiction
      intro hne
      exact hc ⟨r,hr,hne⟩
     rw [List.mem_filter,decide_eq_true_iff] at hr
     have hall:∀ q ∈ r.right,nulB (nullN G) q=true:=fun q hq=>tree_null hG f fun hz=>hf (forest_none.2 ⟨q,hq,hz⟩)
     have hap:allP false (nullN G) r.right=true:=allP_iff.2 fun q hq=>by
      have:=hall q hq
      unfold nulB at this
      rw [Bool.and_eq_true,decide_eq_true_iff] at this
      exact ⟨fun h1=>by omega,fun _=>this.2⟩
     have hl:=hG.left r hr.1
     have:=grown_closed (b:=false) (G:=G) hr.1 (by omega) hap
     rw [hr.2] at this
     unfold nulB
     rw [Bool.and_eq_true,decide_eq_true_iff]
     exact ⟨by omega,this⟩
def mu (G:Gr) (n:Nat) (s:Int):Nat:=n * 4294967296+(closeS (stepsN G)).getD (nonI s) 0
structure Plain (G:Gr):Prop where
 fits:G.Fits
 prod:∀ i,i < G.nons.length→(prodN G).getD i false=true
 none:∀ i,i < G.nons.length→comesTo (stepsN G) i i=false
theorem close_small (G:Gr) (i:Nat):(closeS (stepsN G)).getD i 0 < 4294967296:=(closeS_small (stepsN_small G)).get i
theorem step_down {G:Gr} (hP:Plain G) {i t:Nat} (hi:i < G.nons.length) (h:((stepsN G).getD i 0).testBit t=true):(closeS (stepsN G)).getD t 0 < (closeS (stepsN G)).getD i 0:=by
 have htl:=stepsN_in G hP.fits i t h
 have htl2:t < G.nons.length:=by rw [stepsN_len] at htl;exact htl
 have hil:i < (stepsN G).length:=by rw [stepsN_len];exact hi
 have h1:comesTo (stepsN G) i t=true:=comes_once hil h
 have h2:=hP.none t htl2
 have hle:(closeS (stepsN G)).getD t 0≤(closeS (stepsN G)).getD i 0:=bits_le fun q hq=>comes_step hil htl h hq
 have hne:(closeS (stepsN G)).getD t 0 ≠ (closeS (stepsN G)).getD i 0:=fun he=>by
  unfold comesTo at h1 h2
  rw [he,h1] at h2
  cases h2
 omega
theorem alone_step {G:Gr} (hP:Plain G) {r:Rul} (hr:r ∈ G.rules) {p:Nat} {s:Int} (hs:r.right[p]? = some s) (h0:s < 0) (ho:∀ (q:Nat) s',q ≠ p→r.right[q]? = some s'→nulB (nullN G) s'=true) :
 ((stepsN G).getD r.left.toNat 0).testBit (nonI s)=true:=by
 refine (steps_mem hP.fits).2 ⟨r,hr,p,s,hs,?_,rfl,rfl⟩
 unfold standsR aloneP
 simp only [Bool.and_eq_true,decide_eq_true_eq,List.all_eq_true]
 refine ⟨⟨h0,fun q hq=>?_,fun q hq=>?_⟩,allP_iff.2 fun q hq=>⟨fun _=>rfl,fun hq0=>?_⟩⟩
 · obtain ⟨j,hj⟩:=List.getElem?_of_mem hq
   have hlt:=(List.getElem?_eq_some_iff.1 hj).1
   rw [List.length_take] at hlt
   rw [List.getElem?_take_of_lt (by omega)] at hj
   exact ho j q (by omega) hj
 · obtain ⟨j,hj⟩:=List.getElem?_of_mem hq
   rw [List.getElem?_drop] at hj
   exact ho (p+1+j) q (by omega) hj
 · have:=hP.fits.sym r hr q hq
   exact hP.prod _ (by unfold nonI;omega)
theorem tree_stable {G:Gr} (hP:Plain G):∀ (m n:Nat) (s:Int),s < 0→nonI s < G.nons.length→mu G n s=m→∀ f f',m < f→m < f'→treeF G f s n=treeF G f' s n:=by
 intro m
 induction m using Nat.strongRecOn with
 | ind m ih =>
   intro n s h0 hl hm f f' hf hf'
   obtain ⟨g,rfl⟩:∃ g,f=g+1:=⟨f - 1,by omega⟩
   obtain ⟨g',rfl⟩:∃ g',f'=g'+1:=⟨f' - 1,by omega⟩
   rw [treeF_non G g h0,treeF_non G g' h0]
   refine rulesT_congr fun r hr hrl=>?_
   have hnl:∀ q ∈ r.right,q < 0→nonI q < G.nons.length:=fun q hq hq0=>by
    have:=hP.fits.sym r hr q hq
    unfold nonI
    omega
   have low:∀ q ∈ r.right,∀ k,k < n→treeF G g q k=treeF G g' q k:=fun q hq k hk=>by
    by_cases hq0:0≤q
    · rw [treeF_term G g hq0,treeF_term G g' hq0]
    · have h1:=close_small G (nonI q)
      have:mu G k q < m:=by unfold mu at hm ⊢;omega
      exact ih _ this k q (by omega) (hnl q hq (by omega)) rfl g g' (by omega) (by omega)
   have top:∀ (p:Nat) q,r.right[p]? = some q→(∀ (j:Nat) q',j ≠ p→r.right[j]? = some q'→nulB (nullN G) q'=true)→treeF G g q n=treeF G g' q n:=fun p q hp ho=>by
    by_cases hq0:0≤q
    · rw [treeF_term G g hq0,treeF_term G g' hq0]
    · have hst:=alone_step hP hr hp (by omega) ho
      rw [hrl] at hst
      have hd:=step_down hP hl hst
      have:mu G n q < m:=by unfold mu at hm ⊢;omega
      exact ih _ this n q (by omega) (hnl q (List.mem_of_getElem? hp) (by omega)) rfl g g' (by omega) (by omega)
   by_cases hn:n=0
   · subst hn
     by_cases hz:(∃ q ∈ r.right,treeF G g q 0=0)∧∃ q ∈ r.right,treeF G g' q 0=0
     · rw [forest_none.2 hz.1,forest_none.2 hz.2]
     · refine forest_congr fun q hq k hk=>?_
       obtain rfl:k=0:=by omega
       obtain ⟨p,hp⟩:=List.getElem?_of_mem hq
       refine top p q hp fun j q' _ hj=>?_
       have hmem:=List.mem_of_getElem? hj
       by_cases h1:∃ q ∈ r.right,treeF G g q 0=0
       · refine tree_null hP.fits g' fun hc=>hz ⟨h1,q',hmem,hc⟩
       · exact tree_null hP.fits g fun hc=>h1 ⟨q',hmem,hc⟩
   · refine forest_same low (fun p q hp ho=>top p q hp fun j q' hj hq'=>tree_null hP.fits g (ho j q' hj hq')) fun h=>absurd h hn
def fuelN (n:Nat):Nat:=n * 4294967296+4294967297
theorem fuelN_succ (n:Nat):∃ f,fuelN n=f+1∧n * 4294967296+4294967296≤f:=⟨n * 4294967296+4294967296,rfl,Nat.le_refl _⟩
theorem fuelN_le (n:Nat):n * 4294967296+4294967296≤fuelN n:=Nat.le_succ _
def treeN (G:Gr) (s:Int) (n:Nat):Nat:=treeF G (fuelN n) s n
theorem mu_lt (G:Gr) (n:Nat) (s:Int) {f:Nat} (hf:n * 4294967296+4294967296≤f):mu G n s < f:=by
 have:=close_small G (nonI s)
 unfold mu
 omega
theorem treeN_fuel {G:Gr} (hP:Plain G) {f n:Nat} {s:Int} (hs:s < 0→nonI s < G.nons.length) (hf:n * 4294967296+4294967296≤f):treeF G f s n=treeN G s n:=by
 unfold treeN
 by_cases h0:0≤s
 · rw [treeF_term G _ h0,treeF_term G _ h0]
 · exact tree_stable hP _ n s (by omega) (hs (by omega)) rfl _ _ (mu_lt G n s hf) (mu_lt G n s (fuelN_le n))
theorem treeN_term (G:Gr) {s:Int} (h:0≤s) (n:Nat):treeN G s n=oneT n:=treeF_term G _ h n
theorem treeN_non {G:Gr} (hP:Plain G) {s:Int} (h0:s < 0) (hl:nonI s < G.nons.length) (n:Nat):treeN G s n=rulesT (treeN G) G.rules (nonI s) n:=by
 obtain ⟨f,hf,hf2⟩:=fuelN_succ n
 have e:treeN G s n=treeF G (f+1) s n:=by unfold treeN;rw [hf]
 rw [e,treeF_non G f h0]
 refine rulesT_congr fun r hr hrl=>forest_congr fun q hq k hk=>?_
 have hnl:q < 0→nonI q < G.nons.length:=fun hq0=>by
  have:=hP.fits.sym r hr q hq
  unfold nonI
  omega
 exact treeN_fuel hP hnl (Nat.le_trans (Nat.add_le_add_right (Nat.mul_le_mul_right _ hk) _) hf2)
theorem treeN_null {G:Gr} (hP:Plain G) {s:Int} (h:treeN G s 0 ≠ 0):nulB (nullN G) s=true:=tree_null hP.fits _ h
def goI (S:List Nat) (R i:Nat):Nat:=if R.testBit i then R ||| S.getD i 0 else R
def passG (S:List Nat) (m R:Nat):Nat:=(List.range m).foldl (goI S) R
theorem passG_succ (S:List Nat) (m R:Nat):passG S (m+1) R=goI S (passG S m R) m:=by
 unfold passG
 rw [List.range_succ,List.foldl_append]
 rfl
theorem goI_up {S:List Nat} {R i t:Nat} (h:R.testBit t=true):(goI S R i).testBit t=true:=by
 unfold goI
 split
 · rw [Nat.testBit_or,h];rfl
 · exact h
theorem passG_up {S:List Nat} {R t:Nat} (h:R.testBit t=true):∀ m,(passG S m R).testBit t=true
 | 0=>h
 | m+1=>by rw [passG_succ];exact goI_up (passG_up h m)
def thereL (l:List Nat):Nat:=l.foldl (fun s (i:Nat)=>s ||| bitN (i:Int)) 0
theorem thereL_snoc (l:List Nat) (i:Nat):thereL (l++[i])=thereL l ||| bitN (i:Int):=by simp [thereL]
def PreO (S:List Nat) (use n:Nat) (st:List Nat × Nat):Prop:=st.2=thereL st.1∧∀ p i,st.1[p]? = some i→i < n∧pickB S use (thereL (st.1.take p)) i=true
theorem PreO.step {S:List Nat} {use n:Nat} {st:List Nat × Nat} (h:PreO S use n st):PreO S use n (stepO S use n st):=by
 cases hf:findB (pickB S use st.2) n with
 | none=>rw [stepO_none hf];exact h
 | some j =>
   rw [stepO_some hf]
   obtain ⟨hj,hp⟩:=findB_at hf
   refine ⟨by show st.2 ||| bitN (j:Int)=_;rw [thereL_snoc,h.1],fun p i hi=>?_⟩
   simp only [] at hi ⊢
   rcases Nat.lt_trichotomy p st.1.length with hlt | heq | hgt
   · rw [List.getElem?_append_left hlt] at hi
     rw [List.take_append_of_le_length (by omega)]
     exact h.2 p i hi
   · subst heq
     rw [List.getElem?_append_right (Nat.le_refl _),Nat.sub_self] at hi
     have e:j=i:=by simpa using hi
     subst e
     refine ⟨hj,?_⟩
     rw [List.take_append_of_le_length (Nat.le_refl _),List.take_length,← h.1]
     exact hp
   · rw [List.getElem?_eq_none (by simp;omega)] at hi
     cases hi
theorem orderS_pre (S:List Nat) (use n:Nat):∀ k,PreO S use n (orderS S use n k)
 | 0=>⟨rfl,fun p i h=>by simp [orderS,iter] at h⟩
 | k+1=>by rw [orderS_succ];exact (orderS_pre S use n k).step
def tabT (tab:Nat→Nat→Nat) (s:Int) (n:Nat):Nat:=if 0≤s then oneT n else tab n (nonI s)
structure Ordered (G:Gr) (ord:List Nat):Prop where
 lt:∀ i ∈ ord,i < G.nons.length
 pre:∀ (p i:Nat),ord[p]? = some i→∀ t,((stepsN G).getD i 0).testBit t=true→t ∈ ord.take p
 all:∀ i,i < G.nons.length→i ∈ ord
structure Told (G:Gr) (ord:List Nat) (tab:Nat→Nat→Nat) (m p:Nat):Prop where
 low:∀ k,k < m→∀ i,i < G.nons.length→tab k i=treeN G (-1 - (i:Int)) k
 now:∀ i,i ∈ ord.take p→tab m i=treeN G (-1 - (i:Int)) m
 rest:∀ i,i ∉ ord.take p→tab m i=0
def putTab (tab:Nat→Nat→Nat) (m i v:Nat):Nat→Nat→Nat:=fun k j=>if k=m∧j=i then v else tab k j
theorem nonI_neg {s:Int} (h:s < 0):-1 - ((nonI s:Nat):Int)=s:=by unfold nonI;omega
theorem nonI_of (i:Nat):nonI (-1 - (i:Int))=i:=by unfold nonI;omega
theorem Told.next {G:Gr} (hP:Plain G) {ord:List Nat} (hO:Ordered G ord) {tab:Nat→Nat→Nat} {m p i:Nat} (h:Told G ord tab m p) (hi:ord[p]? = some i) :
 rulesT (tabT tab) G.rules i m=treeN G (-1 - (i:Int)) m:=by
 have hil:=hO.lt i (List.mem_of_getElem? hi)
 rw [treeN_non hP (by omega) (by rw [nonI_of];exact hil),nonI_of]
 refine (rulesT_congr fun r hr hrl=>?_).symm
 have hnl:∀ q ∈ r.right,q < 0→nonI q < G.nons.length:=fun q hq hq0=>by
  have:=hP.fits.sym r hr q hq
  unfold nonI
  omega
 refine forest_same (fun q hq k hk=>?_) (fun j q hj ho=>?_) fun hm q hq h0=>?_
 · unfold tabT
   split
   · rename_i h0;exact treeN_term G h0 k
   · rename_i h0;rw [h.low k hk _ (hnl q hq (by omega)),nonI_neg (by omega)]
 · unfold tabT
   split
   · rename_i h0;exact treeN_term G h0 m
   · rename_i h0
     have hst:=alone_step hP hr hj (by omega) fun q' s' hq' hs'=>treeN_null hP (ho q' s' hq' hs')
     rw [hrl] at hst
     rw [h.now _ (hO.pre p i hi _ hst),nonI_neg (by omega)]
 · unfold tabT
   split
   · rename_i h1;rw [← treeN_term G h1];exact h0
   · rename_i h1
     by_cases hin:nonI q ∈ ord.take p
     · subst hm
       rw [h.now _ hin,nonI_neg (by omega)];exact h0
     · subst hm
       exact h.rest _ hin
theorem Told.put {G:Gr} {ord:List Nat} {tab:Nat→Nat→Nat} {m p i:Nat} (h:Told G ord tab m p) (hi:ord[p]? = some i) (v:Nat) (hv:v=treeN G (-1 - (i:Int)) m):Told G ord (putTab tab m i v) m (p+1):=by
 have htk:ord.take (p+1)=ord.take p++[i]:=by rw [List.take_add_one,hi];rfl
 refine ⟨fun k hk j hj=>?_,fun j hj=>?_,fun j hj=>?_⟩
 · unfold putTab
   rw [if_neg (by omega)]
   exact h.low k hk j hj
 · unfold putTab
   split
   · rename_i he;rw [he.2];exact hv
   · rename_i he
     rw [htk,List.mem_append,List.mem_singleton] at hj
     rcases hj with hj | hj
     · exact h.now j hj
     · exact absurd ⟨rfl,hj⟩ he
 · rw [htk,List.mem_append,List.mem_singleton] at hj
   unfold putTab
   rw [if_neg (by rintro ⟨_,he⟩;exact hj (.inr he))]
   exact h.rest j fun hh=>hj (.inl hh)
theorem Told.row {G:Gr} {ord:List Nat} (hO:Ordered G ord) {tab:Nat→Nat→Nat} {m:Nat} (h:Told G ord tab m ord.length) (h0:∀ i,tab (m+1) i=0):Told G ord tab (m+1) 0:=by
 refine ⟨fun k hk i hi=>?_,fun i hi=>by simp at hi,fun i _=>h0 i⟩
 rcases (by omega:k < m∨k=m) with hk | rfl
 · exact h.low k hk i hi
 · exact h.now i (by rw [List.take_length];exact hO.all i hi)
theorem Told.start (G:Gr) (ord:List Nat):Told G ord (fun _ _=>0) 0 0:=⟨fun k hk=>by omega,fun i hi=>by simp at hi,fun _ _=>rfl⟩
theorem told_forest {G:Gr} {tab:Nat→Nat→Nat} {n:Nat} (h:∀ k,k≤n→∀ i,i < G.nons.length→tab k i=treeN G (-1 - (i:Int)) k) {l:List Int} (hl:∀ s ∈ l,s < 0→nonI s < G.nons.length) {m:Nat} (hm:m≤n) :
 forestT (tabT tab) l m=forestT (treeN G) l m:=by
 refine forest_congr fun q hq k hk=>?_
 unfold tabT
 split
 · rename_i h0;exact (treeN_term G h0 k).symm
 · rename_i h0;rw [h k (by omega) _ (hl q hq (by omega)),nonI_neg (by omega)]
theorem thereL_bit:∀ (l:List Nat) (t:Nat),(∀ i ∈ l,i < 32)→((thereL l).testBit t=true ↔ t ∈ l):=by
 intro l
 induction l using snoc_ind with
 | h0=>intro t _;simp [thereL]
 | h1 l i ih =>
   intro t h
   rw [thereL_snoc,Nat.testBit_or,Bool.or_eq_true,ih t fun j hj=>h j (List.mem_append_left _ hj),bitN_test,List.mem_append,List.mem_singleton]
   have:=h i (by simp)
   simp [this]
theorem order_serves {G:Gr} (hr:G.right=true) (hU:∀ i,i < G.nons.length→(useS G).testBit i=true) (hE:endG G=false):Ordered G (orderS (stepsN G) (useS G) G.nons.length G.nons.length).1:=by
 have hG:=Gr.fits hr
 have hul:useS G < 4294967296:=setB_lt _ _
 have hp:=orderS_pre (stepsN G) (useS G) G.nons.length G.nons.length
 have hno:=order_next G hr hE (orderS_end (stepsN G) G.nons.length hul)
 have hmem:=(orderS_inv (stepsN G) G.nons.length hul G.nons.length).mem
 generalize orderS (stepsN G) (useS G) G.nons.length G.nons.length=st at *
 have hlt:∀ i ∈ st.1,i < G.nons.length:=fun i hi=>by
  obtain ⟨p,hp'⟩:=List.getElem?_of_mem hi
  exact (hp.2 p i hp').1
 have hn:=hG.n2
 refine ⟨hlt,fun p i hi t ht=>?_,fun i hi=>?_⟩
 · have h1:=(hp.2 p i hi).2
   unfold pickB at h1
   simp only [Bool.and_eq_true,beq_iff_eq] at h1
   have h2:=andN_bit ((stepsN G).getD i 0) (thereL (st.1.take p)) t
   rw [h1.2,Nat.zero_testBit,ht,Bool.true_and] at h2
   have h3:(thereL (st.1.take p)).testBit t=true:=by
    cases hx:(thereL (st.1.take p)).testBit t
    · rw [hx] at h2;cases h2
    · rfl
   exact (thereL_bit _ t fun j hj=>by have:=hlt j (List.mem_of_mem_take hj);omega).1 h3
 · have h2:=andN_bit (useS G) st.2 i
   rw [hno,Nat.zero_testBit,hU i hi,Bool.true_and] at h2
   have h3:st.2.testBit i=true:=by
    cases hx:st.2.testBit i
    · rw [hx] at h2;cases h2
    · rfl
   exact (hmem i).1 h3
theorem plain_of {G:Gr} (hr:G.right=true) (hU:∀ i,i < G.nons.length→(useS G).testBit i=true) (hC:cycG G=0):Plain G∧endG G=false:=by
 have hG:=Gr.fits hr
 refine ⟨⟨hG,fun i hi=>((useS_bit G hG i).1 (hU i hi)).1,fun i hi=>?_⟩,?_⟩
 · cases hc:comesTo (stepsN G) i i
   · rfl
   · have:=(cyc_bit hG i).2 ⟨hi,hc⟩
     unfold cycG at hC
     rw [if_pos hr] at hC
     rw [hC,Nat.zero_testBit] at this
     cases this
 · unfold endG
   rw [hC,Nat.zero_and]
   rfl
def val:List Nat→Nat
 | []=>0
 | x::t=>x+4294967296 * val t
def Lim (xs:List Nat):Prop:=∀ x ∈ xs,x < 4294967296
def limbsF:Nat→Nat→List Nat
 | 0,_=>[]
 | f+1,n=>if n=0 then [] else n % 4294967296::limbsF f (n / 4294967296)
def limbs (n:Nat):List Nat:=limbsF (n.log2+1) n
def neatL (xs:List Nat):List Nat:=(xs.reverse.dropWhile (· == 0)).reverse
def rightB (xs:List Nat):Bool:=decide (xs.length≤32) && (decide (xs.length=0) || xs.getD (xs.length - 1) 0 != 0)
def big:Nat:=2 ^ 1024
theorem big_eq:big=4294967296 ^ 32:=by unfold big;decide +kernel
attribute [irreducible] big
theorem Lim.nil:Lim []:=fun _ h=>by cases h
theorem Lim.cons {x:Nat} {t:List Nat} (h:Lim (x::t)):x < 4294967296∧Lim t :=
 ⟨h x (by simp),fun y hy=>h y (by simp [hy])⟩
theorem Lim.mk {x:Nat} {t:List Nat} (h:x < 4294967296) (ht:Lim t):Lim (x::t):=fun y hy=>by
 rcases List.mem_cons.1 hy with rfl | hy
 · exact h
 · exact ht y hy
theorem Lim.append {xs ys:List Nat} (h:Lim xs) (h':Lim ys):Lim (xs++ys):=fun y hy=>by
 rcases List.mem_append.1 hy with hy | hy
 · exact h y hy
 · exact h' y hy
theorem Lim.take {xs:List Nat} (h:Lim xs) (k:Nat):Lim (xs.take k):=fun y hy=>h y (List.mem_of_mem_take hy)
theorem Lim.drop {xs:List Nat} (h:Lim xs) (k:Nat):Lim (xs.drop k):=fun y hy=>h y (List.mem_of_mem_drop hy)
theorem Lim.of_get {xs:List Nat} (h:Lim xs) {j x:Nat} (hj:xs[j]? = some x):x < 4294967296:=h x (List.mem_of_getElem? hj)
theorem Lim.getD {xs:List Nat} (h:Lim xs) (j:Nat):xs.getD j 0 < 4294967296:=by
 rw [List.getD_eq_getElem?_getD]
 cases hx:xs[j]? with
 | none=>simp
 | some x=>simpa using h.of_get hx
theorem val_append (xs ys:List Nat):val (xs++ys)=val xs+4294967296 ^ xs.length * val ys:=by
 induction xs with
 | nil=>simp [val]
 | cons x t ih =>
   simp only [List.cons_append,val,ih,List.length_cons,Nat.pow_succ,Nat.mul_add]
   rw [← Nat.mul_assoc,Nat.mul_comm 4294967296 (4294967296 ^ t.length)]
   omega
theorem val_snoc (xs:List Nat) (x:Nat):val (xs++[x])=val xs+4294967296 ^ xs.length * x:=by
 rw [val_append];simp [val]
theorem val_lt (xs:List Nat) (h:Lim xs):val xs < 4294967296 ^ xs.length:=by
 induction xs with
 | nil=>simp [val]
 | cons x t ih =>
   have:=ih h.cons.2
   have:=h.cons.1
   simp only [val,List.length_cons,Nat.pow_succ]
   omega
theorem limbsF_spec (f:Nat):∀ n,n < 4294967296 ^ f→val (limbsF f n)=n∧Lim (limbsF f n):=by
 induction f with
 | zero=>intro n h;simp at h;subst h;exact ⟨rfl,Lim.nil⟩
 | succ f ih =>
   intro n h
   unfold limbsF
   by_cases h0:n=0
   · subst h0;simp [val,Lim.nil]
   · rw [if_neg h0]
     have hd:n / 4294967296 < 4294967296 ^ f:=by
      rw [Nat.pow_succ] at h
      exact Nat.div_lt_of_lt_mul (by rw [Nat.mul_comm];exact h)
     obtain ⟨h1,h2⟩:=ih _ hd
     refine ⟨?_,Lim.mk (Nat.mod_lt _ (by decide)) h2⟩
     simp only [val,h1]
     omega
theorem lt_fuel (n:Nat):n < 4294967296 ^ (n.log2+1):=by
 have h1:n < 2 ^ (n.log2+1):=Nat.lt_log2_self
 have h2:(2:Nat) ^ (n.log2+1)≤4294967296 ^ (n.log2+1):=Nat.pow_le_pow_left (by decide) _
 omega
theorem val_limbs (n:Nat):val (limbs n)=n:=(limbsF_spec _ n (lt_fuel n)).1
theorem limbs_lim (n:Nat):Lim (limbs n):=(limbsF_spec _ n (lt_fuel n)).2
def Tight (xs:List Nat):Prop:=∀ ys x,xs=ys++[x]→x ≠ 0
theorem limbsF_tight (f:Nat):∀ n,n < 4294967296 ^ f→Tight (limbsF f n):=by
 induction f with
 | zero=>intro n _ ys x h;simp [limbsF] at h
 | succ f ih =>
   intro n h ys x hx
   unfold limbsF at hx
   by_cases h0:n=0
   · simp [h0] at hx
   · rw [if_neg h0] at hx
     have hd:n / 4294967296 < 4294967296 ^ f:=by
      rw [Nat.pow_succ] at h
      exact Nat.div_lt_of_lt_mul (by rw [Nat.mul_comm];exact h)
     cases ys with
     | nil =>
       simp only [List.nil_append,List.cons.injEq] at hx
       obtain ⟨h1,h2⟩:=hx
       have h3:=(limbsF_spec f _ hd).1
       rw [h2] at h3
       simp [val] at h3
       omega
     | cons y ys =>
       simp only [List.cons_append,List.cons.injEq] at hx
       exact ih _ hd ys x hx.2
theorem limbs_tight (n:Nat):Tight (limbs n):=limbsF_tight _ n (lt_fuel n)
theorem Tight.tail {x:Nat} {t:List Nat} (h:Tight (x::t)):Tight t:=fun ys y hy=>h (x::ys) y (by rw [hy];rfl)
theorem val_zero_tight (xs:List Nat) (ht:Tight xs) (h:val xs=0):xs=[]:=by
 rcases List.eq_nil_or_concat xs with rfl | ⟨ys,x,rfl⟩
 · rfl
 · rw [List.concat_eq_append] at *
   have:=ht ys x rfl
   rw [val_snoc] at h
   have hp:0 < 4294967296 ^ ys.length:=Nat.pow_pos (by decide)
   have:0 < 4294967296 ^ ys.length * x:=Nat.mul_pos hp (by omega)
   omega
theorem val_inj (xs:List Nat):∀ ys,Lim xs→Lim ys→Tight xs→Tight ys→val xs=val ys→xs=ys:=by
 induction xs with
 | nil=>intro ys _ _ _ ty h;exact (val_zero_tight ys ty (by simpa [val] using h.symm)).symm
 | cons x t ih =>
   intro ys lx ly tx ty h
   cases ys with
   | nil=>exact val_zero_tight _ tx (by simpa [val] using h)
   | cons y s =>
     have h1:=lx.cons.1
     have h2:=ly.cons.1
     simp only [val] at h
     have e:x=y:=by omega
     subst e
     rw [ih s lx.cons.2 ly.cons.2 tx.tail ty.tail (by omega)]
theorem limbs_val (xs:List Nat) (h:Lim xs) (ht:Tight xs):limbs (val xs)=xs :=
 val_inj _ _ (limbs_lim _) h (limbs_tight _) ht (val_limbs _)
theorem neatL_snoc_zero (xs:List Nat):neatL (xs++[0])=neatL xs:=by simp [neatL]
theorem neatL_snoc (xs:List Nat) (x:Nat) (h:x ≠ 0):neatL (xs++[x])=xs++[x]:=by simp [neatL,h]
theorem neatL_step (xs:List Nat) (k:Nat) (hk:k < xs.length) (h0:xs.getD k 0=0):neatL (xs.take (k+1))=neatL (xs.take k):=by
 have:xs.take (k+1)=xs.take k++[0]:=by
  rw [List.take_succ_eq_append_getElem hk]
  simp [List.getElem?_eq_getElem hk] at h0
  rw [h0]
 rw [this,neatL_snoc_zero]
theorem neatL_stop (xs:List Nat) (k:Nat) (hk:k < xs.length) (h0:xs.getD k 0 ≠ 0):neatL (xs.take (k+1))=xs.take (k+1):=by
 have:xs.take (k+1)=xs.take k++[xs[k]]:=List.take_succ_eq_append_getElem hk
 rw [this,neatL_snoc]
 simpa [List.getElem?_eq_getElem hk] using h0
theorem neatL_spec (n:Nat):∀ xs:List Nat,xs.length=n→val (neatL xs)=val xs∧Tight (neatL xs)∧(∃ k,neatL xs=xs.take k):=by
 induction n with
 | zero=>intro xs h;have:xs=[]:=List.eq_nil_of_length_eq_zero h;subst this;exact ⟨rfl,by intro ys x h;simp [neatL] at h,0,rfl⟩
 | succ n ih =>
   intro xs h
   rcases List.eq_nil_or_concat xs with rfl | ⟨ys,x,rfl⟩
   · simp at h
   · rw [List.concat_eq_append] at *
     simp at h
     by_cases h0:x=0
     · subst h0
       rw [neatL_snoc_zero]
       obtain ⟨h1,h2,k,h3⟩:=ih ys h
       refine ⟨by rw [h1,val_snoc];simp,h2,?_⟩
       by_cases hk:k≤ys.length
       · exact ⟨k,by rw [h3,List.take_append_of_le_length hk]⟩
       · exact ⟨ys.length,by rw [h3,List.take_append_of_le_length (Nat.le_refl _),List.take_of_length_le (by omega),List.take_length]⟩
     · rw [neatL_snoc _ _ h0]
       refine ⟨rfl,fun zs z hz=>?_,(ys++[x]).length,by rw [List.take_length]⟩
       have:=List.append_inj' hz rfl
       simp at this
       omega
theorem neatL_lim (xs:List Nat) (h:Lim xs):Lim (neatL xs):=by
 obtain ⟨_,_,k,hk⟩:=neatL_spec _ xs rfl
 rw [hk];exact h.take k
theorem neatL_limbs (xs:List Nat) (h:Lim xs):neatL xs=limbs (val xs):=by
 obtain ⟨h1,h2,_⟩:=neatL_spec _ xs rfl
 rw [← h1,limbs_val _ (neatL_lim xs h) h2]
theorem limbs_len_le (n k:Nat):(limbs n).length≤k ↔ n < 4294967296 ^ k:=by
 constructor
 · intro h
   have h1:=val_lt _ (limbs_lim n)
   rw [val_limbs] at h1
   exact Nat.lt_of_lt_of_le h1 (Nat.pow_le_pow_right (by decide) h)
 · intro h
   rcases Nat.lt_or_ge k (limbs n).length with hk | hk
   · exfalso
     rcases List.eq_nil_or_concat (limbs n) with h0 | ⟨ys,x,hx⟩
     · simp [h0] at hk
     · rw [List.concat_eq_append] at hx
       have h0:=limbs_tight n ys x hx
       have hv:=val_limbs n
       rw [hx,val_snoc] at hv
       rw [hx] at hk
       simp at hk
       have h2:(4294967296:Nat) ^ k≤4294967296 ^ ys.length:=Nat.pow_le_pow_right (by decide) (by omega)
       have h3:4294967296 ^ ys.length * 1≤4294967296 ^ ys.length * x:=Nat.mul_le_mul_left _ (by omega)
       omega
   · exact hk
theorem right_of_limbs (n:Nat) (h:n < big):rightB (limbs n)=true:=by
 have h1:(limbs n).length≤32:=(limbs_len_le n 32).2 (by rw [← big_eq];exact h)
 simp only [rightB,h1,decide_true,Bool.true_and,Bool.or_eq_true,decide_eq_true_eq,bne_iff_ne,ne_eq]
 rcases List.eq_nil_or_concat (limbs n) with h0 | ⟨ys,x,hx⟩
 · simp [h0]
 · rw [List.concat_eq_append] at hx
   right
   rw [hx]
   simpa using limbs_tight n ys x hx
def fitN (n:Nat):List Nat × Nat:=if n < big then (limbs n,0) else ([],2)
def addN (xs ys:List Nat):List Nat × Nat:=if rightB xs && rightB ys then fitN (val xs+val ys) else ([],1)
def mulN (xs ys:List Nat):List Nat × Nat:=if rightB xs && rightB ys then fitN (val xs * val ys) else ([],1)
theorem mulN_limbs (a b:Nat) (ha:a < big) (hb:b < big):mulN (limbs a) (limbs b)=fitN (a * b):=by
 simp [mulN,right_of_limbs a ha,right_of_limbs b hb,val_limbs]
theorem addN_limbs (a b:Nat) (ha:a < big) (hb:b < big):addN (limbs a) (limbs b)=fitN (a+b):=by
 simp [addN,right_of_limbs a ha,right_of_limbs b hb,val_limbs]
theorem fit_neat (zs:List Nat) (h:Lim zs):(if (neatL zs).length≤32 then (neatL zs,0) else (([]:List Nat),2))=fitN (val zs):=by
 rw [neatL_limbs zs h]
 unfold fitN
 by_cases hb:val zs < big
 · rw [if_pos hb,if_pos ((limbs_len_le _ 32).2 (by rw [← big_eq];exact hb))]
 · rw [if_neg hb,if_neg (fun hl=>hb (by rw [big_eq];exact (limbs_len_le _ 32).1 hl))]
def addP (xs ys:List Nat):Nat→List Nat × Nat
 | 0=>([],0)
 | i+1 =>
   let p:=addP xs ys i
   let s:=xs.getD i 0+ys.getD i 0+p.2
   (p.1++[s % 4294967296],s / 4294967296)
theorem addP_len (xs ys:List Nat) (i:Nat):(addP xs ys i).1.length=i:=by
 induction i with
 | zero=>rfl
 | succ i ih=>simp [addP,ih]
theorem addP_lim (xs ys:List Nat) (i:Nat):Lim (addP xs ys i).1:=by
 induction i with
 | zero=>exact Lim.nil
 | succ i ih=>exact ih.append (Lim.mk (Nat.mod_lt _ (by decide)) Lim.nil)
theorem addP_carry (xs ys:List Nat) (hx:Lim xs) (hy:Lim ys) (i:Nat):(addP xs ys i).2≤1:=by
 induction i with
 | zero=>simp [addP]
 | succ i ih =>
   have h1:=hx.getD i
   have h2:=hy.getD i
   simp only [addP]
   omega
theorem val_take_succ (xs:List Nat) (i:Nat):val (xs.take (i+1))=val (xs.take i)+4294967296 ^ i * xs.getD i 0:=by
 by_cases h:i < xs.length
 · rw [List.take_succ_eq_append_getElem h,val_snoc,List.length_take,Nat.min_eq_left (by omega)]
   simp [List.getElem?_eq_getElem h]
 · rw [List.take_of_length_le (by omega),List.take_of_length_le (by omega)]
   simp [List.getElem?_eq_none (show xs.length≤i by omega)]
theorem addP_val (xs ys:List Nat) (i:Nat) :
 val (addP xs ys i).1+4294967296 ^ i * (addP xs ys i).2=val (xs.take i)+val (ys.take i):=by
 induction i with
 | zero=>simp [addP,val]
 | succ i ih =>
   rw [val_take_succ,val_take_succ]
   simp only [addP]
   rw [val_snoc,addP_len,Nat.pow_succ]
   generalize (addP xs ys i).1=zs at *
   generalize (addP xs ys i).2=c at *
   generalize xs.getD i 0=x at *
   generalize ys.getD i 0=y at *
   generalize (4294967296:Nat) ^ i=B at *
   have e:4294967296 * ((x+y+c) / 4294967296)+(x+y+c) % 4294967296=x+y+c:=Nat.div_add_mod _ _
   have:B * ((x+y+c) % 4294967296)+B * 4294967296 * ((x+y+c) / 4294967296)=B * x+B * y+B * c:=by
    rw [Nat.mul_assoc,← Nat.mul_add,Nat.add_comm,e,Nat.mul_add,Nat.mul_add]
   omega
theorem addP_all (xs ys:List Nat) (i:Nat) (hx:xs.length≤i) (hy:ys.length≤i) :
 val ((addP xs ys i).1++[(addP xs ys i).2])=val xs+val ys:=by
 rw [val_snoc,addP_len,addP_val,List.take_of_length_le hx,List.take_of_length_le hy]
theorem addP_full (xs ys:List Nat) (hx:Lim xs) (hy:Lim ys) (i:Nat) (h1:xs.length≤i) (h2:ys.length≤i) :
 val (addP xs ys (i+1)).1=val xs+val ys:=by
 have h:=addP_all xs ys i h1 h2
 have hc:=addP_carry xs ys hx hy i
 rw [val_snoc,addP_len] at h
 simp only [addP]
 rw [val_snoc,addP_len]
 have e1:xs.getD i 0=0:=by simp [List.getElem?_eq_none h1]
 have e2:ys.getD i 0=0:=by simp [List.getElem?_eq_none h2]
 rw [e1,e2,Nat.mod_eq_of_lt (by omega)]
 simpa using h
def lowN (N:List Bool) (l:List Int):Nat:=l.countP fun s=>!nulB N s
theorem lowN_cons (N:List Bool) (s:Int) (l:List Int):lowN N (s::l)=lowN N [s]+lowN N l:=by
 unfold lowN
 rw [List.countP_cons,List.countP_cons,List.countP_nil]
 omega
theorem lowN_one (N:List Bool) (s:Int):lowN N [s]=if nulB N s then 0 else 1:=by
 unfold lowN
 rw [List.countP_cons,List.countP_nil]
 cases nulB N s <;> rfl
theorem forest_least {N:List Bool} {T:Int→Nat→Nat} (hT:∀ s,T s 0 ≠ 0→nulB N s=true):∀ {l:List Int} {n:Nat},n < lowN N l→forestT T l n=0
 | [],n,h=>by simp [lowN] at h
 | s::l,n,h=>by
   unfold forestT
   rw [sumL_zero]
   intro k hk
   have hk':=List.mem_range.1 hk
   rw [lowN_cons,lowN_one] at h
   rw [Nat.mul_eq_zero]
   by_cases h0:nulB N s=true
   · rw [if_pos h0] at h
     exact .inr (forest_least hT (by omega))
   · rw [if_neg h0] at h
     rcases Nat.eq_zero_or_pos k with rfl | hkp
     · left
       apply Classical.byContradiction
       intro hne
       exact h0 (hT s hne)
     · exact .inr (forest_least hT (by omega))
theorem sum_cut {f:Nat→Nat} {lo:Nat}:∀ {n hi:Nat},hi≤n→(∀ k,k < lo→f k=0)→(∀ k,hi≤k→k < n→f k=0)→sumL ((List.range n).map f)=sumL ((List.range (hi - lo)).map fun d=>f (lo+d)):=by
 have up:∀ (m:Nat),sumL ((List.range (m+1)).map f)=sumL ((List.range m).map f)+f m:=fun m=>by
  rw [List.range_succ,List.map_append,sumL_append]
  simp [sumL]
 have up2:∀ (m:Nat),sumL ((List.range (m+1)).map fun d=>f (lo+d))=sumL ((List.range m).map fun d=>f (lo+d))+f (lo+m):=fun m=>by
  rw [List.range_succ,List.map_append,sumL_append]
  simp [sumL]
 intro n hi hn h1 h2
 have a:∀ m,hi+m≤n→sumL ((List.range (hi+m)).map f)=sumL ((List.range hi).map f):=by
  intro m
  induction m with
  | zero=>intro _;rfl
  | succ m ih =>
    intro hm
    rw [show hi+(m+1)=(hi+m)+1 by omega,up,ih (by omega),h2 (hi+m) (by omega) (by omega),Nat.add_zero]
 have e:n=hi+(n - hi):=by omega
 rw [e,a (n - hi) (by omega)]
 clear a e hn h2
 rcases Nat.le_total hi lo with h | h
 · rw [show hi - lo=0 by omega]
   show _=0
   rw [sumL_zero]
   intro k hk
   exact h1 k (by have:=List.mem_range.1 hk;omega)
 · obtain ⟨d,rfl⟩:=Nat.exists_eq_add_of_le h
   rw [Nat.add_sub_cancel_left]
   induction d with
   | zero =>
     rw [Nat.add_zero]
     show _=0
     rw [sumL_zero]
     intro k hk
     exact h1 k (List.mem_range.1 hk)
   | succ d ih=>rw [← Nat.add_assoc,up,up2,ih (by omega)]
theorem forest_split {N:List Bool} {T:Int→Nat→Nat} (hT:∀ s,T s 0 ≠ 0→nulB N s=true) (s:Int) (l:List Int) (n:Nat) :
 forestT T (s::l) n=sumL ((List.range (n+1 - lowN N l - lowN N [s])).map fun d=>T s (lowN N [s]+d) * forestT T l (n - (lowN N [s]+d))):=by
 show sumL ((List.range (n+1)).map fun k=>T s k * forestT T l (n - k))=_
 refine sum_cut (f:=fun k=>T s k * forestT T l (n - k)) (n:=n+1) (hi:=n+1 - lowN N l) (by omega) (fun k hk=>?_) fun k hk hkn=>?_
 · rw [lowN_one] at hk
   split at hk
   · omega
   · rename_i h0
     obtain rfl:k=0:=by omega
     show T s 0 * _=0
     rw [Nat.mul_eq_zero]
     left
     apply Classical.byContradiction
     intro hne
     exact h0 (hT s hne)
 · show T s k * _=0
   rw [forest_least hT (by omega),Nat.mul_zero]
def capV (n:Nat):List Nat × Bool:=if n < big then (limbs n,false) else ([],true)
theorem capV_small {n:Nat} (h:n < big):capV n=(limbs n,false):=if_pos h
theorem capV_big {n:Nat} (h:¬ n < big):capV n=([],true):=if_neg h
theorem limbs_none {n:Nat}:(limbs n).length=0 ↔ n=0:=by
 constructor
 · intro h
   have h1:limbs n=[]:=List.eq_nil_of_length_eq_zero h
   have h2:=val_limbs n
   rw [h1] at h2
   exact h2.symm
 · rintro rfl;rfl
end Go.Proofs.YtggbjdmpjidhgaaGreatDoor
