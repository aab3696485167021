/- words that the packed base lacks. -/
import Derived.Test.YtggbjdmpjidhgaaGreatDoorQCtP4
import Derived.Test.YtggbjdmpjidhgaaGreatDoorQCtW11
import Derived.Test.YtggbjdmpjidhgaaGreatDoorQCyR1
import Derived.Test.YtggbjdmpjidhgaaGreatDoorQInvF
import Derived.Test.YtggbjdmpjidhgaaGreatDoorQCtA
import Derived.Test.YtggbjdmpjidhgaaGreatDoorQEntryI
set_option linter.unusedVariables false
set_option linter.unusedSimpArgs false
set_option maxHeartbeats 8000000
set_option maxRecDepth 100000
namespace Go.Proofs.YtggbjdmpjidhgaaGreatDoor
open Go.RowKit
set_option maxHeartbeats 8000000
set_option maxRecDepth 100000
section
variable {G:Gr}
theorem sig_inj {i j:Nat} (hi:i ∈ oldN G) (hj:j ∈ oldN G) (h:sig G i=sig G j):i=j:=by
 have h1:=(sig_toI hi).2.2
 have h2:=(sig_toI hj).2.2
 rw [h,h2] at h1
 exact (Option.some.inj h1).symm
theorem red_null (hG:G.Fits) (hH:(redG G).Fits) {i:Nat} (hi:i ∈ oldN G):(nullN (redG G)).getD (sig G i) false=(nullN G).getD i false:=by
 rw [Bool.eq_iff_iff]
 constructor
 · intro h
   have:=grown_least (b:=false) (G:=redG G) (fun j=>∀ i,(oldN G)[j]? = some i→(nullN G).getD i false=true) (fun r' hr' hX=>?_) h
   · exact this i (sig_toI hi).2.2
   · obtain ⟨r,hk,rfl⟩:=red_rule.1 hr'
     intro j hj
     have hr:=(kept_mem.1 hk).1
     have hl:=hG.left r hr
     have h1:=(sig_toI (kept_left hk)).2.2
     rw [red_left hk,h1] at hj
     obtain rfl:=Option.some.inj hj
     refine grown_closed (b:=false) (G:=G) hr (by omega) (allP_iff.2 fun s hs=>?_)
     have h2:=red_sym hG hk hs
     have h3:=hX (redS (oldN G) s) (List.mem_map.2 ⟨s,hs,rfl⟩)
     refine ⟨fun h0=>h3.1 (by have:=h2.1;omega),fun h0=>?_⟩
     have h4:=h3.2 (h2.1.2 h0)
     rw [h2.2 h0] at h4
     exact h4 _ (sig_toI (kept_sym hG hk hs h0)).2.2
 · intro h
   have:=grown_least (b:=false) (G:=G) (fun i=>(prodN G).getD i false=true∧(i ∈ oldN G→(nullN (redG G)).getD (sig G i) false=true)) (fun r hr hX=>?_) h
   · exact this.2 hi
   · have ha:allP true (prodN G) r.right=true:=allP_iff.2 fun s hs=>⟨fun _=>rfl,fun h0=>((hX s hs).2 h0).1⟩
     have hl:=hG.left r hr
     refine ⟨grown_closed (b:=true) hr (by omega) ha,fun hu=>?_⟩
     have hk:=kept_of hG hr hu ha
     rw [← red_left hk]
     refine grown_closed (b:=false) (G:=redG G) (red_rule.2 ⟨r,hk,rfl⟩) ?_ (allP_iff.2 fun s' hs'=>?_)
     · rw [red_nons,red_left hk];exact (sig_toI hu).2.1
     · obtain ⟨s,hs,rfl⟩:=List.mem_map.1 hs'
       have h1:=red_sym hG hk hs
       refine ⟨fun h0'=>(hX s hs).1 (by have:=h1.1;omega),fun h0'=>?_⟩
       have h0:=h1.1.1 h0'
       rw [h1.2 h0]
       exact ((hX s hs).2 h0).2 (kept_sym hG hk hs h0)
theorem red_nul (hG:G.Fits) (hH:(redG G).Fits) {r:Rul} (hk:r ∈ keptR G) {s:Int} (hs:s ∈ r.right):nulB (nullN (redG G)) (redS (oldN G) s)=nulB (nullN G) s:=by
 have h1:=red_sym hG hk hs
 unfold nulB
 by_cases h0:s < 0
 · rw [h1.2 h0,red_null hG hH (kept_sym hG hk hs h0)]
   have:decide (redS (oldN G) s < 0)=decide (s < 0):=by rw [Bool.eq_iff_iff,decide_eq_true_iff,decide_eq_true_iff];exact h1.1
   rw [this]
 · have e1:decide (s < 0)=false:=by rw [decide_eq_false_iff_not];exact h0
   have e2:decide (redS (oldN G) s < 0)=false:=by rw [decide_eq_false_iff_not];exact fun h=>h0 (h1.1.1 h)
   rw [e1,e2,Bool.false_and,Bool.false_and]
theorem all_map {α β:Type} (f:α→β) (p:β→Bool) (q:α→Bool) (l:List α) (h:∀ x ∈ l,p (f x)=q x):(l.map f).all p=l.all q:=by
 rw [List.all_map]
 rw [Bool.eq_iff_iff,List.all_eq_true,List.all_eq_true]
 constructor
 · intro hh x hx;rw [← h x hx];exact hh x hx
 · intro hh x hx;show p (f x)=true;rw [h x hx];exact hh x hx
theorem red_stands (hG:G.Fits) (hH:(redG G).Fits) {r:Rul} (hk:r ∈ keptR G) {k:Nat} {s:Int} (hs:r.right[k]? = some s) :
 standsR (nullN (redG G)) (prodN (redG G)) (redR (oldN G) r).right k (redS (oldN G) s)=standsR (nullN G) (prodN G) r.right k s:=by
 have hm:=List.mem_of_getElem? hs
 have h1:=red_sym hG hk hm
 have ha:=(kept_mem.1 hk).2.2
 have ha':allP true (prodN (redG G)) (redR (oldN G) r).right=true:=allP_iff.2 fun s' hs'=>⟨fun _=>rfl,fun h0'=>by
  obtain ⟨q,hq,rfl⟩:=List.mem_map.1 hs'
  have h2:=red_sym hG hk hq
  rw [h2.2 (h2.1.1 h0')]
  exact red_prod hG hH (kept_sym hG hk hq (h2.1.1 h0'))⟩
 unfold standsR
 rw [ha,ha']
 have e1:decide (redS (oldN G) s < 0)=decide (s < 0):=by rw [Bool.eq_iff_iff,decide_eq_true_iff,decide_eq_true_iff];exact h1.1
 rw [e1]
 congr 2
 unfold aloneP
 show (((r.right.map (redS (oldN G))).take k).all (nulB (nullN (redG G))) && ((r.right.map (redS (oldN G))).drop (k+1)).all (nulB (nullN (redG G))))=_
 rw [← List.map_take,← List.map_drop,all_map _ _ (nulB (nullN G)) _ fun q hq=>red_nul hG hH hk (List.mem_of_mem_take hq),all_map _ _ (nulB (nullN G)) _ fun q hq=>red_nul hG hH hk (List.mem_of_mem_drop hq)]
theorem red_steps (hG:G.Fits) (hH:(redG G).Fits) {i t:Nat} (hi:i ∈ oldN G) (ht:t ∈ oldN G):((stepsN (redG G)).getD (sig G i) 0).testBit (sig G t)=((stepsN G).getD i 0).testBit t:=by
 rw [Bool.eq_iff_iff,steps_mem hH,steps_mem hG]
 constructor
 · rintro ⟨r',hr',k,s',hs',hst,hl,hn⟩
   obtain ⟨r,hk,rfl⟩:=red_rule.1 hr'
   have hs2:(r.right.map (redS (oldN G)))[k]? = some s':=hs'
   rw [List.getElem?_map] at hs2
   cases hs:r.right[k]? with
   | none=>rw [hs] at hs2;cases hs2
   | some s =>
     rw [hs] at hs2
     have:redS (oldN G) s=s':=by simpa using hs2
     subst this
     rw [red_stands hG hH hk hs] at hst
     have h0:s < 0:=by
      unfold standsR at hst
      simp only [Bool.and_eq_true,decide_eq_true_eq] at hst
      exact hst.1.1
     have hm:=List.mem_of_getElem? hs
     have h1:=red_sym hG hk hm
     rw [red_left hk] at hl
     rw [h1.2 h0] at hn
     exact ⟨r,(kept_mem.1 hk).1,k,s,hs,hst,sig_inj (kept_left hk) hi hl,sig_inj (kept_sym hG hk hm h0) ht hn⟩
 · rintro ⟨r,hr,k,s,hs,hst,rfl,rfl⟩
   have ha:allP true (prodN G) r.right=true∧s < 0:=by
    unfold standsR at hst
    simp only [Bool.and_eq_true,decide_eq_true_eq] at hst
    exact ⟨hst.2,hst.1.1⟩
   have hk:=kept_of hG hr hi ha.1
   have h1:=red_sym hG hk (List.mem_of_getElem? hs)
   refine ⟨redR (oldN G) r,red_rule.2 ⟨r,hk,rfl⟩,k,redS (oldN G) s,?_,by rw [red_stands hG hH hk hs];exact hst,red_left hk,h1.2 ha.2⟩
   show (r.right.map (redS (oldN G)))[k]? = _
   rw [List.getElem?_map,hs]
   rfl
theorem old_closed (hG:G.Fits) {i t:Nat} (hi:i ∈ oldN G) (h:((stepsN G).getD i 0).testBit t=true):t ∈ oldN G:=by
 rw [old_mem hG] at hi ⊢
 have:=use_closed G hG i t ((useS_bit G hG i).2 hi) h
 exact (useS_bit G hG t).1 this
theorem red_comes (hG:G.Fits) (hH:(redG G).Fits) {i t:Nat} (hi:i ∈ oldN G) (ht:t ∈ oldN G):comesTo (stepsN (redG G)) (sig G i) (sig G t)=comesTo (stepsN G) i t:=by
 have hlen:∀ {j},j ∈ oldN G→sig G j < (stepsN (redG G)).length:=fun hj=>by rw [stepsN_len,red_nons];exact (sig_toI hj).2.1
 have hlen2:∀ {j},j ∈ oldN G→j < (stepsN G).length:=fun hj=>by rw [stepsN_len];exact use_lt ((old_mem hG).1 hj)
 rw [Bool.eq_iff_iff]
 constructor
 · intro h
   have:=comes_in (S:=stepsN (redG G)) (fun j=>∀ t,(oldN G)[j]? = some t→comesTo (stepsN G) i t=true) (fun k hk hX t' ht' t2 ht2=>?_) (stepsN_in _ hH) (hlen hi) (fun t' ht' t2 ht2=>?_) h
   · exact this t (sig_toI ht).2.2
   · rw [stepsN_len,red_nons] at hk
     have hk2:=List.getElem?_eq_getElem hk
     have hc:=hX _ hk2
     have hm:=List.mem_of_getElem? hk2
     have hm2:=List.mem_of_getElem? ht2
     rw [← sig_get hk2,← sig_get ht2,red_steps hG hH hm hm2] at ht'
     exact comes_trans (hlen2 hi) (hlen2 hm) hc (comes_once (hlen2 hm) ht')
   · have hm2:=List.mem_of_getElem? ht2
     rw [← sig_get ht2,red_steps hG hH hi hm2] at ht'
     exact comes_once (hlen2 hi) ht'
 · intro h
   have:=comes_in (S:=stepsN G) (fun j=>j ∈ oldN G∧comesTo (stepsN (redG G)) (sig G i) (sig G j)=true) (fun k hk hX t' ht'=>?_) (stepsN_in _ hG) (hlen2 hi) (fun t' ht'=>?_) h
   · exact this.2
   · have hm:=old_closed hG hX.1 ht'
     refine ⟨hm,comes_trans (hlen hi) (hlen hX.1) hX.2 (comes_once (hlen hX.1) ?_)⟩
     rw [red_steps hG hH hX.1 hm]
     exact ht'
   · have hm:=old_closed hG hi ht'
     refine ⟨hm,comes_once (hlen hi) ?_⟩
     rw [red_steps hG hH hi hm]
     exact ht'
theorem end_iff (hr:G.right=true):endG G=true ↔ ∃ i,(useS G).testBit i=true∧comesTo (stepsN G) i i=true:=by
 have hG:=Gr.fits hr
 unfold endG cycG useG
 rw [if_pos hr,if_pos hr]
 constructor
 · intro h
   have hne:cycS (stepsN G) &&& useS G ≠ 0:=by simpa using h
   obtain ⟨i,hi⟩:=bit_of_ne hne
   rw [Nat.testBit_and,Bool.and_eq_true] at hi
   exact ⟨i,hi.2,((cyc_bit hG i).1 hi.1).2⟩
 · rintro ⟨i,hu,hc⟩
   have hu2:=(useS_bit G hG i).1 hu
   have h1:(cycS (stepsN G) &&& useS G).testBit i=true:=by
    rw [Nat.testBit_and,hu,(cyc_bit hG i).2 ⟨use_lt hu2,hc⟩]
    rfl
   have hne:cycS (stepsN G) &&& useS G ≠ 0:=fun h=>by rw [h,Nat.zero_testBit] at h1;cases h1
   simpa using hne
theorem red_ends (hr:G.right=true) (hp:(prodN G).getD G.start.toNat false=true):endG (redG G)=endG G∧(endG (redG G)=true ↔ cycG (redG G) ≠ 0):=by
 have hG:=Gr.fits hr
 have hrH:=red_right hr hp
 have hH:=Gr.fits hrH
 have hall:∀ i,i ∈ oldN G→(useS (redG G)).testBit (sig G i)=true:=fun i hi=>(useS_bit _ hH _).2 ⟨red_prod hG hH hi,red_reach hG hH hp hi⟩
 have hone:∀ j,j < (redG G).nons.length→∃ i,i ∈ oldN G∧sig G i=j:=fun j hj=>by
  rw [red_nons] at hj
  have:=List.getElem?_eq_getElem hj
  exact ⟨_,List.mem_of_getElem? this,sig_get this⟩
 constructor
 · rw [Bool.eq_iff_iff,end_iff hrH,end_iff hr]
   constructor
   · rintro ⟨j,hu,hc⟩
     obtain ⟨i,hi,rfl⟩:=hone j (use_lt ((useS_bit _ hH j).1 hu))
     rw [red_comes hG hH hi hi] at hc
     exact ⟨i,(useS_bit G hG i).2 ((old_mem hG).1 hi),hc⟩
   · rintro ⟨i,hu,hc⟩
     have hi:=(old_mem hG).2 ((useS_bit G hG i).1 hu)
     exact ⟨sig G i,hall i hi,by rw [red_comes hG hH hi hi];exact hc⟩
 · rw [end_iff hrH]
   unfold cycG
   rw [if_pos hrH]
   constructor
   · rintro ⟨j,hu,hc⟩ h0
     have:=(cyc_bit hH j).2 ⟨use_lt ((useS_bit _ hH j).1 hu),hc⟩
     rw [h0,Nat.zero_testBit] at this
     cases this
   · intro hne
     obtain ⟨j,hj⟩:=bit_of_ne hne
     obtain ⟨hl,hc⟩:=(cyc_bit hH j).1 hj
     obtain ⟨i,hi,rfl⟩:=hone j hl
     exact ⟨sig G i,hall i hi,hc⟩
end
theorem lefts_range (G:Gr):∀ (rs:List Rul) (t:Int),G.leftsGo rs (-1)=some t→oldOf rs=List.range (t+1).toNat:=by
 intro rs
 induction rs using snoc_ind with
 | h0=>intro t h;simp [Gr.leftsGo] at h;subst h;rfl
 | h1 rs r ih =>
   intro t h
   rw [Gr.leftsGo_snoc] at h
   cases hg:G.leftsGo rs (-1) with
   | none=>rw [hg] at h;cases h
   | some t0 =>
     rw [hg,Option.bind_some] at h
     have hbd:=G.leftsGo_bd rs (-1) t0 (by omega) hg
     split at h
     · rename_i hc
       have e:max t0 r.left=t:=Option.some.inj h
       rw [oldOf_snoc,ih t0 hg]
       unfold putO
       by_cases hl:r.left≤t0
       · rw [if_pos (by rw [List.mem_range];omega)]
         congr 1
         omega
       · rw [if_neg (by rw [List.mem_range];omega)]
         have e1:r.left=t0+1:=by omega
         have e2:(t+1).toNat=(t0+1).toNat+1:=by omega
         rw [e2,List.range_succ,e1]
     · cases h
theorem toI_range {n i:Nat} (h:i < n):toI (List.range n) i=(i:Int):=toI_get List.nodup_range (List.getElem?_range h)
theorem red_id {G:Gr} (hr:G.right=true) (hU:∀ i,i < G.nons.length→(useS G).testBit i=true):redG G=G:=by
 have hG:=Gr.fits hr
 obtain ⟨_,_,_,hst,hlf⟩:=right_parts.1 hr
 have hUb:∀ i,i < G.nons.length→(prodN G).getD i false=true∧(reachN G).getD i false=true:=fun i hi=>(useS_bit G hG i).1 (hU i hi)
 have hnl:∀ r ∈ G.rules,∀ s ∈ r.right,s < 0→nonI s < G.nons.length:=fun r hr s hs h0=>by
  have:=hG.sym r hr s hs
  unfold nonI
  omega
 have hk:keptR G=G.rules:=by
  unfold keptR
  rw [List.filter_eq_self]
  intro r hr
  have hl:=hG.left r hr
  unfold keepB
  rw [Bool.and_eq_true]
  exact ⟨(hUb _ (by omega)).2,allP_iff.2 fun s hs=>⟨fun _=>rfl,fun h0=>(hUb _ (hnl r hr s hs h0)).1⟩⟩
 have ho:oldN G=List.range G.nons.length:=by
  unfold oldN
  rw [hk,lefts_range G _ _ hlf]
  congr 1
  omega
 have h1:(oldN G).map (nameO G)=G.nons:=by
  rw [ho]
  refine List.ext_getElem? fun j=>?_
  rw [List.getElem?_map]
  by_cases hj:j < G.nons.length
  · rw [List.getElem?_range hj,List.getElem?_eq_getElem hj]
    show some (nameO G j)=_
    unfold nameO
    rw [List.getElem?_eq_getElem hj]
    rfl
  · rw [List.getElem?_eq_none (by simpa using hj),List.getElem?_eq_none (by omega)]
    rfl
 have h2:(keptR G).map (redR (oldN G))=G.rules:=by
  rw [hk,ho]
  conv=>rhs;rw [← List.map_id G.rules]
  refine List.map_congr_left fun r hr=>?_
  have hl:=hG.left r hr
  have e1:toI (List.range G.nons.length) r.left.toNat=r.left:=by rw [toI_range (by omega)];omega
  have e2:r.right.map (redS (List.range G.nons.length))=r.right:=by
   conv=>rhs;rw [← List.map_id r.right]
   refine List.map_congr_left fun s hs=>?_
   unfold redS
   split
   · rename_i h0
     rw [toI_range (hnl r hr s hs h0)]
     show -1 - ((nonI s:Nat):Int)=s
     exact nonI_neg h0
   · rfl
  unfold redR
  rw [e1,e2]
  rfl
 have h3:toI (oldN G) G.start.toNat=G.start:=by rw [ho,toI_range (by omega)];omega
 unfold redG
 rw [h1,h2,h3]
theorem red_twice {G:Gr} (hr:G.right=true) (hp:(prodN G).getD G.start.toNat false=true):redG (redG G)=redG G:=red_id (red_right hr hp) fun i hi=>red_use hr hp hi
set_option maxHeartbeats 8000000
set_option maxRecDepth 100000
open Ieee
def IsN (d:Datum) (n:Nat):Prop:=∃ k:Nat,d = .number false (n * 2 ^ k) (-(k:Int))
theorem IsN.zero (k:Nat):IsN (.number false 0 (-(k:Int))) 0:=⟨k,by rw [Nat.zero_mul]⟩
theorem Own.drew {w:World} {g:Nat} {t:TypeId} {k:IntKind} {zs:List Nat} (h:Own w g t k zs):Own w.drew g t k zs:=h
theorem Nums.drew {k:IntKind} {w:World} {A:Option Addr} {n c:Nat} {xs:List Nat} (h:Nums k w A n c xs):Nums k w.drew A n c xs:=h
theorem Same.drew {a w:World} (h:Same a w):Same a w.drew:=h.drewN 1
theorem Ints.drew {k:IntKind} {w:World} {A:Option Addr} {n c:Nat} {zs:List Int} (h:Ints k w A n c zs):Ints k w.drew A n c zs:=h
section
variable {P:Program} {w:World}
end
theorem forest_by_split (T:Int→Nat→Nat) (s:Int) (l:List Int) (n:Nat):forestT T (s::l) n=splitN T s l n 0 (n+1):=by
 simp only [splitN,Nat.zero_add]
 rfl
theorem forest_single (T:Int→Nat→Nat) (s:Int) (n:Nat):forestT T [s] n=T s n:=by
 have h0:∀ d,d≤n→splitN T s [] n 0 d=0:=by
  intro d
  induction d with
  | zero=>intro _;rfl
  | succ d ih =>
    intro hd
    rw [splitN_succ,ih (by omega),Nat.zero_add]
    have h1:forestT T [] (n - (0+d))=0:=by unfold forestT;rw [if_neg (by omega)]
    rw [h1,Nat.mul_zero]
 rw [forest_by_split,splitN_succ,h0 n (Nat.le_refl _),Nat.zero_add,Nat.zero_add,Nat.sub_self]
 show T s n * (if 0=0 then 1 else 0)=_
 rw [if_pos rfl,Nat.mul_one]
structure Told22 (G:Gr):Prop where
 red:isRed G=true
 cyc:cycG G=0
theorem ofN_fit {G:Gr} (hT:Told22 G) {l:List Int} {n:Nat} (hl:l.length≤6) (hn:n≤10) (hh:∀ s ∈ l,G.has s=true):ofN22 G l (n:Int)=fitN (forestT (treeN G) l n):=by
 unfold ofN22
 rw [if_neg,if_neg (by rw [hT.cyc];exact fun h=>h rfl),Int.toNat_natCast]
 rintro (h | h | h | h | ⟨s,hs,h⟩)
 · rw [hT.red] at h;cases h
 · omega
 · omega
 · omega
 · rw [hh s hs] at h;cases h
theorem fit_cases (x:Nat):(x < big∧fitN x=(limbs x,0))∨(¬ x < big∧fitN x=([],2)):=by
 by_cases h:x < big
 · exact .inl ⟨h,by unfold fitN;rw [if_pos h]⟩
 · exact .inr ⟨h,by unfold fitN;rw [if_neg h]⟩
theorem u8_natC {a:Int} (h:(Lit.int .u8 a).wf=true):∃ n:Nat,a=(n:Int)∧n < 256:=by
 have h0:0≤a∧a≤255:=by
  simpa [Lit.wf,IntKind.min,IntKind.max,IntKind.bits,IntKind.signed] using h
 exact ⟨a.toNat,by omega,by omega⟩
theorem red_isRed {G:Gr} (hr:G.right=true) (hok:redOK G=true):isRed (redG G)=true:=by
 have hp:(prodN G).getD G.start.toNat false=true:=by unfold redOK at hok;rw [Bool.and_eq_true] at hok;exact hok.2
 have hG:=Gr.fits hr
 have hRr:=red_right hr hp
 have hs:G.start.toNat ∈ oldN G:=prod_start hG hp
 rw [isRed_iff]
 refine ⟨?_,red_twice hr hp⟩
 unfold redOK
 rw [hRr,red_start hG hp,red_prod hG (Gr.fits hRr) hs]
 rfl
theorem cnt_no {G:Gr} (hr:G.right=true) (hok:redOK G=false) {n:Nat} (hn:n≤10):cntN22 G (n:Int)=([],0):=by
 unfold cntN22
 rw [if_neg,if_pos hok]
 rintro (h | h | h)
 · rw [hr] at h;cases h
 · omega
 · omega
theorem cnt_red {G:Gr} (hr:G.right=true) (hok:redOK G=true) {n:Nat} (hn:n≤10):cntN22 G (n:Int)=ofN22 (redG G) [-1 - (redG G).start] (n:Int):=by
 unfold cntN22
 rw [if_neg,if_neg (by rw [hok];simp)]
 rintro (h | h | h)
 · rw [hr] at h;cases h
 · omega
 · omega
theorem has_start {G:Gr} (hr:G.right=true):G.has (-1 - G.start)=true:=by
 have hG:=Gr.fits hr
 have hst:=hG.st
 unfold Gr.has
 rw [if_neg (by omega),decide_eq_true_iff]
 omega
theorem cnt_cyc {G:Gr} (hr:G.right=true) (hok:redOK G=true) (hC:cycG (redG G) ≠ 0) {n:Nat} (hn:n≤10):cntN22 G (n:Int)=([],10):=by
 rw [cnt_red hr hok hn]
 have hp:(prodN G).getD G.start.toNat false=true:=by unfold redOK at hok;rw [Bool.and_eq_true] at hok;exact hok.2
 have hs:=has_start (red_right hr hp)
 unfold ofN22
 rw [if_neg,if_pos hC]
 rintro (h | h | h | h | ⟨s,hs1,h⟩)
 · rw [red_isRed hr hok] at h;cases h
 · simp at h
 · omega
 · omega
 · rw [List.mem_singleton.1 hs1,hs] at h;cases h
theorem cnt_fit {G:Gr} (hr:G.right=true) (hok:redOK G=true) (hC:cycG (redG G)=0) {n:Nat} (hn:n≤10):cntN22 G (n:Int)=fitN (treeN (redG G) (-1 - (redG G).start) n):=by
 rw [cnt_red hr hok hn]
 have hp:(prodN G).getD G.start.toNat false=true:=by unfold redOK at hok;rw [Bool.and_eq_true] at hok;exact hok.2
 have hs:=has_start (red_right hr hp)
 rw [ofN_fit ⟨red_isRed hr hok,hC⟩ (by simp) hn (fun z hz=>by rw [List.mem_singleton.1 hz];exact hs),forest_single]
theorem sumL_pos {α:Type} {f:α→Nat} {l:List α}:sumL (l.map f) ≠ 0 ↔ ∃ x ∈ l,f x ≠ 0:=by
 constructor
 · intro h
   apply Classical.byContradiction
   intro hc
   exact h (sumL_zero.2 fun x hx=>Classical.byContradiction fun h0=>hc ⟨x,hx,h0⟩)
 · rintro ⟨x,hx,h0⟩ h
   exact h0 (sumL_zero.1 h x hx)
def canL (X:Int→Nat→Prop):List Int→Nat→Prop
 | [],n=>n=0
 | s::l,n=>∃ k,k≤n∧X s k∧canL X l (n - k)
theorem canL_mono {X Y:Int→Nat→Prop}:∀ {l:List Int} {n:Nat},(∀ s ∈ l,∀ k,X s k→Y s k)→canL X l n→canL Y l n
 | [],_,_,h=>h
 | s::l,n,hX,⟨k,hk,h1,h2⟩=>⟨k,hk,hX s (List.mem_cons_self ..) k h1,canL_mono (fun q hq j hj=>hX q (List.mem_cons_of_mem _ hq) j hj) h2⟩
theorem canL_map {X:Int→Nat→Prop} (f:Int→Int):∀ {l:List Int} {n:Nat},canL X (l.map f) n ↔ canL (fun s k=>X (f s) k) l n
 | [],_=>Iff.rfl
 | s::l,n=>by
   show (∃ k,k≤n∧X (f s) k∧canL X (l.map f) (n - k)) ↔ ∃ k,k≤n∧X (f s) k∧canL (fun s k=>X (f s) k) l (n - k)
   constructor
   · rintro ⟨k,h1,h2,h3⟩;exact ⟨k,h1,h2,(canL_map f).1 h3⟩
   · rintro ⟨k,h1,h2,h3⟩;exact ⟨k,h1,h2,(canL_map f).2 h3⟩
theorem canL_all {X:Int→Nat→Prop}:∀ {l:List Int} {n:Nat},canL X l n→∀ s ∈ l,∃ k,X s k
 | [],_,_,s,hs=>by cases hs
 | q::l,n,⟨k,_,h1,h2⟩,s,hs=>by
   rcases List.mem_cons.1 hs with rfl | hs
   · exact ⟨k,h1⟩
   · exact canL_all h2 s hs
theorem forest_can {T:Int→Nat→Nat}:∀ {l:List Int} {n:Nat},forestT T l n ≠ 0 ↔ canL (fun s k=>T s k ≠ 0) l n
 | [],n=>by
   show (if n=0 then 1 else 0) ≠ 0 ↔ n=0
   split <;> simp [*]
 | s::l,n=>by
   show sumL ((List.range (n+1)).map fun k=>T s k * forestT T l (n - k)) ≠ 0 ↔ ∃ k,k≤n∧T s k ≠ 0∧canL _ l (n - k)
   rw [sumL_pos]
   constructor
   · rintro ⟨k,hk,h⟩
     have:=List.mem_range.1 hk
     exact ⟨k,by omega,fun h0=>h (by rw [h0,Nat.zero_mul]),forest_can.1 fun h0=>h (by rw [h0,Nat.mul_zero])⟩
   · rintro ⟨k,hk,h1,h2⟩
     refine ⟨k,List.mem_range.2 (by omega),fun h=>?_⟩
     rcases Nat.mul_eq_zero.1 h with h | h
     · exact h1 h
     · exact forest_can.2 h2 h
theorem rules_can {T:Int→Nat→Nat} {rs:List Rul} {i n:Nat}:rulesT T rs i n ≠ 0 ↔ ∃ r ∈ rs,r.left.toNat=i∧canL (fun s k=>T s k ≠ 0) r.right n:=by
 unfold rulesT
 rw [sumL_pos]
 constructor
 · rintro ⟨r,hr,h⟩
   rw [List.mem_filter,decide_eq_true_iff] at hr
   exact ⟨r,hr.1,hr.2,forest_can.1 h⟩
 · rintro ⟨r,hr,hl,h⟩
   exact ⟨r,List.mem_filter.2 ⟨hr,decide_eq_true_iff.2 hl⟩,forest_can.2 h⟩
theorem treeF_up (G:Gr):∀ (f:Nat) {s:Int} {n:Nat},treeF G f s n ≠ 0→treeF G (f+1) s n ≠ 0
 | f,s,n,h=>by
   by_cases h0:0≤s
   · rw [treeF_term G _ h0] at h ⊢;exact h
   · cases f with
     | zero=>exfalso;unfold treeF at h;rw [if_neg h0] at h;exact h rfl
     | succ f =>
       rw [treeF_non G f (by omega)] at h
       rw [treeF_non G (f+1) (by omega)]
       obtain ⟨r,hr,hl,hc⟩:=rules_can.1 h
       exact rules_can.2 ⟨r,hr,hl,canL_mono (fun q _ k hk=>treeF_up G f hk) hc⟩
theorem treeF_le (G:Gr) {s:Int} {n f:Nat} (h:treeF G f s n ≠ 0):∀ {g:Nat},f≤g→treeF G g s n ≠ 0:=by
 intro g hg
 obtain ⟨d,rfl⟩:=Nat.exists_eq_add_of_le hg
 clear hg
 induction d with
 | zero=>exact h
 | succ d ih=>exact treeF_up G _ ih
def CanT (G:Gr) (s:Int) (n:Nat):Prop:=∃ f,treeF G f s n ≠ 0
theorem can_fuel {G:Gr}:∀ {l:List Int} {n:Nat},canL (CanT G) l n→∃ f,canL (fun s k=>treeF G f s k ≠ 0) l n
 | [],_,h=>⟨0,h⟩
 | s::l,n,⟨k,hk,⟨f,hf⟩,h⟩=>by
   obtain ⟨g,hg⟩:=can_fuel h
   exact ⟨max f g,k,hk,treeF_le G hf (Nat.le_max_left ..),canL_mono (fun q _ j hj=>treeF_le G hj (Nat.le_max_right ..)) hg⟩
theorem can_term {G:Gr} {s:Int} (h:0≤s) {n:Nat}:CanT G s n ↔ n=1:=by
 constructor
 · rintro ⟨f,hf⟩
   rw [treeF_term G f h] at hf
   unfold oneT at hf
   exact Classical.byContradiction fun hn=>hf (if_neg hn)
 · rintro rfl
   exact ⟨0,by rw [treeF_term G 0 h];decide⟩
theorem can_non {G:Gr} {s:Int} (h:s < 0) {n:Nat}:CanT G s n ↔ ∃ r ∈ G.rules,r.left.toNat=nonI s∧canL (CanT G) r.right n:=by
 constructor
 · rintro ⟨f,hf⟩
   cases f with
   | zero=>exfalso;unfold treeF at hf;rw [if_neg (by omega)] at hf;exact hf rfl
   | succ f =>
     rw [treeF_non G f h] at hf
     obtain ⟨r,hr,hl,hc⟩:=rules_can.1 hf
     exact ⟨r,hr,hl,canL_mono (fun q _ k hk=>⟨f,hk⟩) hc⟩
 · rintro ⟨r,hr,hl,hc⟩
   obtain ⟨f,hf⟩:=can_fuel hc
   exact ⟨f+1,by rw [treeF_non G f h];exact rules_can.2 ⟨r,hr,hl,hf⟩⟩
theorem can_least {G:Gr} (X:Int→Nat→Prop) (h0:∀ s,0≤s→X s 1) (h1:∀ r ∈ G.rules,∀ s,s < 0→r.left.toNat=nonI s→∀ n,canL X r.right n→X s n):∀ {s:Int} {n:Nat},CanT G s n→X s n:=by
 have key:∀ (f:Nat) {s:Int} {n:Nat},treeF G f s n ≠ 0→X s n:=by
  intro f
  induction f with
  | zero =>
    intro s n h
    by_cases hs:0≤s
    · obtain rfl:=(can_term hs).1 ⟨0,h⟩
      exact h0 s hs
    · exfalso;unfold treeF at h;rw [if_neg hs] at h;exact h rfl
  | succ f ih =>
    intro s n h
    by_cases hs:0≤s
    · obtain rfl:=(can_term hs).1 ⟨f+1,h⟩
      exact h0 s hs
    · rw [treeF_non G f (by omega)] at h
      obtain ⟨r,hr,hl,hc⟩:=rules_can.1 h
      exact h1 r hr s (by omega) hl n (canL_mono (fun q _ k hk=>ih hk) hc)
 rintro s n ⟨f,hf⟩
 exact key f hf
theorem can_prod {G:Gr} (hG:G.Fits) {s:Int} {n:Nat} (h:CanT G s n) (hs:s < 0):(prodN G).getD (nonI s) false=true:=by
 refine can_least (G:=G) (fun s _=>s < 0→(prodN G).getD (nonI s) false=true) (fun s h0 h1=>by omega) (fun r hr q hq hl m hc _=>?_) h hs
 have hl2:=hG.left r hr
 rw [← hl]
 refine grown_closed (b:=true) hr (by omega) (allP_iff.2 fun t ht=>⟨fun _=>rfl,fun h0=>?_⟩)
 obtain ⟨k,hk⟩:=canL_all hc t ht
 exact hk h0
theorem can_tree {G:Gr} (hP:Plain G) {s:Int} (hs:s < 0→nonI s < G.nons.length) (n:Nat):treeN G s n ≠ 0 ↔ CanT G s n:=by
 constructor
 · intro h;exact ⟨fuelN n,h⟩
 · rintro ⟨f,hf⟩
   have h:=treeF_le G hf (g:=max f (n * 4294967296+4294967296)) (Nat.le_max_left ..)
   rwa [treeN_fuel hP hs (Nat.le_max_right ..)] at h
theorem can_red {G:Gr} (hr:G.right=true) (hp:(prodN G).getD G.start.toNat false=true) {i:Nat} (hi:i ∈ oldN G) (n:Nat):CanT (redG G) (-1 - (sig G i:Int)) n ↔ CanT G (-1 - (i:Int)) n:=by
 have hG:=Gr.fits hr
 have hH:=Gr.fits (red_right hr hp)
 constructor
 · intro h
   refine (can_least (G:=redG G) (fun s n=>(0≤s→n=1)∧∀ j ∈ oldN G,s < 0→nonI s=sig G j→CanT G (-1 - (j:Int)) n) (fun s h0=>⟨fun _=>rfl,fun j _ h1=>by omega⟩) (fun r' hr' s hs hl m hc=>⟨fun h=>by omega,fun j hj _ hsj=>?_⟩) h).2 i hi (by omega) (nonI_of _)
   obtain ⟨r,hk,rfl⟩:=red_rule.1 hr'
   have hll:r.left.toNat=j:=sig_inj (kept_left hk) hj (by rw [← red_left hk,hl,hsj])
   refine (can_non (by omega)).2 ⟨r,(kept_mem.1 hk).1,by rw [nonI_of];exact hll,canL_mono (fun q hq k hk2=>?_) ((canL_map (redS (oldN G))).1 hc)⟩
   obtain ⟨e1,e2⟩:=red_sym hG hk hq
   by_cases h0:q < 0
   · have:=hk2.2 (nonI q) (kept_sym hG hk hq h0) (e1.2 h0) (e2 h0)
     rwa [nonI_neg h0] at this
   · exact (can_term (by omega)).2 (hk2.1 (by have:¬ redS (oldN G) q < 0:=fun h=>h0 (e1.1 h);omega))
 · intro h
   have:=((can_least (G:=G) (fun s n=>(0≤s→n=1)∧(s < 0→(prodN G).getD (nonI s) false=true∧(nonI s ∈ oldN G→CanT (redG G) (-1 - (sig G (nonI s):Int)) n))) (fun s h0=>⟨fun _=>rfl,fun h=>by omega⟩) (fun r hrr s hs hl m hc=>⟨fun h=>by omega,fun _=>?_⟩) h).2 (by omega)).2 (by rw [nonI_of];exact hi)
   · rw [nonI_of] at this;exact this
   have hap:allP true (prodN G) r.right=true:=allP_iff.2 fun t ht=>⟨fun _=>rfl,fun h0=>by
    obtain ⟨k,hk⟩:=canL_all hc t ht
    exact (hk.2 h0).1⟩
   have hl2:=hG.left r hrr
   refine ⟨by rw [← hl];exact grown_closed (b:=true) hrr (by omega) hap,fun hold=>?_⟩
   have hk:r ∈ keptR G:=kept_of hG hrr (by rw [hl];exact hold) hap
   refine (can_non (by omega)).2 ⟨redR (oldN G) r,red_rule.2 ⟨r,hk,rfl⟩,by rw [red_left hk,hl,nonI_of],(canL_map (redS (oldN G))).2 (canL_mono (fun q hq k hk2=>?_) hc)⟩
   obtain ⟨e1,e2⟩:=red_sym hG hk hq
   by_cases h0:q < 0
   · have h1:=(hk2.2 h0).2 (kept_sym hG hk hq h0)
     rw [← e2 h0,nonI_neg (e1.2 h0)] at h1
     exact h1
   · have:¬ redS (oldN G) q < 0:=fun h=>h0 (e1.1 h)
     exact (can_term (by omega)).2 (hk2.1 (by omega))
theorem can_none {G:Gr} (hr:G.right=true) (hp:(prodN G).getD G.start.toNat false=false) (n:Nat):¬ CanT G (-1 - G.start) n:=by
 have hG:=Gr.fits hr
 intro h
 have hst:=hG.st
 have:=can_prod hG h (by omega)
 rw [show nonI (-1 - G.start)=G.start.toNat by unfold nonI;omega] at this
 rw [this] at hp
 cases hp
theorem can_start {G:Gr} (hr:G.right=true) (hp:(prodN G).getD G.start.toNat false=true) (hC:cycG (redG G)=0) (n:Nat):treeN (redG G) (-1 - (redG G).start) n ≠ 0 ↔ CanT G (-1 - G.start) n:=by
 have hG:=Gr.fits hr
 have hRr:=red_right hr hp
 have hH:=Gr.fits hRr
 have hs:G.start.toNat ∈ oldN G:=prod_start hG hp
 have hpr:(prodN (redG G)).getD (redG G).start.toNat false=true:=by rw [red_start hG hp];exact red_prod hG hH hs
 obtain ⟨hP,_,_⟩:=reduced_plain hRr hpr (red_twice hr hp) hC
 have hst:=hG.st
 have hst2:=hH.st
 rw [can_tree hP (fun _=>by unfold nonI;omega)]
 have e1:(redG G).start=(sig G G.start.toNat:Int):=by have:=red_start hG hp;omega
 have e2:G.start=(G.start.toNat:Int):=by omega
 rw [e1,can_red hr hp hs,← e2]
def stepR (tab:Nat→Nat→Nat→Bool) (s:Int) (a b:Nat):Prop:=if 0≤s then b=a+1 else a≤b∧tab (nonI s) a b=true
def canC (tab:Nat→Nat→Nat→Bool) (K:Nat):List Int→Nat→Nat→Prop
 | [],a,b=>a=b
 | s::l,a,b=>∃ c,c≤K∧stepR tab s a c∧canC tab K l c b
theorem canC_snoc {tab:Nat→Nat→Nat→Bool} {K:Nat} {s:Int}:∀ {l:List Int} {a b:Nat},canC tab K (l++[s]) a b ↔ ∃ c,canC tab K l a c∧b≤K∧stepR tab s c b
 | [],a,b=>by
   constructor
   · rintro ⟨c,h1,h2,rfl⟩;exact ⟨a,rfl,h1,h2⟩
   · rintro ⟨c,rfl,h1,h2⟩;exact ⟨b,h1,h2,rfl⟩
 | q::l,a,b=>by
   constructor
   · rintro ⟨c,h1,h2,h3⟩
     obtain ⟨d,h4,h5⟩:=canC_snoc.1 h3
     exact ⟨d,⟨c,h1,h2,h4⟩,h5⟩
   · rintro ⟨d,⟨c,h1,h2,h3⟩,h4⟩
     exact ⟨c,h1,h2,canC_snoc.2 ⟨d,h3,h4⟩⟩
theorem stepR_le {tab:Nat→Nat→Nat→Bool} {s:Int} {a b:Nat} (h:stepR tab s a b):a≤b:=by
 unfold stepR at h
 split at h
 · omega
 · exact h.1
theorem canC_le {tab:Nat→Nat→Nat→Bool} {K:Nat}:∀ {l:List Int} {a b:Nat},canC tab K l a b→a≤b∧(a≤K→b≤K)
 | [],a,b,h=>by cases h;exact ⟨Nat.le_refl _,fun h=>h⟩
 | s::l,a,b,⟨c,h1,h2,h3⟩=>by
   have h4:=stepR_le h2
   have h5:=canC_le h3
   exact ⟨by omega,fun _=>h5.2 h1⟩
def SoundT (G:Gr) (K:Nat) (tab:Nat→Nat→Nat→Bool):Prop:=∀ n a b,tab n a b=true→a≤b∧b≤K∧n < G.nons.length∧CanT G (-1 - (n:Int)) (b - a)
theorem canC_sound {G:Gr} {K:Nat} {tab:Nat→Nat→Nat→Bool} (hT:SoundT G K tab):∀ {l:List Int} {a b:Nat},canC tab K l a b→canL (CanT G) l (b - a)
 | [],a,b,h=>by cases h;exact Nat.sub_self _
 | s::l,a,b,⟨c,h1,h2,h3⟩=>by
   have h4:=stepR_le h2
   have h5:=(canC_le h3).1
   refine ⟨c - a,by omega,?_,by rw [show b - a - (c - a)=b - c by omega];exact canC_sound hT h3⟩
   unfold stepR at h2
   split at h2
   · rename_i h0
     exact (can_term h0).2 (by omega)
   · rename_i h0
     have:=(hT _ _ _ h2.2).2.2.2
     rwa [nonI_neg (by omega)] at this
def ClosedT (G:Gr) (K:Nat) (tab:Nat→Nat→Nat→Bool):Prop:=∀ r ∈ G.rules,∀ a b,a≤K→b≤K→canC tab K r.right a b→tab r.left.toNat a b=true
theorem can_chain {K:Nat} {tab:Nat→Nat→Nat→Bool}:∀ {l:List Int} {n a:Nat},canL (fun s n=>(0≤s→n=1)∧(s < 0→∀ a,a+n≤K→tab (nonI s) a (a+n)=true)) l n→a+n≤K→canC tab K l a (a+n)
 | [],n,a,h,_=>by cases h;rfl
 | s::l,n,a,⟨k,hk,h1,h2⟩,ha=>by
   have h3:=can_chain (a:=a+k) h2 (by omega)
   rw [show a+k+(n - k)=a+n by omega] at h3
   refine ⟨a+k,by omega,?_,h3⟩
   unfold stepR
   split
   · rename_i h0;rw [h1.1 h0]
   · rename_i h0;exact ⟨by omega,h1.2 (by omega) a (by omega)⟩
theorem closed_all {G:Gr} {K:Nat} {tab:Nat→Nat→Nat→Bool} (hC:ClosedT G K tab) {s:Int} {n:Nat} (h:CanT G s n) (hs:s < 0) {a:Nat} (ha:a+n≤K):tab (nonI s) a (a+n)=true:=by
 refine (can_least (G:=G) (fun s n=>(0≤s→n=1)∧(s < 0→∀ a,a+n≤K→tab (nonI s) a (a+n)=true)) (fun s h0=>⟨fun _=>rfl,fun h=>by omega⟩) (fun r hr s hs hl m hc=>⟨fun h=>by omega,fun _ a ha=>?_⟩) h).2 hs a ha
 rw [← hl]
 exact hC r hr a (a+m) (by omega) ha (can_chain hc ha)
theorem table_tells {G:Gr} {K:Nat} {tab:Nat→Nat→Nat→Bool} (hS:SoundT G K tab) (hC:ClosedT G K tab) (i:Nat):tab i 0 K=true ↔ CanT G (-1 - (i:Int)) K:=by
 constructor
 · intro h;exact (hS i 0 K h).2.2.2
 · intro h
   have:=closed_all hC h (by omega) (a:=0) (by omega)
   rwa [nonI_of,Nat.zero_add] at this
def putB (tab:Nat→Nat→Nat→Bool) (n a b:Nat):Nat→Nat→Nat→Bool:=fun i x y=>if i=n∧x=a∧y=b then true else tab i x y
theorem SoundT.put {G:Gr} {K:Nat} {tab tab0:Nat→Nat→Nat→Bool} (hS:SoundT G K tab) (hS0:SoundT G K tab0) (hG:G.Fits) {r:Rul} (hr:r ∈ G.rules) {a b:Nat} (hc:canC tab0 K r.right a b) (ha:a≤K):SoundT G K (putB tab r.left.toNat a b):=by
 intro n x y h
 unfold putB at h
 split at h
 · rename_i he
   obtain ⟨rfl,rfl,rfl⟩:=he
   have h1:=canC_le hc
   have h2:=hG.left r hr
   refine ⟨h1.1,h1.2 ha,by omega,(can_non (by omega)).2 ⟨r,hr,by rw [nonI_of],canC_sound hS0 hc⟩⟩
 · exact hS n x y h
def cntB (N L:Nat) (tab:Nat→Nat→Nat→Bool):Nat:=sumL ((List.range N).map fun n=>sumL ((List.range L).map fun a=>sumL ((List.range L).map fun b=>if tab n a b=true then 1 else 0)))
theorem sumL_le {α:Type} {f g:α→Nat}:∀ {l:List α},(∀ x ∈ l,f x≤g x)→sumL (l.map f)≤sumL (l.map g)
 | [],_=>Nat.le_refl _
 | x::l,h=>Nat.add_le_add (h x (List.mem_cons_self ..)) (sumL_le fun y hy=>h y (List.mem_cons_of_mem _ hy))
theorem sumL_lt {α:Type} {f g:α→Nat}:∀ {l:List α},(∀ x ∈ l,f x≤g x)→∀ {x:α},x ∈ l→f x < g x→sumL (l.map f) < sumL (l.map g)
 | [],_,x,hx,_=>by cases hx
 | y::l,h,x,hx,hlt=>by
   rcases List.mem_cons.1 hx with rfl | hx
   · exact Nat.add_lt_add_of_lt_of_le hlt (sumL_le fun z hz=>h z (List.mem_cons_of_mem _ hz))
   · exact Nat.add_lt_add_of_le_of_lt (h y (List.mem_cons_self ..)) (sumL_lt (fun z hz=>h z (List.mem_cons_of_mem _ hz)) hx hlt)
theorem sumL_const {α:Type} {f:α→Nat} {c:Nat}:∀ {l:List α},(∀ x ∈ l,f x≤c)→sumL (l.map f)≤l.length * c
 | [],_=>Nat.zero_le _
 | x::l,h=>by
   have h1:=h x (List.mem_cons_self ..)
   have h2:=sumL_const (l:=l) fun y hy=>h y (List.mem_cons_of_mem _ hy)
   show f x+sumL (l.map f)≤(l.length+1) * c
   rw [Nat.succ_mul]
   omega
theorem cntB_max (N L:Nat) (tab:Nat→Nat→Nat→Bool):cntB N L tab≤N * (L * (L * 1)):=by
 have h:=sumL_const (l:=List.range N) (c:=L * (L * 1)) (f:=fun n=>sumL ((List.range L).map fun a=>sumL ((List.range L).map fun b=>if tab n a b=true then 1 else 0))) fun n _=>by
  have h2:=sumL_const (l:=List.range L) (c:=L * 1) (f:=fun a=>sumL ((List.range L).map fun b=>if tab n a b=true then 1 else 0)) fun a _=>by
   have h3:=sumL_const (l:=List.range L) (c:=1) (f:=fun b=>if tab n a b=true then 1 else 0) fun b _=>by split <;> omega
   rwa [List.length_range] at h3
  rwa [List.length_range] at h2
 rwa [List.length_range] at h
theorem cntB_up {N L:Nat} {tab:Nat→Nat→Nat→Bool} {n a b:Nat} (hn:n < N) (ha:a < L) (hb:b < L) (h:tab n a b=false):cntB N L tab < cntB N L (putB tab n a b):=by
 have le:∀ i x y,(if tab i x y=true then 1 else 0)≤(if putB tab n a b i x y=true then 1 else 0):=fun i x y=>by
  unfold putB
  by_cases he:i=n∧x=a∧y=b
  · rw [if_pos he,if_pos rfl];split <;> omega
  · rw [if_neg he];exact Nat.le_refl _
 refine sumL_lt (fun i _=>sumL_le fun x _=>sumL_le fun y _=>le i x y) (List.mem_range.2 hn) (sumL_lt (fun x _=>sumL_le fun y _=>le n x y) (List.mem_range.2 ha) (sumL_lt (fun y _=>le n a y) (List.mem_range.2 hb) ?_))
 have e:putB tab n a b n a b=true:=by unfold putB;rw [if_pos ⟨rfl,rfl,rfl⟩]
 rw [h,e]
 decide
def slsL (gs:List Nat) (L M:Nat):List Value:=gs.map (fun g=>Value.slice (some ⟨g,0,none⟩) L L)++List.replicate (M - gs.length) (.slice none 0 0)
theorem slsL_get {gs:List Nat} {L M n g:Nat} (h:gs[n]? = some g):(slsL gs L M)[n]? = some (.slice (some ⟨g,0,none⟩) L L):=by
 have hl:=(List.getElem?_eq_some_iff.1 h).1
 unfold slsL
 rw [List.getElem?_append_left (by simpa using hl),List.getElem?_map,h]
 rfl
theorem slsL_nil {gs:List Nat} {L M n:Nat} (h1:gs.length≤n) (h2:n < M):(slsL gs L M)[n]? = some (.slice none 0 0):=by
 unfold slsL
 rw [List.getElem?_append_right (by simpa using h1),List.length_map,List.getElem?_replicate,if_pos (by omega)]
theorem slsL_set {gs:List Nat} {L M g:Nat} (h:gs.length < M):(slsL gs L M).set gs.length (.slice (some ⟨g,0,none⟩) L L)=slsL (gs++[g]) L M:=by
 unfold slsL
 rw [List.set_append_right _ _ (by simp),List.length_map,Nat.sub_self]
 obtain ⟨d,hd⟩:∃ d,M - gs.length=d+1:=⟨M - gs.length - 1,by omega⟩
 rw [hd,List.replicate_succ,List.set_cons_zero,List.map_append,List.length_append,List.length_singleton,show M - (gs.length+1)=d by omega,List.append_assoc]
 rfl
theorem slsL_start (L M:Nat):slsL [] L M=List.replicate M (.slice none 0 0):=by simp [slsL]
def SlB (w:World) (g:Nat) (t:TypeId) (gs:List Nat) (L M:Nat):Prop:=Blk w g t (slsL gs L M).toArray
theorem SlB.at {w:World} {g:Nat} {t:TypeId} {gs:List Nat} {L M:Nat} (h:SlB w g t gs L M) {n x:Nat} (hn:gs[n]? = some x):w.cell? ⟨g,n,none⟩=some (.slice (some ⟨x,0,none⟩) L L):=by
 rw [Blk.cell h n,List.getElem?_toArray,slsL_get hn]
theorem SlB.at0 {w:World} {g:Nat} {t:TypeId} {gs:List Nat} {L M:Nat} (h:SlB w g t gs L M) {n:Nat} (h1:gs.length≤n) (h2:n < M):w.cell? ⟨g,n,none⟩=some (.slice none 0 0):=by
 rw [Blk.cell h n,List.getElem?_toArray,slsL_nil h1 h2]
theorem SlB.put {w:World} {g:Nat} {t:TypeId} {gs:List Nat} {L M x:Nat} (h:SlB w g t gs L M) (hl:gs.length < M):SlB (w.setCell ⟨g,gs.length,none⟩ (.slice (some ⟨x,0,none⟩) L L)) g t (gs++[x]) L M:=by
 have:=Blk.set h gs.length (.slice (some ⟨x,0,none⟩) L L)
 unfold SlB
 rwa [show (slsL (gs++[x]) L M).toArray=(slsL gs L M).toArray.setIfInBounds gs.length (.slice (some ⟨x,0,none⟩) L L) by rw [← slsL_set hl];simp]
theorem made_sls (n:Nat):madeCells #[Value.slice none 0 0] n=Array.replicate n (Value.slice none 0 0):=by
 apply Array.ext_getElem?
 intro j
 by_cases hj:j < n
 · have e1:(madeCells #[Value.slice none 0 0] n)[j]? = some (.slice none 0 0):=by simp [madeCells,hj,Nat.mod_one]
   rw [e1,Array.getElem?_replicate,if_pos hj]
 · have e1:(madeCells #[Value.slice none 0 0] n).size=n:=by simp [madeCells]
   rw [Array.getElem?_eq_none (by omega),Array.getElem?_eq_none (by simp;omega)]
theorem SlB.new (w:World) (t:TypeId) (L M:Nat):SlB (w.alloc (.cells (Array.replicate M (Value.slice none 0 0)) t)) w.heap.size t [] L M:=by
 unfold SlB
 rw [slsL_start,List.toArray_replicate]
 exact Blk.new _ _ _
theorem setCell_sz (w:World) (a:Addr) (v:Value):(w.setCell a v).heap.size=w.heap.size:=by simp
theorem Tryz.infoRow98:(Tryz.prog.info? 97).map (fun i=>(i.zero,i.size,i.bytes))=some (some (.slice none 0 0),1,24):=by kernel_rfl
theorem Tryz.infoRow99:(Tryz.prog.info? 98).map (fun i=>(i.zero,i.size,i.bytes))=some (some (.slice none 0 0),1,24):=by kernel_rfl
theorem make_rows (n:Nat) (hn:n≤1000) (w:World) :
 (Instr.makeSlice 98 (.int .i64 (n:Int)) (.int .i64 (n:Int))).run Tryz.prog w = .ok (.slice (some ⟨w.heap.size,0,none⟩) n n) (w.alloc (.cells (Array.replicate n (Value.slice none 0 0)) 97)):=by
 obtain ⟨i,hi',hz,hs,hby⟩:=info_parts Tryz.infoRow98
 have hb':(i.bytes:Int) * (n:Int)≤281474976710656:=by rw [hby];omega
 have hr:=run_make (P:=Tryz.prog) w 98 97 i (.slice none 0 0) Tryz.underlying98 hi' hz .i64 .i64 n n (by omega) (by omega) hb' (by omega)
 simp only [Int.toNat_natCast] at hr
 rw [hr,hs]
 simp only [Value.cells,Nat.mul_one,made_sls]
theorem make_tops (n:Nat) (hn:n≤1000) (w:World) :
 (Instr.makeSlice 100 (.int .i64 (n:Int)) (.int .i64 (n:Int))).run Tryz.prog w = .ok (.slice (some ⟨w.heap.size,0,none⟩) n n) (w.alloc (.cells (Array.replicate n (Value.slice none 0 0)) 98)):=by
 obtain ⟨i,hi',hz,hs,hby⟩:=info_parts Tryz.infoRow99
 have hb':(i.bytes:Int) * (n:Int)≤281474976710656:=by rw [hby];omega
 have hr:=run_make (P:=Tryz.prog) w 100 98 i (.slice none 0 0) Tryz.underlying100 hi' hz .i64 .i64 n n (by omega) (by omega) hb' (by omega)
 simp only [Int.toNat_natCast] at hr
 rw [hr,hs]
 simp only [Value.cells,Nat.mul_one,made_sls]
def gRow (g L n:Nat):Nat:=g+1+n * (L+1)
def rowsG (g L n:Nat):List Nat:=(List.range n).map (gRow g L)
def colsG (r i:Nat):List Nat:=(List.range i).map fun j=>r+1+j
theorem rowsG_get {g L n m:Nat} (h:m < n):(rowsG g L n)[m]? = some (gRow g L m):=by simp [rowsG,h]
theorem colsG_get {r i j:Nat} (h:j < i):(colsG r i)[j]? = some (r+1+j):=by simp [colsG,h]
theorem rowsG_len (g L n:Nat):(rowsG g L n).length=n:=by simp [rowsG]
theorem colsG_len (r i:Nat):(colsG r i).length=i:=by simp [colsG]
theorem rowsG_succ (g L n:Nat):rowsG g L (n+1)=rowsG g L n++[gRow g L n]:=by simp [rowsG,List.range_succ]
theorem colsG_succ (r i:Nat):colsG r (i+1)=colsG r i++[r+1+i]:=by simp [colsG,List.range_succ]
structure SpR (w:World) (r L:Nat) (f:Nat→Nat→Bool):Prop where
 row:SlB w r 97 (colsG r L) L L
 col:∀ i,i < L→BoolT w (r+1+i) ((List.range L).map (f i))
structure Spn (w:World) (g N L:Nat) (tab:Nat→Nat→Nat→Bool):Prop where
 top:SlB w g 98 (rowsG g L N) L N
 rows:∀ n,n < N→SpR w (gRow g L n) L (tab n)
theorem place_inj {L m n i a:Nat} (hi:i < L+1) (ha:a < L+1) (h:m * (L+1)+i=n * (L+1)+a):m=n∧i=a:=by
 rcases Nat.lt_trichotomy m n with hlt | rfl | hlt
 · have:=Nat.mul_le_mul_right (L+1) (show m+1≤n from hlt)
   rw [Nat.succ_mul] at this
   omega
 · exact ⟨rfl,by omega⟩
 · have:=Nat.mul_le_mul_right (L+1) (show n+1≤m from hlt)
   rw [Nat.succ_mul] at this
   omega
theorem SpR.below {w w':World} {r L:Nat} {f:Nat→Nat→Bool} (h:SpR w r L f) {B:Nat} (hb:Below B w w') (hr:r+L < B):SpR w' r L f :=
 ⟨Blk.below h.row hb (by omega),fun i hi=>Blk.below (h.col i hi) hb (by omega)⟩
theorem Spn.below {w w':World} {g N L:Nat} {tab:Nat→Nat→Nat→Bool} (h:Spn w g N L tab) (hb:Below w.heap.size w w'):Spn w' g N L tab :=
 ⟨Blk.ext h.top hb,fun n hn=>⟨Blk.ext (h.rows n hn).row hb,fun i hi=>Blk.ext ((h.rows n hn).col i hi) hb⟩⟩
theorem Spn.at {w:World} {g N L:Nat} {tab:Nat→Nat→Nat→Bool} (h:Spn w g N L tab) {n a b:Nat} (hn:n < N) (ha:a < L) (hb:b < L) :
 w.cell? ⟨g,n,none⟩=some (.slice (some ⟨gRow g L n,0,none⟩) L L)∧w.cell? ⟨gRow g L n,a,none⟩=some (.slice (some ⟨gRow g L n+1+a,0,none⟩) L L)∧w.cell? ⟨gRow g L n+1+a,b,none⟩=some (.bool (tab n a b)):=by
 refine ⟨h.top.at (rowsG_get hn),(h.rows n hn).row.at (colsG_get ha),?_⟩
 rw [((h.rows n hn).col a ha).at (by simpa using hb),List.getD_eq_getElem?_getD,List.getElem?_map,List.getElem?_range hb]
 rfl
theorem row_put {f:Nat→Bool} {L b:Nat} (hb:b < L):((List.range L).map f).set b true=(List.range L).map fun y=>if y=b then true else f y:=by
 refine List.ext_getElem? fun j=>?_
 rw [List.getElem?_set,List.length_map,List.length_range,List.getElem?_map,List.getElem?_map]
 by_cases hj:j < L
 · rw [List.getElem?_range hj]
   by_cases he:b=j
   · subst he;rw [if_pos rfl,if_pos hb];simp
   · rw [if_neg he];simp [Ne.symm he]
 · rw [List.getElem?_eq_none (by simp;omega)]
   by_cases he:b=j
   · omega
   · rw [if_neg he];rfl
theorem Spn.put {w:World} {g N L:Nat} {tab:Nat→Nat→Nat→Bool} (h:Spn w g N L tab) {n a b:Nat} (hn:n < N) (ha:a < L) (hb:b < L):Spn (w.setCell ⟨gRow g L n+1+a,b,none⟩ (.bool true)) g N L (putB tab n a b):=by
 refine ⟨Blk.other h.top _ _ _ (by unfold gRow;omega),fun m hm=>⟨Blk.other (h.rows m hm).row _ _ _ (fun he=>?_),fun i hi=>?_⟩⟩
 · unfold gRow at he
   have:=(place_inj (L:=L) (m:=m) (n:=n) (i:=0) (a:=1+a) (by omega) (by omega) (by omega)).2
   omega
 · by_cases he:m=n∧i=a
   · obtain ⟨rfl,rfl⟩:=he
     have:=((h.rows m hn).col i ha).put b true
     rw [row_put hb] at this
     have e:(fun y=>if y=b then true else tab m i y)=putB tab m i b m i:=by
      funext y
      unfold putB
      by_cases hy:y=b
      · rw [if_pos hy,if_pos ⟨rfl,rfl,hy⟩]
      · rw [if_neg hy,if_neg fun h=>hy h.2.2]
     rw [e] at this
     exact this
   · have e:(List.range L).map (putB tab n a b m i)=(List.range L).map (tab m i):=by
      refine List.map_congr_left fun y _=>?_
      unfold putB
      rw [if_neg fun h=>he ⟨h.1,h.2.1⟩]
     rw [e]
     refine Blk.other ((h.rows m hm).col i hi) _ _ _ fun hq=>he ?_
     unfold gRow at hq
     exact place_inj (L:=L) (m:=m) (n:=n) (i:=i) (a:=a) (by omega) (by omega) (by omega)
theorem make_boolsK (K:Nat) (hK:K≤100) (w:World) :
 (Instr.makeSlice 97 (.int .i64 ((K:Int)+1)) (.int .i64 ((K:Int)+1))).run Tryz.prog w = .ok (.slice (some ⟨w.heap.size,0,none⟩) (K+1) (K+1)) (w.alloc (.cells (bools (List.replicate (K+1) false)).toArray 4)):=by
 have h:=make_bools (K+1) (by omega) w
 rw [show ((K+1:Nat):Int)=(K:Int)+1 by omega] at h
 exact h
theorem rep_getD {n t:Nat}:(List.replicate n false).getD t false=false:=by
 rw [List.getD_eq_getElem?_getD,List.getElem?_replicate]
 split <;> rfl
theorem setE_getD {E:List Bool} {i t:Nat} {b:Bool} (hi:i < E.length):(E.set i b).getD t false=if t=i then b else E.getD t false:=by
 rw [List.getD_eq_getElem?_getD,List.getElem?_set,List.getD_eq_getElem?_getD]
 by_cases h:i=t
 · subst h;rw [if_pos rfl,if_pos hi,if_pos rfl];rfl
 · rw [if_neg h,if_neg (Ne.symm h)]
theorem Ints.cellAt {k:IntKind} {w:World} {b o n c:Nat} {zs:List Int} (h:Ints k w (some ⟨b,o,none⟩) n c zs) {j:Nat} {z:Int} (hj:j < n) (hz:zs[j]? = some z):w.cell? ⟨b,o+j,none⟩=some (.int k z)∧b < w.heap.size:=by
 obtain ⟨b',o',z',e',hb',Hz',c'⟩:=h.get hj
 injection e' with e'
 injection e' with e1 e2
 subst e1
 subst e2
 rw [hz] at Hz'
 obtain rfl:=Option.some.inj Hz'.out
 exact ⟨c',hb'⟩
def RetEnds (K:Nat) (tab:Nat→Nat→Nat→Bool) (l:List Int) (from_:Nat) (w:World) (e:Ending) (w':World):Prop:=Below w.heap.size w w'∧∃ g E,e = .returned (.slice (some ⟨g,0,none⟩) (K+1) (K+1))∧w.heap.size≤g∧BoolT w' g E∧E.length=K+1∧∀ t,t≤K→(E.getD t false=true ↔ canC tab K l from_ t)
theorem rf_ends (Al:Option Addr) (cl:Nat) (l:List Int) (Ap:Option Addr) (cp K g N:Nat) (tab:Nat→Nat→Nat→Bool) (fr:Nat) (w:World) (hl:Ints .i64 w Al l.length cl l) (hll:l.length≤100) (hlr:∀ s ∈ l,-(N:Int)≤s∧s≤1000)
 (hp:Ints .i64 w Ap K cp (List.replicate K (-1))) (hK:K≤100) (hT:Spn w g N (K+1) tab) (hN:N≤1000) (hf:fr≤K) :
 Calls Tryz.prog 121 #[.slice Al l.length cl, .slice Ap K cp, .slice (some ⟨g,0,none⟩) N N, .int .i64 (fr:Int)] w (RetEnds K tab l fr w):=by
 have Hl:=Lib.hid hl
 have Hlr:=Lib.hid hlr
 have Hp:=Lib.hid hp
 have HT:=Lib.hid hT
 have hcl:=hl.cap
 have hcp:=hp.cap
 have hmk:=make_boolsK K hK
 clear hl hlr hp hT
 go_enter Tryz.func121,Tryz.ntmps121
 have hf0:(0:Int)≤(fr:Int):=by omega
 have hf1:(fr:Int) < (K:Int)+1:=by omega
 have hb0:=alloc_below w (.cells (bools (List.replicate (K+1) false)).toArray 4)
 have hT0:=BoolT.new w (List.replicate (K+1) false)
 go_upto_region 2 with fail
 generalize w.alloc (.cells (bools (List.replicate (K+1) false)).toArray 4)=W0 at *
 have hg0:w.heap.size≤w.heap.size:=Nat.le_refl _
 have Hb0:=Lib.hid hb0
 have HT0:=Lib.hid hT0
 have i0:=hT0.at (i:=fr) (by simp;omega)
 have i1:=Blk.frozen hT0 fr
 have i2:=Blk.lt hT0
 clear hb0 hT0
 go_upto_region 3 with fail
 have Hset:Hid (BoolT (W0.setCell ⟨w.heap.size,fr,none⟩ (.bool true)) w.heap.size ((List.replicate (K+1) false).set fr true)):=Lib.hid (HT0.out.put fr true)
 have Hbs:Hid (Below w.heap.size w (W0.setCell ⟨w.heap.size,fr,none⟩ (.bool true))):=Lib.hid (Hb0.out.trans ((Off.of_set W0 w.heap.size fr (.bool true)).is_below Hb0.out.size fun k hk=>Nat.le_of_eq hk.symm))
 have Hst:Hid (∀ t,t≤K→(((List.replicate (K+1) false).set fr true).getD t false=true ↔ canC tab K (l.take 0) fr t)):=Lib.hid fun t ht=>by
  rw [setE_getD (by simp;omega),rep_getD,List.take_zero]
  show _ ↔ fr=t
  by_cases h:t=fr
  · subst h;simp
  · rw [if_neg h];simp [Ne.symm h]
 clear i0 i1 i2
 generalize W0.setCell ⟨w.heap.size,fr,none⟩ (.bool true)=W1 at *
 go_wp2_with fail
 go_loopw [9,10] (fun v i wr=>∃ (q gN:Nat) (E:List Bool),q≤l.length∧i = .int .i64 (q:Int)∧v = .slice (some ⟨gN,0,none⟩) (K+1) (K+1)∧w.heap.size≤gN∧Hid (BoolT wr gN E)∧E.length=K+1∧Hid (∀ t,t≤K→(E.getD t false=true ↔ canC tab K (l.take q) fr t))∧Hid (Below w.heap.size w wr)) (fun _ i _=>l.length - (intOf i).toNat)
 case atStart=>exact ⟨0,_,_,Nat.zero_le _,rfl,rfl,Nat.le_refl _,Hset,by simp,Hst,Hbs⟩
 case round =>
  clear Hset Hbs Hst
  obtain ⟨q,gN,E,hq,rfl,rfl,hgN,HE,hEl,HEt,HB⟩:=hrel
  by_cases hqq:q < l.length
  case neg =>
   obtain rfl:q=l.length:=by omega
   have Hfin:Hid (RetEnds K tab l fr w (.returned (.slice (some ⟨gN,0,none⟩) (K+1) (K+1))) wr):=Lib.hid ⟨HB.out,gN,E,rfl,hgN,HE.out,hEl,by have:=HEt.out;rwa [List.take_length] at this⟩
   go_wp2_with fail
   go_ret
   exact Hfin.out
  case pos =>
   obtain ⟨lb,lo,s,rfl,hlb,Hs,cs⟩:=(Hl.out.below HB.out).get hqq
   have hmem:=List.mem_of_getElem? Hs.out
   obtain ⟨s1,s2⟩:=Hlr.out s hmem
   have Hsn:Hid (∀ t,t≤K→(canC tab K (l.take (q+1)) fr t ↔ ∃ c,canC tab K (l.take q) fr c∧stepR tab s c t)):=Lib.hid fun t ht=>by
    rw [take_snoc' Hs.out,canC_snoc]
    exact ⟨fun ⟨c,h1,_,h3⟩=>⟨c,h1,h3⟩,fun ⟨c,h1,h3⟩=>⟨c,h1,ht,h3⟩⟩
   have hbM:=alloc_below wr (.cells (bools (List.replicate (K+1) false)).toArray 4)
   have hTM:=BoolT.new wr (List.replicate (K+1) false)
   have hgNl:=Blk.lt HE.out
   go_upto_region 7 with fail
   have HBM:=Lib.hid (below_tail HB.out hbM)
   have HbM:=Lib.hid hbM
   have HTM:=Lib.hid hTM
   have HEM:=Lib.hid (Blk.ext HE.out hbM)
   have Hs0:Hid (∀ t,t≤K→((List.replicate (K+1) false).getD t false=true ↔ ∃ c,c < fr∧canC tab K (l.take q) fr c∧stepR tab s c t)):=Lib.hid fun t ht=>by
    rw [rep_getD]
    constructor
    · intro h;cases h
    · rintro ⟨c,h1,h2,_⟩
      have:=(canC_le h2).1
      omega
   generalize hW2:wr.alloc (.cells (bools (List.replicate (K+1) false)).toArray 4)=W2 at *
   have hgMr:w.heap.size≤wr.heap.size:=HB.out.size
   generalize hgM:wr.heap.size=gM at *
   clear hW2 hbM hTM hgM HB HE cs
   have cs0:=hlb
   go_wp2_with fail
   go_loopw [12] (fun i wz=>∃ (a:Nat) (M:List Bool),fr≤a∧a≤K+1∧i = .int .i64 (a:Int)∧Hid (BoolT wz gM M)∧M.length=K+1∧Hid (∀ t,t≤K→(M.getD t false=true ↔ ∃ c,c < a∧canC tab K (l.take q) fr c∧stepR tab s c t))∧Hid (Below gM W2 wz)) (fun i _=>K+1 - (intOf i).toNat)
   case atStart=>exact ⟨fr,_,Nat.le_refl _,by omega,rfl,HTM,by simp,Hs0,Lib.hid (Below.refl _ _)⟩
   case round =>
    clear HTM Hs0
    obtain ⟨a,M,hfa,ha,rfl,HM,hMl,HMt,Hb⟩:=hrel
    have HBr:Hid (Below w.heap.size w wr):=Lib.hid (HBM.out.trans (Hb.out.mono hgMr))
    have HEr:Hid (BoolT wr gN E):=Lib.hid (Blk.below HEM.out Hb.out hgNl)
    by_cases haK:a≤K
    case neg =>
     obtain rfl:a=K+1:=by omega
     have hno:¬ (((K+1:Nat):Int)≤(K:Int)):=by omega
     have Hn:Hid (∀ t,t≤K→(M.getD t false=true ↔ canC tab K (l.take (q+1)) fr t)):=Lib.hid fun t ht=>by
      rw [HMt.out t ht,Hsn.out t ht]
      exact ⟨fun ⟨c,_,h2,h3⟩=>⟨c,h2,h3⟩,fun ⟨c,h2,h3⟩=>⟨c,Nat.lt_succ_of_le ((canC_le h2).2 hf),h2,h3⟩⟩
     go_wp2_with fail
     go_roundw
     case rel=>exact ⟨q+1,gM,M,by omega,by go_num,rfl,hgMr,HM,hMl,Hn,HBr⟩
     case measure=>simp [intOf];omega
    case pos =>
     have i0:wr.cell? ⟨gN,a,none⟩=some (.bool (E.getD a false)):=HEr.out.at (by omega)
     have hle:((a:Nat):Int)≤(K:Int):=by omega
     have hlt1:((a:Nat):Int) < (K:Int)+1:=by omega
     have hgl:gN < wr.heap.size:=Blk.lt HEr.out
     have hEa:=HEt.out a haK
     have Hnx:Hid (∀ t,(∃ c,c < a+1∧canC tab K (l.take q) fr c∧stepR tab s c t) ↔ ((∃ c,c < a∧canC tab K (l.take q) fr c∧stepR tab s c t)∨(canC tab K (l.take q) fr a∧stepR tab s a t))):=Lib.hid fun t=>by
      constructor
      · rintro ⟨c,h1,h2,h3⟩
        rcases (by omega:c < a∨c=a) with h | rfl
        · exact .inl ⟨c,h,h2,h3⟩
        · exact .inr ⟨h2,h3⟩
      · rintro (⟨c,h1,h2,h3⟩ | ⟨h2,h3⟩)
        · exact ⟨c,by omega,h2,h3⟩
        · exact ⟨a,by omega,h2,h3⟩
     cases hx:E.getD a false
     case false =>
      have Hn:Hid (∀ t,t≤K→(M.getD t false=true ↔ ∃ c,c < a+1∧canC tab K (l.take q) fr c∧stepR tab s c t)):=Lib.hid fun t ht=>by
       rw [HMt.out t ht,Hnx.out t]
       exact ⟨.inl,fun h=>h.resolve_right fun h2=>by rw [hEa.2 h2.1] at hx;cases hx⟩
      rw [hx] at i0
      clear hEa hx
      go_wp2_with fail
      go_roundw
      case rel=>exact ⟨a+1,M,by omega,by omega,by go_num,HM,hMl,Hn,Hb⟩
      case measure=>simp [intOf];omega
     case true =>
      have Hca:=Lib.hid (hEa.1 hx)
      rw [hx] at i0
      obtain ⟨cs,hlbr⟩:=Ints.cellAt (Hl.out.below HBr.out) hqq Hs.out
      clear hEa hx
      by_cases h0:0≤s
      case pos =>
       by_cases haK2:a < K
       case pos =>
        obtain ⟨pb,po,v,rfl,hpb,Hv,cv⟩:=(Hp.out.below HBr.out).get haK2
        have hv:v=-1:=by have:=Hv.out;rw [List.getElem?_replicate,if_pos haK2] at this;exact (Option.some.inj this).symm
        subst hv
        have hsn:((-1:Int) == s)=false:=by rw [beq_eq_false_iff_ne];omega
        have hltK:((a:Nat):Int) < (K:Int):=by omega
        have hwa:IntKind.i64.wrap ((a:Int)+1)=(a:Int)+1:=IntWalk.i64_in _ (by omega)
        have hx0:(0:Int)≤(a:Int)+1:=by omega
        have hx1:(a:Int)+1 < (K:Int)+1:=by omega
        have hx2:((a:Int)+1).toNat=a+1:=by omega
        have hx3:(0:Int)≤(a:Int):=by omega
        have hx4:(0:Int)≤(q:Int):=by omega
        have hx5:(q:Int) < (l.length:Int):=by omega
        have bc:=bl_cell wr
        have bf:=bl_frozen wr
        have m0:=HM.out.at (i:=a+1) (by omega)
        have m1:=Blk.frozen HM.out (a+1)
        have m2:=Blk.lt HM.out
        have Hn:Hid (∀ t,t≤K→((M.set (a+1) true).getD t false=true ↔ ∃ c,c < a+1∧canC tab K (l.take q) fr c∧stepR tab s c t)):=Lib.hid fun t ht=>by
         rw [setE_getD (by omega),Hnx.out t]
         by_cases htt:t=a+1
         · rw [if_pos htt]
           exact ⟨fun _ => .inr ⟨Hca.out,by unfold stepR;rw [if_pos h0];exact htt⟩,fun _=>rfl⟩
         · rw [if_neg htt,HMt.out t ht]
           exact ⟨.inl,fun h=>h.resolve_right fun h2=>by have h3:=h2.2;unfold stepR at h3;rw [if_pos h0] at h3;exact htt h3⟩
        go_upto_region 12 with fail
        refine wp_region_below (by kernel_rfl) (by kernel_rfl) ?_
        repeat (go_big_quiet_step (fail))
        refine wpQuiet_nil ?_
        rintro _ ⟨X,rfl⟩
        have d0:=(bc X gM (a+1) m2).trans m0
        have d1:=(bf X gM (a+1) m2).trans m1
        have d2:=Nat.lt_of_lt_of_le m2 (bl_size wr X)
        go_wp2_with fail
        go_roundw
        case rel=>exact ⟨a+1,M.set (a+1) true,by omega,by omega,by go_num,Lib.hid (BoolT.put (Blk.ext HM.out (bl_below wr X)) (a+1) true),by simp [hMl],Hn,Lib.hid ((Hb.out.trans ((bl_below wr X).mono (Nat.le_of_lt m2))).trans ((Off.of_set _ gM (a+1) (.bool true)).is_below (Nat.le_of_lt d2) fun k hk=>Nat.le_of_eq hk.symm))⟩
        case measure=>simp [intOf];omega
       case neg =>
        have hltK:¬ ((a:Nat):Int) < (K:Int):=by omega
        have hltK2:decide (((a:Nat):Int) < (K:Int))=false:=by simpa using hltK
        have Hn:Hid (∀ t,t≤K→(M.getD t false=true ↔ ∃ c,c < a+1∧canC tab K (l.take q) fr c∧stepR tab s c t)):=Lib.hid fun t ht=>by
         rw [HMt.out t ht,Hnx.out t]
         exact ⟨.inl,fun h=>h.resolve_right fun h2=>by have h3:=h2.2;unfold stepR at h3;rw [if_pos h0] at h3;omega⟩
        go_upto_region 12 with fail
        refine wp_region_below (by kernel_rfl) (by kernel_rfl) ?_
        repeat (go_big_quiet_step (fail))
        refine wpQuiet_nil ?_
        rintro _ ⟨X,rfl⟩
        go_wp2_with fail
        go_roundw
        case rel=>exact ⟨a+1,M,by omega,by omega,by go_num,Lib.hid (Blk.ext HM.out (bl_below wr X)),hMl,Hn,Lib.hid (Hb.out.trans ((bl_below wr X).mono (Nat.le_of_lt (Blk.lt HM.out))))⟩
        case measure=>simp [intOf];omega
      case neg =>
       obtain ⟨j,hj,hnj,hwj⟩:=non_place (s:=s) (n:=N) (by omega) s1 hN
       have Hnj:=Lib.hid hnj
       have hge:¬ (0:Int)≤s:=by omega
       have hgM2:=Blk.lt HM.out
       clear hnj
       go_upto_region 15 with fail
       go_loopw [13] (fun i wz=>∃ (b:Nat) (M2:List Bool),a≤b∧b≤K+1∧i = .int .i64 (b:Int)∧Hid (BoolT wz gM M2)∧M2.length=K+1∧Hid (∀ t,t≤K→(M2.getD t false=true ↔ M.getD t false=true∨(a≤t∧t < b∧tab j a t=true)))∧Hid (Below gM W2 wz)) (fun i _=>K+1 - (intOf i).toNat)
       case atStart=>exact ⟨a,M,Nat.le_refl _,by omega,rfl,HM,hMl,Lib.hid fun t ht=>⟨.inl,fun h=>h.resolve_right fun h2=>by omega⟩,Hb⟩
       case round =>
        obtain ⟨b,M2,hab,hb,rfl,HM2,hM2l,HM2t,Hb2⟩:=hrel
        by_cases hbK:b≤K
        case neg =>
         obtain rfl:b=K+1:=by omega
         have hno:¬ (((K+1:Nat):Int)≤(K:Int)):=by omega
         have Hn:Hid (∀ t,t≤K→(M2.getD t false=true ↔ ∃ c,c < a+1∧canC tab K (l.take q) fr c∧stepR tab s c t)):=Lib.hid fun t ht=>by
          rw [HM2t.out t ht,HMt.out t ht,Hnx.out t]
          have e:stepR tab s a t ↔ a≤t∧tab j a t=true:=by unfold stepR;rw [if_neg (by omega),Hnj.out]
          rw [e]
          constructor
          · rintro (h | ⟨h1,_,h2⟩)
            · exact .inl h
            · exact .inr ⟨Hca.out,h1,h2⟩
          · rintro (h | ⟨_,h1,h2⟩)
            · exact .inl h
            · exact .inr ⟨h1,by omega,h2⟩
         go_wp2_with fail
         go_roundw
         case rel=>exact ⟨a+1,M2,by omega,by omega,by go_num,HM2,hM2l,Hn,Hb2⟩
         case measure=>simp [intOf];omega
        case pos =>
         have hleb:((b:Nat):Int)≤(K:Int):=by omega
         have hltb:((b:Nat):Int) < (K:Int)+1:=by omega
         have HBr2:Hid (Below w.heap.size w wr):=Lib.hid (HBM.out.trans (Hb2.out.mono hgMr))
         obtain ⟨cs2,hlbr2⟩:=Ints.cellAt (Hl.out.below HBr2.out) hqq Hs.out
         obtain ⟨t0,t1,t2⟩:=(HT.out.below HBr2.out).at hj (a:=a) (b:=b) (by omega) (by omega)
         have t3:=Blk.lt (HT.out.below HBr2.out).top
         have t4:=Blk.lt ((HT.out.below HBr2.out).rows j hj).row
         have t5:=Blk.lt (((HT.out.below HBr2.out).rows j hj).col a (by omega))
         have m0:=HM2.out.at (i:=b) (by omega)
         have m1:=Blk.frozen HM2.out b
         have m2:=Blk.lt HM2.out
         have Hn:∀ x y:Bool,M2.getD b false=x→tab j a b=y→Hid (∀ t,t≤K→((M2.set b (x || y)).getD t false=true ↔ M.getD t false=true∨(a≤t∧t < b+1∧tab j a t=true))):=fun x y hx hy=>Lib.hid fun t ht=>by
          rw [setE_getD (by omega)]
          by_cases htb:t=b
          · subst htb
            rw [if_pos rfl,Bool.or_eq_true,← hx,← hy,HM2t.out t ht]
            constructor
            · rintro ((h | ⟨_,h,_⟩) | h)
              · exact .inl h
              · omega
              · exact .inr ⟨hab,by omega,h⟩
            · rintro (h | ⟨_,_,h⟩)
              · exact .inl (.inl h)
              · exact .inr h
          · rw [if_neg htb,HM2t.out t ht]
            constructor
            · rintro (h | ⟨h1,h2,h3⟩)
              · exact .inl h
              · exact .inr ⟨h1,by omega,h3⟩
            · rintro (h | ⟨h1,h2,h3⟩)
              · exact .inl h
              · exact .inr ⟨h1,by omega,h3⟩
         have HN:=Lib.hid Hn
         clear Hn
         generalize hxx:M2.getD b false=x at *
         generalize hyy:tab j a b=y at *
         have HNx:=HN.out x y (by rfl) (by rfl)
         clear HN hxx hyy
         cases x
         all_goals
          go_wp2_with fail
          go_roundw
          case rel=>exact ⟨b+1,_,by omega,by omega,by go_num,Lib.hid (HM2.out.put b _),by simp [hM2l],HNx,Lib.hid (Hb2.out.trans ((Off.of_set _ gM b _).is_below (Nat.le_of_lt m2) fun k hk=>Nat.le_of_eq hk.symm))⟩
          case measure=>simp [intOf];omega
theorem make_rowsK (K:Nat) (hK:K≤100) (w:World) :
 (Instr.makeSlice 98 (.int .i64 ((K:Int)+1)) (.int .i64 ((K:Int)+1))).run Tryz.prog w = .ok (.slice (some ⟨w.heap.size,0,none⟩) (K+1) (K+1)) (w.alloc (.cells (Array.replicate (K+1) (Value.slice none 0 0)) 97)):=by
 have h:=make_rows (K+1) (by omega) w
 rw [show ((K+1:Nat):Int)=(K:Int)+1 by omega] at h
 exact h
structure SpnP (w:World) (g N L n:Nat):Prop where
 top:SlB w g 98 (rowsG g L n) L N
 rows:∀ m,m < n→SpR w (gRow g L m) L (fun _ _=>false)
 size:w.heap.size=gRow g L n
structure SpnQ (w:World) (g N L n i:Nat):Prop where
 top:SlB w g 98 (rowsG g L (n+1)) L N
 rows:∀ m,m < n→SpR w (gRow g L m) L (fun _ _=>false)
 row:SlB w (gRow g L n) 97 (colsG (gRow g L n) i) L L
 col:∀ j,j < i→BoolT w (gRow g L n+1+j) (List.replicate L false)
 size:w.heap.size=gRow g L n+1+i
theorem gRow_succ (g L n:Nat):gRow g L (n+1)=gRow g L n+1+L:=by unfold gRow;rw [Nat.succ_mul];omega
theorem gRow_mono {g L m n:Nat} (h:m≤n):gRow g L m≤gRow g L n:=by unfold gRow;have:=Nat.mul_le_mul_right (L+1) h;omega
theorem gRow_lt {g L m n i:Nat} (h:m < n) (hi:i≤L):gRow g L m+i < gRow g L n:=by
 have h1:=gRow_mono (g:=g) (L:=L) (show m+1≤n from h)
 rw [gRow_succ] at h1
 omega
theorem range_false (L:Nat):(List.range L).map (fun _:Nat=>false)=List.replicate L false:=by
 refine List.ext_getElem? fun j=>?_
 rw [List.getElem?_map,List.getElem?_replicate]
 by_cases h:j < L
 · rw [List.getElem?_range h,if_pos h];rfl
 · rw [List.getElem?_eq_none (by simp;omega),if_neg h];rfl
theorem SpnP.start (w:World) (N L:Nat):SpnP (w.alloc (.cells (Array.replicate N (Value.slice none 0 0)) 98)) w.heap.size N L 0 :=
 ⟨SlB.new _ _ _ _,fun m hm=>absurd hm (Nat.not_lt_zero m),by rw [alloc_size];unfold gRow;omega⟩
theorem SpnP.row {w:World} {g N L n:Nat} (h:SpnP w g N L n) (hn:n < N):SpnQ ((w.setCell ⟨g,n,none⟩ (.slice (some ⟨w.heap.size,0,none⟩) L L)).alloc (.cells (Array.replicate L (Value.slice none 0 0)) 97)) g N L n 0:=by
 have hb:=alloc_below (w.setCell ⟨g,n,none⟩ (.slice (some ⟨w.heap.size,0,none⟩) L L)) (.cells (Array.replicate L (Value.slice none 0 0)) 97)
 have hg:g < gRow g L n:=by unfold gRow;omega
 have hnew:=SlB.new (w.setCell ⟨g,n,none⟩ (.slice (some ⟨w.heap.size,0,none⟩) L L)) 97 L L
 rw [setCell_sz,h.size] at hnew
 rw [h.size] at hb ⊢
 refine ⟨?_,fun m hm=>?_,hnew,fun j hj=>absurd hj (Nat.not_lt_zero j),?_⟩
 · have h2:=h.top.put (x:=gRow g L n) (by rw [rowsG_len];exact hn)
   rw [rowsG_len] at h2
   rw [rowsG_succ]
   exact Blk.ext h2 hb
 · exact ⟨Blk.ext (Blk.other (h.rows m hm).row _ _ _ (by unfold gRow;omega)) hb,fun i hi=>Blk.ext (Blk.other ((h.rows m hm).col i hi) _ _ _ (by unfold gRow;omega)) hb⟩
 · rw [alloc_size,setCell_sz,h.size]
theorem SpnQ.drew {w:World} {g N L n i:Nat} (h:SpnQ w g N L n i):SpnQ w.drew g N L n i:=⟨h.top,fun m hm=>⟨(h.rows m hm).row,(h.rows m hm).col⟩,h.row,h.col,h.size⟩
theorem SpnQ.next {w:World} {g N L n i:Nat} (h:SpnQ w g N L n i) (hi:i < L):SpnQ ((w.setCell ⟨gRow g L n,i,none⟩ (.slice (some ⟨w.heap.size,0,none⟩) L L)).alloc (.cells (bools (List.replicate L false)).toArray 4)) g N L n (i+1):=by
 have hg:g < gRow g L n:=by unfold gRow;omega
 have hb:=alloc_below (w.setCell ⟨gRow g L n,i,none⟩ (.slice (some ⟨w.heap.size,0,none⟩) L L)) (.cells (bools (List.replicate L false)).toArray 4)
 have hX:=BoolT.new (w.setCell ⟨gRow g L n,i,none⟩ (.slice (some ⟨w.heap.size,0,none⟩) L L)) (List.replicate L false)
 rw [setCell_sz] at hX
 rw [h.size] at hb hX ⊢
 refine ⟨Blk.ext (Blk.other h.top _ _ _ (by omega)) hb,fun m hm=>?_,?_,fun j hj=>?_,?_⟩
 · have h1:=gRow_lt (g:=g) (L:=L) hm (Nat.le_refl L)
   exact ⟨Blk.ext (Blk.other (h.rows m hm).row _ _ _ (by omega)) hb,fun j hj=>Blk.ext (Blk.other ((h.rows m hm).col j hj) _ _ _ (by omega)) hb⟩
 · have h2:=h.row.put (x:=gRow g L n+1+i) (by rw [colsG_len];exact hi)
   rw [colsG_len] at h2
   rw [colsG_succ]
   exact Blk.ext h2 hb
 · rcases (by omega:j < i∨j=i) with hlt | rfl
   · exact Blk.ext (Blk.other (h.col j hlt) _ _ _ (by omega)) hb
   · exact hX
 · rw [alloc_size,setCell_sz,h.size];omega
theorem SpnQ.done {w:World} {g N L n:Nat} (h:SpnQ w g N L n L):SpnP w g N L (n+1):=by
 refine ⟨h.top,fun m hm=>?_,by rw [h.size,gRow_succ]⟩
 rcases (by omega:m < n∨m=n) with hlt | rfl
 · exact h.rows m hlt
 · exact ⟨h.row,fun i hi=>by rw [range_false];exact h.col i hi⟩
theorem SpnP.all {w:World} {g N L:Nat} (h:SpnP w g N L N):Spn w g N L (fun _ _ _=>false):=⟨h.top,h.rows⟩
def RetOf20 (G:Gr) (n2 K:Nat) (w:World) (e:Ending) (w':World):Prop:=Below w.heap.size w w'∧∃ g tab,e = .returned (.slice (some ⟨g,0,none⟩) n2 n2)∧Spn w' g n2 (K+1) tab∧SoundT G K tab∧ClosedT G K tab
theorem rf_Of20 (h:GH) (G:Gr) (Ap:Option Addr) (cp K:Nat) (w:World) (hg:GrAt w h G) (hG:G.Fits) (hp:Ints .i64 w Ap K cp (List.replicate K (-1))) (hK:K≤60) :
 Calls Tryz.prog 68 #[GV h G.start, .slice Ap K cp] w (RetOf20 G h.n2 K w):=by
 obtain ⟨a1,n1,c1,a2,n2,c2,a3,n3,c3⟩:=h
 have e1:G.terms.length=n1:=hg.terms.len
 have e2:G.nons.length=n2:=hg.nons.len
 have e3:G.rules.length=n3:=hg.rules.len
 have g2:=hG.n2
 have g3:=hG.n3
 rw [e2] at g2
 rw [e3] at g3
 have hcp:=hp.cap
 have Hg:=Lib.hid hg
 have HG:=Lib.hid hG
 have Hp:=Lib.hid hp
 have E1:=Lib.hid e1
 have E2:=Lib.hid e2
 have E3:=Lib.hid e3
 have hB0:=alloc_below w (.cells #[.slice a1 n1 c1, .slice a2 n2 c2, .slice a3 n3 c3, .int .i64 G.start] 26)
 have hbox:=GBox.new w 26 ⟨a1,n1,c1,a2,n2,c2,a3,n3,c3⟩ G.start
 have Hgw:Hid ((w.alloc (.cells #[.slice a1 n1 c1, .slice a2 n2 c2, .slice a3 n3 c3, .int .i64 G.start] 26)).heap.size=w.heap.size+1):=Lib.hid (alloc_size _ _)
 have hmt:=make_tops n2 (by omega)
 have hmr:=make_rowsK K (by omega)
 have hmb:=make_boolsK K (by omega)
 clear hg hG hp e1 e2 e3
 simp only []
 go_enter Tryz.func68,Tryz.ntmps68
 have ⟨z5,z0,z1,z2,z3⟩:=hbox
 simp only [] at z0 z1 z2 z3
 go_upto_region 2 with fail
 generalize w.alloc (.cells #[.slice a1 n1 c1, .slice a2 n2 c2, .slice a3 n3 c3, .int .i64 G.start] 26)=W0 at *
 have hP0:=SpnP.start W0 n2 (K+1)
 have hb0:=alloc_below W0 (.cells (Array.replicate n2 (Value.slice none 0 0)) 98)
 have HP0:=Lib.hid hP0
 have Hb0:=Lib.hid hb0
 have HB0:=Lib.hid hB0
 have Hbox:=Lib.hid hbox
 have hgW:W0.heap.size≤W0.heap.size:=Nat.le_refl _
 have hbB:w.heap.size < W0.heap.size:=z5
 clear hP0 hb0 hB0 hbox z0 z1 z2 z3 z5 hgW
 generalize W0.alloc (.cells (Array.replicate n2 (Value.slice none 0 0)) 98)=W1 at *
 have hgw:W0.heap.size=w.heap.size+1:=Hgw.out
 rw [hgw] at HP0 Hb0 hbB
 have Hgg:Hid (W0.heap.size=w.heap.size+1):=Hgw
 clear hgw
 generalize hgd:w.heap.size+1=g at *
 clear hgd
 go_wp2_with fail
 go_loopw [6] (fun i wr=>∃ n:Nat,n≤n2∧i = .int .i64 (n:Int)∧Hid (SpnP wr g n2 (K+1) n)∧Hid (Below g W0 wr)) (fun i _=>n2 - (intOf i).toNat)
 case atStart=>exact ⟨0,Nat.zero_le _,rfl,HP0,Hb0⟩
 case round =>
  obtain ⟨n,hn,rfl,HP,Hb⟩:=hrel
  by_cases hnn:n < n2
  case pos =>
   have t0:wr.cell? ⟨g,n,none⟩=some (.slice none 0 0):=HP.out.top.at0 (by rw [rowsG_len];exact Nat.le_refl _) hnn
   have t1:=Blk.frozen HP.out.top n
   have t2:=Blk.lt HP.out.top
   have HQ:=Lib.hid (HP.out.row hnn)
   have hsz:gRow g (K+1) n=wr.heap.size:=HP.out.size.symm
   have hgr:g < gRow g (K+1) n:=by unfold gRow;omega
   have Hb2:Hid (Below g W0 ((wr.setCell ⟨g,n,none⟩ (.slice (some ⟨wr.heap.size,0,none⟩) (K+1) (K+1))).alloc (.cells (Array.replicate (K+1) (Value.slice none 0 0)) 97))):=Lib.hid ((Hb.out.trans ((Off.of_set wr g n _).is_below (by omega) fun k hk=>Nat.le_of_eq hk.symm)).trans ((alloc_below _ _).mono (by rw [setCell_sz];omega)))
   clear hsz hgr
   go_upto_region 6 with fail
   generalize ((wr.setCell ⟨g,n,none⟩ (.slice (some ⟨wr.heap.size,0,none⟩) (K+1) (K+1))).alloc (.cells (Array.replicate (K+1) (Value.slice none 0 0)) 97))=W2 at *
   have hn2:=Blk.lt HQ.out.top
   clear t0 t1 t2 HP Hb
   go_wp2_with fail
   go_loopw [7] (fun i wz=>∃ b:Nat,b≤K+1∧i = .int .i64 (b:Int)∧Hid (SpnQ wz g n2 (K+1) n b)∧Hid (Below g W0 wz)) (fun i _=>K+1 - (intOf i).toNat)
   case atStart=>exact ⟨0,Nat.zero_le _,rfl,HQ,Hb2⟩
   case round =>
    clear HQ Hb2 hn2
    obtain ⟨b,hb,rfl,HQ,Hb⟩:=hrel
    by_cases hbK:b≤K
    case pos =>
     have hle:((b:Nat):Int)≤(K:Int):=by omega
     have hlt1:((b:Nat):Int) < (K:Int)+1:=by omega
     have hb0:(0:Int)≤(b:Int):=by omega
     have hn0:(0:Int)≤(n:Int):=by omega
     have hn1:(n:Int) < (n2:Int):=by omega
     have t0:wr.cell? ⟨g,n,none⟩=some (.slice (some ⟨gRow g (K+1) n,0,none⟩) (K+1) (K+1)):=HQ.out.top.at (rowsG_get (Nat.lt_succ_self n))
     have t1:=Blk.lt HQ.out.top
     have u0:wr.cell? ⟨gRow g (K+1) n,b,none⟩=some (.slice none 0 0):=HQ.out.row.at0 (by rw [colsG_len];exact Nat.le_refl _) (by omega)
     have u1:=Blk.frozen HQ.out.row b
     have u2:=Blk.lt HQ.out.row
     go_upto_region 9 with fail
     go_region
     have HQn:=Lib.hid (HQ.out.next (by omega:b < K+1)).drew
     have hgr:g < gRow g (K+1) n:=by unfold gRow;omega
     have Hbn:Hid (Below g W0 ((wr.setCell ⟨gRow g (K+1) n,b,none⟩ (.slice (some ⟨wr.heap.size,0,none⟩) (K+1) (K+1))).alloc (.cells (bools (List.replicate (K+1) false)).toArray 4)).drew):=Lib.hid ((Hb.out.trans ((Off.of_set wr (gRow g (K+1) n) b _).is_below (by omega) fun k hk=>by omega)).trans (((alloc_below _ _).mono (by rw [setCell_sz];omega)).drew))
     go_wp2_with fail
     go_roundw
     case rel=>exact ⟨b+1,by omega,by go_num,HQn,Hbn⟩
     case measure=>simp [intOf];omega
    case neg =>
     obtain rfl:b=K+1:=by omega
     have hno:¬ (((K+1:Nat):Int)≤(K:Int)):=by omega
     go_wp2_with fail
     go_roundw
     case rel=>exact ⟨n+1,by omega,by go_num,Lib.hid HQ.out.done,Hb⟩
     case measure=>simp [intOf];omega
  case neg =>
   obtain rfl:n=n2:=by omega
   have HT0:=Lib.hid HP.out.all
   have hgT:=HP.out.size
   have HS0:Hid (SoundT G K (fun _ _ _=>false)):=Lib.hid fun n a b h=>by cases h
   have hgN:gRow g (K+1) n≤wr.heap.size:=by omega
   have Hlt:Hid (∀ m i,m < n→i≤K+1→g < gRow g (K+1) m+i∧gRow g (K+1) m+i < gRow g (K+1) n):=Lib.hid fun m i hm hi=>⟨by unfold gRow;omega,gRow_lt hm hi⟩
   have Hmax:=Lib.hid (cntB_max n (K+1))
   generalize hM:n * ((K+1) * ((K+1) * 1))=M at *
   clear hM hgT HP
   generalize gRow g (K+1) n=gE at *
   obtain ⟨wB,hwB⟩:∃ x,x=wr:=⟨wr,rfl⟩
   subst hwB
   go_wp2_with fail
   go_loopg [8] (2 * M+1) (fun q v wr=>∃ (d:Bool) (tab:Nat→Nat→Nat→Bool),v = .bool d∧2 * (M - cntB n (K+1) tab)+(if d=true then 1 else 0)≤q∧Hid (Spn wr g n (K+1) tab)∧Hid (SoundT G K tab)∧Hid (d=false→ClosedT G K tab)∧Hid (Below g W0 wr)∧gE≤wr.heap.size)
   case atStart=>exact ⟨true,_,rfl,by simp;omega,HT0,HS0,Lib.hid fun h=>(by cases h),Hb,hgN⟩
   case round =>
    clear HT0 HS0 Hb hgN
    obtain ⟨d,tab,rfl,hq,HT,HS,HC,Hb,hgN⟩:=hrel
    cases d
    case false =>
     have Hfin:Hid (RetOf20 G n K w (.returned (.slice (some ⟨g,0,none⟩) n n)) wr):=Lib.hid ⟨below_tail HB0.out (by rw [Hgg.out];exact Hb.out),g,tab,rfl,HT.out,HS.out,HC.out rfl⟩
     go_wp2_with fail
     go_ret
     exact Hfin.out
    case true =>
     have Hq:=Lib.hid hq
     clear HC hq
     go_wp2_with fail
     go_loopw [8,9] (fun v i wz=>∃ (j:Nat) (d2:Bool) (tab2:Nat→Nat→Nat→Bool),j≤n3∧i = .int .i64 (j:Int)∧v = .bool d2∧Hid (Spn wz g n (K+1) tab2)∧Hid (SoundT G K tab2)∧Hid (cntB n (K+1) tab≤cntB n (K+1) tab2∧(d2=true→cntB n (K+1) tab < cntB n (K+1) tab2))∧Hid (d2=false→∀ (m:Nat) (r:Rul),m < j→G.rules[m]? = some r→∀ a b,a≤K→b≤K→canC tab2 K r.right a b→tab2 r.left.toNat a b=true)∧Hid (Below g W0 wz)∧gE≤wz.heap.size) (fun _ i _=>n3 - (intOf i).toNat)
     case atStart=>exact ⟨0,false,tab,Nat.zero_le _,rfl,rfl,HT,HS,Lib.hid ⟨Nat.le_refl _,fun h=>(by cases h)⟩,Lib.hid fun _ m r hm=>absurd hm (Nat.not_lt_zero m),Hb,hgN⟩
     case round =>
      clear HT HS Hb hgN
      obtain ⟨j,d2,tab2,hj,rfl,rfl,HT,HS,Hcnt,HC,Hb,hgN⟩:=hrel
      have HBz:=Lib.hid (below_tail HB0.out (show Below W0.heap.size W0 wr by rw [Hgg.out];exact Hb.out))
      have ⟨y5,y0,y1,y2,y3⟩:=Hbox.out.below (show Below W0.heap.size W0 wr by rw [Hgg.out];exact Hb.out)
      simp only [] at y0 y1 y2 y3
      by_cases hjj:j < n3
      case neg =>
       obtain rfl:j=n3:=by omega
       have Hcl:Hid (d2=false→ClosedT G K tab2):=Lib.hid fun hd r hr a b ha hb hc=>by
        obtain ⟨m,hm⟩:=List.getElem?_of_mem hr
        exact HC.out hd m r (by have h1:=(List.getElem?_eq_some_iff.1 hm).1;have h2:=E3.out;omega) hm a b ha hb hc
       have hmx:=Hmax.out tab2
       have Hmx:=Lib.hid hmx
       clear hmx
       go_wp2_with fail
       go_roundg (2 * (M - cntB n (K+1) tab2)+(if d2=true then 1 else 0))
       case rel=>exact ⟨d2,tab2,rfl,Nat.le_refl _,HT,HS,Hcl,Hb,hgN⟩
       case measure =>
        have h1:=Hcnt.out.1
        have h2:=Hcnt.out.2
        have h4:=Hq.out
        have h5:=Hmx.out
        simp only [if_true] at h4
        cases d2
        · simp;omega
        · have h3:=h2 rfl
          simp
          omega
      case pos =>
       obtain ⟨rb,roff,r,Ar,cr,rfl,hrb0,Hr,q0,q1,q2,hrr⟩:=Hg.out.rules.get hjj
       rw [← HBz.out.cell (by exact hrb0)] at q0 q1 q2
       have hrb:=Nat.lt_of_lt_of_le hrb0 HBz.out.size
       have Hrr:=Lib.hid hrr
       have hmem:=List.mem_of_getElem? Hr.out
       obtain ⟨jl,hjl⟩:∃ jl:Nat,r.left=(jl:Int):=⟨r.left.toNat,by have:=HG.out.left r hmem;omega⟩
       have Hjl:Hid (r.left.toNat=jl):=Lib.hid (by omega)
       have hjn:jl < n:=by have h1:=HG.out.left r hmem;have h2:=E2.out;omega
       rw [hjl] at q0
       have hlen:=HG.out.len r hmem
       have Hsy:Hid (∀ s ∈ r.right,-(n:Int)≤s∧s≤1000):=Lib.hid fun s hs=>by
        have h1:=HG.out.sym r hmem s hs
        have h2:=HG.out.n1
        have h3:=E2.out
        omega
       have hbQ:=alloc_below wr (.cells #[.int .i64 (jl:Int), .slice Ar r.right.length cr, .int .i64 r.prec] 52)
       have hXQ:=Blk.new wr 52 #[.int .i64 (jl:Int), .slice Ar r.right.length cr, .int .i64 r.prec]
       have HTQ:=Lib.hid (HT.out.below hbQ)
       have hgW:g≤wr.heap.size:=by have:=Blk.lt HT.out.top;omega
       have HbQ:Hid (Below g W0 (wr.alloc (.cells #[.int .i64 (jl:Int), .slice Ar r.right.length cr, .int .i64 r.prec] 52))):=Lib.hid (Hb.out.trans (hbQ.mono hgW))
       have hgN2:gE≤(wr.alloc (.cells #[.int .i64 (jl:Int), .slice Ar r.right.length cr, .int .i64 r.prec] 52)).heap.size:=by rw [alloc_size];omega
       go_upto_region 17 with fail
       generalize wr.alloc (.cells #[.int .i64 (jl:Int), .slice Ar r.right.length cr, .int .i64 r.prec] 52)=WQ at *
       have hgQ:gE≤wr.heap.size:=hgN
       generalize wr.heap.size=gQ at *
       have HXQ:=Lib.hid hXQ
       clear hXQ hbQ hrr q0 q1 q2 y0 y1 y2 y3 y5 hjl HT Hb hgN
       go_wp2_with fail
       go_loopw [8,11] (fun v i wz=>∃ (f:Nat) (d3:Bool) (tab3:Nat→Nat→Nat→Bool),f≤K+1∧i = .int .i64 (f:Int)∧v = .bool d3∧Hid (Spn wz g n (K+1) tab3)∧Hid (SoundT G K tab3)∧Hid (cntB n (K+1) tab≤cntB n (K+1) tab3∧(d3=true→cntB n (K+1) tab < cntB n (K+1) tab3))∧Hid (d3=false→d2=false∧tab3=tab2∧∀ a b,a < f→b≤K→canC tab3 K r.right a b→tab3 jl a b=true)∧Hid (Blk wz gQ 52 #[.int .i64 (jl:Int), .slice Ar r.right.length cr, .int .i64 r.prec])∧Hid (Below g W0 wz)∧gE≤wz.heap.size) (fun _ i _=>K+1 - (intOf i).toNat)
       case atStart=>exact ⟨0,d2,tab2,Nat.zero_le _,rfl,rfl,HTQ,HS,Hcnt,Lib.hid fun hd=>⟨hd,rfl,fun a b ha=>absurd ha (Nat.not_lt_zero a)⟩,HXQ,HbQ,hgN2⟩
       case round =>
        clear HTQ HXQ HbQ hgN2 HS Hcnt
        obtain ⟨f,d3,tab3,hf,rfl,rfl,HT,HS,Hcnt,HC3,HXQ,Hb,hgN⟩:=hrel
        have HBz2:=Lib.hid (below_tail HB0.out (show Below W0.heap.size W0 wr by rw [Hgg.out];exact Hb.out))
        by_cases hfK:f≤K
        case neg =>
         obtain rfl:f=K+1:=by omega
         have hno:¬ (((K+1:Nat):Int)≤(K:Int)):=by omega
         have HCn:Hid (d3=false→∀ (m:Nat) (r:Rul),m < j+1→G.rules[m]? = some r→∀ a b,a≤K→b≤K→canC tab3 K r.right a b→tab3 r.left.toNat a b=true):=Lib.hid fun hd m r' hm hr' a b ha hb hc=>by
          obtain ⟨h1,h2,h3⟩:=HC3.out hd
          rcases (by omega:m < j∨m=j) with hlt | rfl
          · rw [h2] at hc ⊢
            exact HC.out h1 m r' hlt hr' a b ha hb hc
          · rw [Hr.out] at hr'
            obtain rfl:=Option.some.inj hr'
            rw [Hjl.out]
            exact h3 a b (by omega) hb hc
         go_wp2_with fail
         go_roundw
         case rel=>exact ⟨j+1,d3,tab3,by omega,by go_num,rfl,HT,HS,Hcnt,HCn,Hb,hgN⟩
         case measure=>simp [intOf];omega
        case pos =>
         have hle:((f:Nat):Int)≤(K:Int):=by omega
         have x0:wr.cell? ⟨gQ,0,none⟩=some (.int .i64 (jl:Int)):=HXQ.out.cell 0
         have x1:wr.cell? ⟨gQ,1,none⟩=some (.slice Ar r.right.length cr):=HXQ.out.cell 1
         have xl:=HXQ.out.lt
         have CE:=Lib.hid (rf_ends Ar cr r.right Ap cp K g n tab3 f wr (Hrr.out.below HBz2.out) (by omega) Hsy.out (Hp.out.below HBz2.out) (by omega) HT.out (by omega) hfK)
         go_upto_region 21 with (
          go_at_call 121
          (with_reducible refine CE.out.mono ?_)
          rintro e W5 ⟨hb5,gF,E,rfl,hgF,hE5,hEl,hEt⟩)
         have HT5:=Lib.hid (HT.out.below hb5)
         have HX5:=Lib.hid (Blk.ext HXQ.out hb5)
         have hgW:g≤wr.heap.size:=by have:=Blk.lt HT.out.top;omega
         have Hb5:=Lib.hid (Hb.out.trans (hb5.mono hgW))
         have hgN5:gE≤W5.heap.size:=Nat.le_trans hgN hb5.size
         have hgF2:gE≤gF:=Nat.le_trans hgN hgF
         have HE5:=Lib.hid hE5
         have HEt:=Lib.hid hEt
         clear CE x0 x1 xl hb5 hE5 hEt hgF hgW HT HXQ Hb hgN HBz2
         go_wp2_with fail
         go_loopw [8,13] (fun v i wz=>∃ (t:Nat) (d4:Bool) (tab4:Nat→Nat→Nat→Bool),f≤t∧t≤K+1∧i = .int .i64 (t:Int)∧v = .bool d4∧Hid (Spn wz g n (K+1) tab4)∧Hid (SoundT G K tab4)∧Hid (cntB n (K+1) tab≤cntB n (K+1) tab4∧(d4=true→cntB n (K+1) tab < cntB n (K+1) tab4))∧Hid (d4=false→d3=false∧tab4=tab3∧∀ b,b < t→canC tab3 K r.right f b→tab3 jl f b=true)∧Hid (Blk wz gQ 52 #[.int .i64 (jl:Int), .slice Ar r.right.length cr, .int .i64 r.prec])∧Hid (BoolT wz gF E)∧Hid (Below g W0 wz)∧gE≤wz.heap.size) (fun _ i _=>K+1 - (intOf i).toNat)
         case atStart=>exact ⟨f,d3,tab3,Nat.le_refl _,by omega,rfl,rfl,HT5,HS,Hcnt,Lib.hid fun hd=>⟨hd,rfl,fun b hb hc=>by have:=(canC_le hc).1;omega⟩,HX5,HE5,Hb5,hgN5⟩
         case round =>
          clear HT5 HX5 HE5 Hb5 hgN5 Hcnt
          obtain ⟨t,d4,tab4,hft,ht,rfl,rfl,HT,HS4,Hcnt,HC4,HXQ,HE,Hb,hgN⟩:=hrel
          by_cases htK:t≤K
          case neg =>
           obtain rfl:t=K+1:=by omega
           have hno:¬ (((K+1:Nat):Int)≤(K:Int)):=by omega
           have HCn:Hid (d4=false→d2=false∧tab4=tab2∧∀ a b,a < f+1→b≤K→canC tab4 K r.right a b→tab4 jl a b=true):=Lib.hid fun hd=>by
            obtain ⟨h1,h2,h3⟩:=HC4.out hd
            obtain ⟨h4,h5,h6⟩:=HC3.out h1
            refine ⟨h4,h2.trans h5,fun a b ha hb hc=>?_⟩
            rw [h2] at hc ⊢
            rcases (by omega:a < f∨a=f) with hlt | rfl
            · exact h6 a b hlt hb hc
            · exact h3 b (by omega) hc
           go_wp2_with fail
           go_roundw
           case rel=>exact ⟨f+1,d4,tab4,by omega,by go_num,rfl,HT,HS4,Hcnt,HCn,HXQ,Hb,hgN⟩
           case measure=>simp [intOf];omega
          case pos =>
           have hleb:((t:Nat):Int)≤(K:Int):=by omega
           have hltb:((t:Nat):Int) < (K:Int)+1:=by omega
           have hltf:((f:Nat):Int) < (K:Int)+1:=by omega
           have hltj:((jl:Nat):Int) < (n:Int):=by omega
           have i0:=HE.out.at (i:=t) (by omega)
           have i1:=Blk.lt HE.out
           have hEx:=HEt.out t htK
           have x0:wr.cell? ⟨gQ,0,none⟩=some (.int .i64 (jl:Int)):=HXQ.out.cell 0
           have xl:=HXQ.out.lt
           obtain ⟨t0,t1,t2⟩:=HT.out.at hjn (a:=f) (b:=t) (by omega) (by omega)
           have t3:=Blk.lt HT.out.top
           have t4:=Blk.lt (HT.out.rows jl hjn).row
           have t5:=Blk.lt ((HT.out.rows jl hjn).col f (by omega))
           have t6:=Blk.frozen ((HT.out.rows jl hjn).col f (by omega)) t
           cases hx:E.getD t false
           case false =>
            have HCn:Hid (d4=false→d3=false∧tab4=tab3∧∀ b,b < t+1→canC tab3 K r.right f b→tab3 jl f b=true):=Lib.hid fun hd=>by
             obtain ⟨h1,h2,h3⟩:=HC4.out hd
             refine ⟨h1,h2,fun b hb hc=>?_⟩
             rcases (by omega:b < t∨b=t) with hlt | rfl
             · exact h3 b hlt hc
             · rw [hEx.2 hc] at hx;cases hx
            rw [hx] at i0
            clear hx hEx t0 t1 t2
            go_wp2_with fail
            go_roundw
            case rel=>exact ⟨t+1,d4,tab4,by omega,by omega,by go_num,rfl,HT,HS4,Hcnt,HCn,HXQ,HE,Hb,hgN⟩
            case measure=>simp [intOf];omega
           case true =>
            have Hcc:=Lib.hid (hEx.1 hx)
            rw [hx] at i0
            clear hx hEx
            cases hy:tab4 jl f t
            case true =>
             have HCn:Hid (d4=false→d3=false∧tab4=tab3∧∀ b,b < t+1→canC tab3 K r.right f b→tab3 jl f b=true):=Lib.hid fun hd=>by
              obtain ⟨h1,h2,h3⟩:=HC4.out hd
              refine ⟨h1,h2,fun b hb hc=>?_⟩
              rcases (by omega:b < t∨b=t) with hlt | rfl
              · exact h3 b hlt hc
              · rw [← h2];exact hy
             rw [hy] at t2
             clear hy
             go_wp2_with fail
             go_roundw
             case rel=>exact ⟨t+1,d4,tab4,by omega,by omega,by go_num,rfl,HT,HS4,Hcnt,HCn,HXQ,HE,Hb,hgN⟩
             case measure=>simp [intOf];omega
            case false =>
             obtain ⟨l1,l2⟩:=Hlt.out jl (1+f) hjn (by omega)
             have HTn:=Lib.hid (HT.out.put hjn (a:=f) (b:=t) (by omega) (by omega))
             have HSn:Hid (SoundT G K (putB tab4 jl f t)):=Lib.hid (by rw [← Hjl.out];exact SoundT.put HS4.out HS.out HG.out hmem Hcc.out hfK)
             have hup:=cntB_up (N:=n) (L:=K+1) hjn (show f < K+1 by omega) (show t < K+1 by omega) hy
             have Hcn:Hid (cntB n (K+1) tab≤cntB n (K+1) (putB tab4 jl f t)∧(true=true→cntB n (K+1) tab < cntB n (K+1) (putB tab4 jl f t))):=Lib.hid ⟨by have:=Hcnt.out.1;omega,fun _=>by have:=Hcnt.out.1;omega⟩
             have hne1:gQ ≠ gRow g (K+1) jl+1+f:=by omega
             have hne2:gF ≠ gRow g (K+1) jl+1+f:=by omega
             have HXn:=Lib.hid (Blk.other HXQ.out (gRow g (K+1) jl+1+f) t (.bool true) hne1)
             have HEn:Hid (BoolT (wr.setCell ⟨gRow g (K+1) jl+1+f,t,none⟩ (.bool true)) gF E):=Lib.hid (Blk.other HE.out (gRow g (K+1) jl+1+f) t (.bool true) hne2)
             have Hbn:=Lib.hid (Hb.out.trans ((Off.of_set wr (gRow g (K+1) jl+1+f) t (.bool true)).is_below (show g≤wr.heap.size by omega) fun k hk=>by omega))
             have hgn:gE≤(wr.setCell ⟨gRow g (K+1) jl+1+f,t,none⟩ (.bool true)).heap.size:=by rw [setCell_sz];exact hgN
             rw [hy] at t2
             clear hy hup
             go_wp2_with fail
             go_roundw
             case rel=>exact ⟨t+1,true,putB tab4 jl f t,by omega,by omega,by go_num,rfl,HTn,HSn,Hcn,Lib.hid fun h=>(by cases h),HXn,HEn,Hbn,hgn⟩
             case measure=>simp [intOf];omega
def HasWord (G:Gr) (K:Nat):Prop:=CanT G (-1 - G.start) K
open Classical in
noncomputable def hasWord (G:Gr) (K:Nat):Bool:=decide (HasWord G K)
open Classical in
theorem hasWord_iff {G:Gr} {K:Nat}:hasWord G K=true ↔ CanT G (-1 - G.start) K:=by
 unfold hasWord
 exact decide_eq_true_iff
def RetFits (G:Gr) (K:Nat) (w:World) (e:Ending) (w':World):Prop:=Below w.heap.size w w'∧e = .returned (.tuple #[.bool (hasWord G K), .int .i64 0])
theorem rf_Fits (h:GH) (G:Gr) (Ap:Option Addr) (cp K:Nat) (w:World) (hg:GrAt w h G) (hr:G.right=true) (hp:Ints .i64 w Ap K cp (List.replicate K (-1))) (hK:K≤60) :
 Calls Tryz.prog 31 #[GV h G.start, .slice Ap K cp] w (RetFits G K w):=by
 have hG:=Gr.fits hr
 obtain ⟨a1,n1,c1,a2,n2,c2,a3,n3,c3⟩:=h
 have e1:G.terms.length=n1:=hg.terms.len
 have e2:G.nons.length=n2:=hg.nons.len
 have e3:G.rules.length=n3:=hg.rules.len
 have l1:=hG.n1
 have l2:=hG.n2
 have l3:=hG.n3
 rw [e1] at l1
 rw [e2] at l2
 rw [e3] at l3
 have hcp:=hp.cap
 obtain ⟨st,Hst⟩:∃ st:Nat,Hid (G.start=(st:Int)):=⟨G.start.toNat,Lib.hid (by have:=hG.st;omega)⟩
 have hstk:st < n2:=by have h1:=hG.st;have h2:=Hst.out;omega
 have Hg:=Lib.hid hg
 have HG:=Lib.hid hG
 have Hr:=Lib.hid hr
 have Hp:=Lib.hid hp
 have hB0:=alloc_below w (.cells #[.slice a1 n1 c1, .slice a2 n2 c2, .slice a3 n3 c3, .int .i64 G.start] 26)
 have hbox:=GBox.new w 26 ⟨a1,n1,c1,a2,n2,c2,a3,n3,c3⟩ G.start
 clear hg hG hr hp e1 e2 e3
 go_enter Tryz.func31,Tryz.ntmps31
 have ⟨z5,z0,z1,z2,z3⟩:=hbox
 simp only [] at z0 z1 z2 z3
 go_upto_region 1 with fail
 generalize w.alloc (.cells #[.slice a1 n1 c1, .slice a2 n2 c2, .slice a3 n3 c3, .int .i64 G.start] 26)=W0 at *
 have HB0:=Lib.hid hB0
 have Hbox:=Lib.hid hbox
 have CI:=rf_right9 ⟨a1,n1,c1,a2,n2,c2,a3,n3,c3⟩ G W0 (Hg.out.below hB0) (by simp only [];omega) (by simp only [];omega) (by simp only [];omega)
 rw [Hr.out] at CI
 have CI':=Lib.hid CI
 have hK60:¬ ((60:Int) < (K:Int)):=by omega
 clear CI hB0 hbox
 go_upto_region 3 with (go_at_call 29;(with_reducible refine CI'.out.mono ?_);rintro e W1 ⟨rfl,hb1⟩)
 have HB1:=Lib.hid (below_tail HB0.out hb1)
 have Hbx1:=Lib.hid (Hbox.out.below hb1)
 clear CI' hb1 z0 z1 z2 z3 z5 HB0 Hbox
 go_wp2_with fail
 go_loopw [6] (fun i wr=>∃ q:Nat,q≤K∧i = .int .i64 (q:Int)∧Hid (Below W1.heap.size W1 wr)) (fun i _=>K - (intOf i).toNat)
 case atStart=>exact ⟨0,Nat.zero_le _,rfl,Lib.hid (Below.refl _ _)⟩
 case round =>
  obtain ⟨q,hq,rfl,HB⟩:=hrel
  have HBr:=Lib.hid (below_tail HB1.out HB.out)
  have ⟨y5,y0,y1,y2,y3⟩:=Hbx1.out.below HB.out
  simp only [] at y0 y1 y2 y3
  by_cases hqq:q < K
  case pos =>
   obtain ⟨pb,po,v,rfl,hpb,Hv,cv⟩:=(Hp.out.below HBr.out).get hqq
   have hv:v=-1:=by have:=Hv.out;rw [List.getElem?_replicate,if_pos hqq] at this;exact (Option.some.inj this).symm
   subst hv
   have bc:=bl_cell wr
   have h0:(0:Int)≤(q:Int):=by omega
   have h1:(q:Int) < (K:Int):=by omega
   have h2:decide ((-1:Int) < -1)=false:=by decide
   have h3:¬ ((n1:Int)≤-1):=by omega
   have h4:decide ((n1:Int)≤-1)=false:=by simpa using h3
   go_wp2_with fail
   refine wp_region_below (by kernel_rfl) (by kernel_rfl) ?_
   repeat (go_big_quiet_step (fail))
   refine wpQuiet_nil ?_
   rintro _ ⟨X,rfl⟩
   go_wp2_with fail
   go_roundw
   case rel=>exact ⟨q+1,by omega,by go_num,Lib.hid (HB.out.trans ((bl_below wr X).mono HB.out.size))⟩
   case measure=>simp [intOf];omega
  case neg =>
   obtain rfl:q=K:=by omega
   have CO:Hid (∀ X,Below wr.heap.size wr X→Calls Tryz.prog 68 #[.agg #[.slice a1 n1 c1, .slice a2 n2 c2, .slice a3 n3 c3, .int .i64 (st:Int)], .slice Ap q cp] X fun e w'=>∃ g tab,e = .returned (.slice (some ⟨g,0,none⟩) n2 n2)∧Spn w' g n2 (q+1) tab∧hasWord G q=tab st 0 q∧Below X.heap.size X w'):=Lib.hid fun X hb=>by
    have h:=rf_Of20 ⟨a1,n1,c1,a2,n2,c2,a3,n3,c3⟩ G Ap cp q X ((Hg.out.below HBr.out).below hb) HG.out ((Hp.out.below HBr.out).below hb) hK
    rw [Hst.out] at h
    refine h.mono ?_
    rintro e w' ⟨hb',g,tab,rfl,hT,hS,hC⟩
    refine ⟨g,tab,rfl,hT,?_,hb'⟩
    have ht:=table_tells hS hC st
    rw [← Hst.out] at ht
    rw [Bool.eq_iff_iff,hasWord_iff]
    exact ht.symm
   rw [Hst.out] at y3
   have HS:Hid (∀ W',Below wr.heap.size wr W'→W'.cell? ⟨w.heap.size,0,none⟩=some (.slice a1 n1 c1)∧W'.cell? ⟨w.heap.size,1,none⟩=some (.slice a2 n2 c2)∧W'.cell? ⟨w.heap.size,2,none⟩=some (.slice a3 n3 c3)∧W'.cell? ⟨w.heap.size,3,none⟩=some (.int .i64 (st:Int))∧Below wr.heap.size wr W'):=Lib.hid fun W' hb=>⟨by rw [hb.cell (by exact y5)];exact y0,by rw [hb.cell (by exact y5)];exact y1,by rw [hb.cell (by exact y5)];exact y2,by rw [hb.cell (by exact y5)];exact y3,hb⟩
   have i0:(0:Int)≤(st:Int):=by omega
   have i1:(st:Int) < (n2:Int):=by omega
   have i2:(q:Int) < (q:Int)+1:=by omega
   have i3:(0:Int)≤(q:Int):=by omega
   have i4:(0:Int) < (q:Int)+1:=by omega
   go_upto_region 8 with fail
   refine wp_region_grow (fun X=>Below wr.heap.size wr X) (fun X X'=>Below X.heap.size X X') (fun u=>(⟨(GV ⟨a1,n1,c1,a2,n2,c2,a3,n3,c3⟩ G.start :: .slice Ap q cp :: .pointer (some ⟨w.heap.size,0,none⟩)::undef::u 13::u 14 :: .int .i64 (q:Int) :: .agg #[.slice a1 n1 c1, .slice a2 n2 c2, .slice a3 n3 c3, .int .i64 G.start] :: .bool true :: .bool false :: .bool false :: .slice Ap q cp :: .int .i64 (q:Int) :: .bool (decide (60 < (q:Int))) :: .bool (decide (60 < (q:Int))) :: .int .i64 (q:Int) :: .slice Ap q cp :: .int .i64 (q:Int) :: .bool false::u19::u20::u21::u22::u23::u24::u25::u26::u27::u28::u29::u30::u31::u32::u33::u34::u35::u 0::u 1::u 2::u 3::u 4::u 5::u 6::u 7::u 8::u 9::u 10::u 11::u 12::[]).toArray,[]⟩:Act)) [undef,undef,undef,undef,undef,undef,undef,undef,undef,undef,undef,undef,undef,u4,u5] [fun v X=>v = .agg #[.slice a1 n1 c1, .slice a2 n2 c2, .slice a3 n3 c3, .int .i64 (st:Int)],fun v X=>v = .slice Ap q cp,fun v X=>∃ (g:Nat) (tab:Nat→Nat→Nat→Bool),v = .slice (some ⟨g,0,none⟩) n2 n2∧Spn X g n2 (q+1) tab∧hasWord G q=tab st 0 q,fun v X=>v = .pointer (some ⟨w.heap.size,3,none⟩),fun v X=>v = .int .i64 (st:Int),fun v X=>∃ (g:Nat) (tab:Nat→Nat→Nat→Bool),v = .pointer (some ⟨g,st,none⟩)∧Spn X g n2 (q+1) tab∧hasWord G q=tab st 0 q,fun v X=>∃ (g:Nat) (tab:Nat→Nat→Nat→Bool),v = .slice (some ⟨gRow g (q+1) st,0,none⟩) (q+1) (q+1)∧Spn X g n2 (q+1) tab∧hasWord G q=tab st 0 q,fun v X=>∃ (g:Nat) (tab:Nat→Nat→Nat→Bool),v = .pointer (some ⟨gRow g (q+1) st,0,none⟩)∧Spn X g n2 (q+1) tab∧hasWord G q=tab st 0 q,fun v X=>∃ (g:Nat) (tab:Nat→Nat→Nat→Bool),v = .slice (some ⟨gRow g (q+1) st+1+0,0,none⟩) (q+1) (q+1)∧Spn X g n2 (q+1) tab∧hasWord G q=tab st 0 q,fun v X=>v = .slice Ap q cp,fun v X=>v = .int .i64 (q:Int),fun v X=>∃ (g:Nat) (tab:Nat→Nat→Nat→Bool),v = .pointer (some ⟨gRow g (q+1) st+1+0,q,none⟩)∧Spn X g n2 (q+1) tab∧hasWord G q=tab st 0 q,fun v X=>v = .bool (hasWord G q),fun v X=>v = .bool (hasWord G q),fun v X=>v = .int .i64 0] (by kernel_rfl) (by kernel_rfl) rfl (Below.refl _ _).drew ⟨fun _ _ _ h _=>h,fun _ _ _ h _=>h,(fun v X X' ⟨g,tab,e,hT,hw⟩ hb=>⟨g,tab,e,hT.below hb,hw⟩),fun _ _ _ h _=>h,fun _ _ _ h _=>h,(fun v X X' ⟨g,tab,e,hT,hw⟩ hb=>⟨g,tab,e,hT.below hb,hw⟩),(fun v X X' ⟨g,tab,e,hT,hw⟩ hb=>⟨g,tab,e,hT.below hb,hw⟩),(fun v X X' ⟨g,tab,e,hT,hw⟩ hb=>⟨g,tab,e,hT.below hb,hw⟩),(fun v X X' ⟨g,tab,e,hT,hw⟩ hb=>⟨g,tab,e,hT.below hb,hw⟩),fun _ _ _ h _=>h,fun _ _ _ h _=>h,(fun v X X' ⟨g,tab,e,hT,hw⟩ hb=>⟨g,tab,e,hT.below hb,hw⟩),fun _ _ _ h _=>h,fun _ _ _ h _=>h,fun _ _ _ h _=>h,trivial⟩ ?_ ?_
   · refine StepsF.cons rfl (fun _ _=>rfl) (fun Q u X hBX hp K hK=>?_) ?_
     · clear hp
       have cg0:=(hBX.cell (p:=⟨w.heap.size,0,none⟩) y5).trans y0
       have cg1:=(hBX.cell (p:=⟨w.heap.size,1,none⟩) y5).trans y1
       have cg2:=(hBX.cell (p:=⟨w.heap.size,2,none⟩) y5).trans y2
       have cg3:=(hBX.cell (p:=⟨w.heap.size,3,none⟩) y5).trans y3
       go_simp
       exact hK _ _ hBX (Below.refl _ _) rfl
     refine StepsF.cons rfl (fun _ _=>rfl) (fun Q u X hBX hp K hK=>?_) ?_
     · clear hp
       go_simp
       exact hK _ _ hBX (Below.refl _ _) rfl
     refine StepsF.cons rfl (fun _ _=>rfl) (fun Q u X hBX hp K hK=>?_) ?_
     · have p0:u 0=_:=hp 0 rfl
       have p1:u 1=_:=hp 1 rfl
       clear hp
       generalize u 0=x0 at *
       subst p0
       generalize u 1=x1 at *
       subst p1
       go_simp
       go_at_call 68
       (with_reducible refine (CO.out _ hBX).mono ?_)
       rintro e w5 ⟨g,tab,rfl,hT,hw,hb5⟩
       go_simp
       exact hK _ _ (below_tail hBX hb5) hb5 ⟨g,tab,rfl,hT,hw⟩
     refine StepsF.cons rfl (fun _ _=>rfl) (fun Q u X hBX hp K hK=>?_) ?_
     · clear hp
       go_simp
       exact hK _ _ hBX (Below.refl _ _) rfl
     refine StepsF.cons rfl (fun _ _=>rfl) (fun Q u X hBX hp K hK=>?_) ?_
     · have p3:u 3=_:=hp 3 rfl
       clear hp
       generalize u 3=x3 at *
       subst p3
       have cg0:=(hBX.cell (p:=⟨w.heap.size,0,none⟩) y5).trans y0
       have cg1:=(hBX.cell (p:=⟨w.heap.size,1,none⟩) y5).trans y1
       have cg2:=(hBX.cell (p:=⟨w.heap.size,2,none⟩) y5).trans y2
       have cg3:=(hBX.cell (p:=⟨w.heap.size,3,none⟩) y5).trans y3
       go_simp
       exact hK _ _ hBX (Below.refl _ _) rfl
     refine StepsF.cons rfl (fun _ _=>rfl) (fun Q u X hBX hp K hK=>?_) ?_
     · obtain ⟨g,tab,p2,hT,hw⟩:=hp 2 rfl
       have p4:u 4=_:=hp 4 rfl
       clear hp
       generalize u 2=x2 at *
       subst p2
       generalize u 4=x4 at *
       subst p4
       go_simp
       exact hK _ _ hBX (Below.refl _ _) ⟨g,tab,rfl,hT,hw⟩
     refine StepsF.cons rfl (fun _ _=>rfl) (fun Q u X hBX hp K hK=>?_) ?_
     · obtain ⟨g,tab,p5,hT,hw⟩:=hp 5 rfl
       clear hp
       generalize u 5=x5 at *
       subst p5
       obtain ⟨t0,t1,t2⟩:=hT.at hstk (a:=0) (b:=q) (by omega) (by omega)
       have t3:=Blk.lt hT.top
       have t4:=Blk.lt (hT.rows st hstk).row
       have t5:=Blk.lt ((hT.rows st hstk).col 0 (by omega))
       go_simp
       exact hK _ _ hBX (Below.refl _ _) ⟨g,tab,rfl,hT,hw⟩
     refine StepsF.cons rfl (fun _ _=>rfl) (fun Q u X hBX hp K hK=>?_) ?_
     · obtain ⟨g,tab,p6,hT,hw⟩:=hp 6 rfl
       clear hp
       generalize u 6=x6 at *
       subst p6
       go_simp
       exact hK _ _ hBX (Below.refl _ _) ⟨g,tab,rfl,hT,hw⟩
     refine StepsF.cons rfl (fun _ _=>rfl) (fun Q u X hBX hp K hK=>?_) ?_
     · obtain ⟨g,tab,p7,hT,hw⟩:=hp 7 rfl
       clear hp
       generalize u 7=x7 at *
       subst p7
       obtain ⟨t0,t1,t2⟩:=hT.at hstk (a:=0) (b:=q) (by omega) (by omega)
       have t3:=Blk.lt hT.top
       have t4:=Blk.lt (hT.rows st hstk).row
       have t5:=Blk.lt ((hT.rows st hstk).col 0 (by omega))
       go_simp
       exact hK _ _ hBX (Below.refl _ _) ⟨g,tab,rfl,hT,hw⟩
     refine StepsF.cons rfl (fun _ _=>rfl) (fun Q u X hBX hp K hK=>?_) ?_
     · clear hp
       go_simp
       exact hK _ _ hBX (Below.refl _ _) rfl
     refine StepsF.cons rfl (fun _ _=>rfl) (fun Q u X hBX hp K hK=>?_) ?_
     · have p9:u 9=_:=hp 9 rfl
       clear hp
       generalize u 9=x9 at *
       subst p9
       go_simp
       exact hK _ _ hBX (Below.refl _ _) rfl
     refine StepsF.cons rfl (fun _ _=>rfl) (fun Q u X hBX hp K hK=>?_) ?_
     · obtain ⟨g,tab,p8,hT,hw⟩:=hp 8 rfl
       have p10:u 10=_:=hp 10 rfl
       clear hp
       generalize u 8=x8 at *
       subst p8
       generalize u 10=x10 at *
       subst p10
       go_simp
       exact hK _ _ hBX (Below.refl _ _) ⟨g,tab,rfl,hT,hw⟩
     refine StepsF.cons rfl (fun _ _=>rfl) (fun Q u X hBX hp K hK=>?_) ?_
     · obtain ⟨g,tab,p11,hT,hw⟩:=hp 11 rfl
       clear hp
       generalize u 11=x11 at *
       subst p11
       obtain ⟨t0,t1,t2⟩:=hT.at hstk (a:=0) (b:=q) (by omega) (by omega)
       have t3:=Blk.lt hT.top
       have t4:=Blk.lt (hT.rows st hstk).row
       have t5:=Blk.lt ((hT.rows st hstk).col 0 (by omega))
       go_simp
       exact hK _ _ hBX (Below.refl _ _) (by rw [hw];rfl)
     refine StepsF.cons rfl (fun _ _=>rfl) (fun Q u X hBX hp K hK=>?_) ?_
     · have p12:u 12=_:=hp 12 rfl
       clear hp
       generalize u 12=x12 at *
       subst p12
       go_simp
       exact hK _ _ hBX (Below.refl _ _) rfl
     refine StepsF.cons rfl (fun _ _=>rfl) (fun Q u X hBX hp K hK=>?_) ?_
     · clear hp
       go_simp
       exact hK _ _ hBX (Below.refl _ _) rfl
     exact StepsF.nil
   intro u W9 hB9 hp
   have p13:u 13=_:=hp 13 (by decide)
   have p14:u 14=_:=hp 14 (by decide)
   clear hp
   rw [p13,p14]
   clear p13 p14
   have HB9:=Lib.hid (below_tail HBr.out hB9)
   clear hB9
   go_wp2_with fail
   go_ret2
   exact ⟨HB9.out,rfl⟩
theorem sent_tells {G:Gr} (hr:G.right=true) {k:Nat} (hk:k≤10):(∃ xs,cntN22 G (k:Int)=(xs,10)∧endG G=true)∨(∃ xs,cntN22 G (k:Int)=(xs,2)∧hasWord G k=true)∨(∃ xs,cntN22 G (k:Int)=(xs,0)∧hasWord G k=decide (0 < xs.length)):=by
 cases hok:redOK G with
 | false =>
   refine .inr (.inr ⟨[],cnt_no hr hok hk,?_⟩)
   have hp:(prodN G).getD G.start.toNat false=false:=by unfold redOK at hok;rw [hr] at hok;simpa using hok
   have hn:=can_none hr hp k
   rw [Bool.eq_iff_iff,hasWord_iff]
   simp [hn]
 | true =>
   have hp:(prodN G).getD G.start.toNat false=true:=by unfold redOK at hok;rw [Bool.and_eq_true] at hok;exact hok.2
   by_cases hC:cycG (redG G)=0
   · have h1:=cnt_fit hr hok hC hk
     have h2:=can_start hr hp hC k
     generalize treeN (redG G) (-1 - (redG G).start) k=x at *
     rcases fit_cases x with ⟨hx,hf⟩ | ⟨hx,hf⟩
     · refine .inr (.inr ⟨limbs x,by rw [h1,hf],?_⟩)
       rw [Bool.eq_iff_iff,hasWord_iff,← h2,decide_eq_true_iff]
       have:=@limbs_none x
       omega
     · refine .inr (.inl ⟨[],by rw [h1,hf],hasWord_iff.2 (h2.1 fun h0=>hx ?_)⟩)
       subst h0
       unfold big
       generalize 1024=q
       exact Nat.two_pow_pos q
   · refine .inl ⟨[],cnt_cyc hr hok hC hk,?_⟩
     obtain ⟨h1,h2⟩:=red_ends hr hp
     rw [← h1]
     exact h2.2 hC
theorem countSentences_walk (h:GH) (G:Gr) (x:Int) (w:World) (hgi:GrIn w h G) (hx:(Lit.int .u8 x).wf=true) (hTab:TabAt w) :
 Calls Tryz.prog 7 #[GV h G.start, .int .u8 x] w fun e w'=>e = .returned (.bool true)∧Below w.heap.size w w':=by
 obtain ⟨n0,rfl,hn0⟩:=u8_natC hx
 obtain ⟨hg,hs,hst⟩:=hgi
 obtain ⟨a1,n1,c1,a2,n2,c2,a3,n3,c3⟩:=h
 have e1:G.terms.length=n1:=hg.terms.len
 have e2:G.nons.length=n2:=hg.nons.len
 have e3:G.rules.length=n3:=hg.rules.len
 have hB0:=alloc_below w (.cells #[.slice a1 n1 c1, .slice a2 n2 c2, .slice a3 n3 c3, .int .i64 G.start] 26)
 have hbox:=GBox.new w 26 ⟨a1,n1,c1,a2,n2,c2,a3,n3,c3⟩ G.start
 have CA:=Lib.hid alive22
 have Hg:=Lib.hid hg
 have Hs:=Lib.hid hs
 have HT:=Lib.hid hTab
 clear hst hg hs hx hTab
 go_enter Tryz.func7,Tryz.ntmps7
 go_wp2_with fail
 generalize w.alloc (.cells #[.slice a1 n1 c1, .slice a2 n2 c2, .slice a3 n3 c3, .int .i64 G.start] 26)=W0 at *
 (with_reducible refine (CA.out W0 (HT.out.below hB0)).mono ?_)
 rintro e W1 ⟨rfl,hb1⟩
 have hB1:=below_tail hB0 hb1
 have hbx1:=hbox.below hb1
 have ⟨y5,y0,y1,y2,y3⟩:=hbx1
 simp only [] at y0 y1 y2 y3
 have CG:=Lib.hid (rf_great ⟨a1,n1,c1,a2,n2,c2,a3,n3,c3⟩ G W1 (Hg.out.below hB1))
 have HB1:=Lib.hid hB1
 have Hbx1:=Lib.hid hbx1
 clear hbox hbx1 hb1 hB0 hB1
 rcases hgr:G.great with _ | _
 case true =>
  rw [hgr] at CG
  clear hgr
  go_wp2_with (go_at_call 14;(with_reducible refine CG.out.mono ?_);rintro e W2 ⟨rfl,hb2⟩)
  go_ret
  exact ⟨rfl,below_tail HB1.out hb2⟩
 obtain ⟨l1,l2,l3,_⟩:=great_falseC hgr
 rw [e1] at l1
 rw [e2] at l2
 rw [e3] at l3
 rw [hgr] at CG
 clear hgr e1 e2 e3
 have CI:Hid (∀ X,Below W1.heap.size W1 X→Calls Tryz.prog 29 #[GV ⟨a1,n1,c1,a2,n2,c2,a3,n3,c3⟩ G.start] X fun e w'=>e = .returned (.bool G.right)∧Below X.heap.size X w'):=Lib.hid fun X hb=>rf_right9 ⟨a1,n1,c1,a2,n2,c2,a3,n3,c3⟩ G X ((Hg.out.below HB1.out).below hb) (by simp only [];omega) (by simp only [];omega) (by simp only [];omega)
 rcases hri:G.right with _ | _
 case false =>
  rw [hri] at CI
  clear hri
  go_wp2_with (first
   | (go_at_call 14
      (with_reducible refine CG.out.mono ?_)
      rintro e W2 ⟨rfl,hb2⟩
      have HB2:=Lib.hid (below_tail HB1.out hb2)
      have CI2:=Lib.hid (CI.out W2 hb2)
      obtain ⟨x5,x0,x1,x2,x3⟩:=Hbx1.out.below hb2
      simp only [] at x0 x1 x2 x3
      clear hb2)
   | (go_at_call 29;(with_reducible refine CI2.out.mono ?_);rintro e W3 ⟨rfl,hb3⟩))
  go_ret
  exact ⟨rfl,below_tail HB2.out hb3⟩
 rw [hri] at CI
 have Hri:=Lib.hid hri
 obtain ⟨k,hk,hk6⟩:∃ k:Nat,(n0:Int) % 7=(k:Int)∧k≤6:=⟨n0 % 7,by omega,by omega⟩
 clear hri
 go_upto_region 6 with (first
  | (go_at_call 14
     (with_reducible refine CG.out.mono ?_)
     rintro e W2 ⟨rfl,hb2⟩
     have CI2:=Lib.hid (CI.out W2 hb2)
     have HB2:=Lib.hid (below_tail HB1.out hb2)
     have Hbx2:=Lib.hid (Hbx1.out.below hb2)
     obtain ⟨x5,x0,x1,x2,x3⟩:=Hbx2.out
     simp only [] at x0 x1 x2 x3
     clear hb2)
  | (go_at_call 29;(with_reducible refine CI2.out.mono ?_);rintro e W3 ⟨rfl,hb3⟩))
 have HB3:=Lib.hid (below_tail HB2.out hb3)
 have Hbx3:=Lib.hid (Hbx2.out.below hb3)
 clear x0 x1 x2 x3 x5 y0 y1 y2 y3 y5 hb3 CI CI2 CG Hbx2 Hbx1 HB1 HB2 CA
 have ⟨y5,y0,y1,y2,y3⟩:=Hbx3.out
 simp only [] at y0 y1 y2 y3
 have C1:=Lib.hid (tr_cCount ⟨a1,n1,c1,a2,n2,c2,a3,n3,c3⟩ G (k:Int) W3 (Hg.out.below HB3.out) Hs.out (HT.out.below HB3.out) (by simp only [];omega) (by simp only [];omega) (by simp only [];omega))
 have hcase:=sent_tells Hri.out (k:=k) (by omega)
 generalize cntN22 G (k:Int)=res at *
 obtain ⟨xs,er⟩:=res
 go_upto_region 7 with fail
 (with_reducible refine C1.out.mono ?_)
 rintro e W4 ⟨A4,c4,rfl,hn4,hb4⟩
 have HB4:=Lib.hid (below_tail HB3.out hb4)
 have Hbx4:=Lib.hid (Hbx3.out.below hb4)
 simp only [] at hn4
 clear y0 y1 y2 y3 y5 C1 hn4 hb4 Hbx3 HB3
 have ⟨y5,y0,y1,y2,y3⟩:=Hbx4.out
 simp only [] at y0 y1 y2 y3
 rcases hcase with ⟨xs',hc1,hE⟩ | hcase
 case inl =>
  injection hc1 with h1 h2
  subst h2
  have CE:=Lib.hid (rf_Endless ⟨a1,n1,c1,a2,n2,c2,a3,n3,c3⟩ G W4 (Hg.out.below HB4.out) (by simp only [];omega) (by simp only [];omega) (by simp only [];omega))
  rw [hE] at CE
  have i4:(((10:Nat):Int) == 10)=true:=rfl
  clear hE h1
  go_wp2_with (go_at_call 30;(with_reducible refine CE.out.mono ?_);rintro e W5 ⟨hb5,rfl⟩)
  go_ret
  exact ⟨rfl,below_tail HB4.out hb5⟩
 have hcase2:(er=2∧hasWord G k=true)∨(er=0∧hasWord G k=decide (0 < xs.length)):=by
  rcases hcase with ⟨xs',h,hw⟩ | ⟨xs',h,hw⟩
  · injection h with h1 h2;exact .inl ⟨h2,hw⟩
  · injection h with h1 h2;subst h1;exact .inr ⟨h2,hw⟩
 have hne:(((er:Nat):Int) == 10)=false:=by rw [beq_eq_false_iff_ne];omega
 have Hcase:=Lib.hid hcase2
 clear hcase hcase2
 have HiI:Hid ((Tryz.prog.info? 3).map (fun i=>(i.zero,i.size,i.bytes))=some (some (.int .i64 0),1,8)):=Lib.hid Tryz.infoInt
 have Ho0:Hid (W4.ownsRow W4.heap.size 3 1 (.slice none 0 0) 0 (ints .i64 (List.replicate 0 (-1)))):=Lib.hid (World.ownsRow_nil _ _ _ _)
 clear y0 y1 y2 y3 y5
 go_wp2_with fail
 go_loopw [8,9] (fun v i wr=>∃ (j:Nat) (A:Option Addr) (c:Nat),j≤k∧i = .int .i64 (j:Int)∧v = .slice A j c∧Hid (wr.ownsRow W4.heap.size 3 1 (.slice A j c) j (ints .i64 (List.replicate j (-1))))∧Hid (Below W4.heap.size W4 wr)) (fun _ i _=>k - (intOf i).toNat)
 case atStart=>exact ⟨0,none,0,Nat.zero_le _,rfl,rfl,Ho0,Lib.hid (Below.refl _ _)⟩
 case round =>
  clear Ho0
  obtain ⟨j,A,c,hj,rfl,rfl,Ho,HB⟩:=hrel
  have hbs:W4.heap.size≤wr.heap.size:=HB.out.size
  by_cases hjk:j < k
  case pos =>
   go_wp2_with (first
    | (at_builtin;refine wpl_appendT rfl _ _ 27 rfl W4.heap.size 3 _ 1 8 Tryz.underlying27 HiI.out (by decide) (by decide) A j c (ints .i64 (List.replicate j (-1))) rfl Ho.out [.int .i64 (-1)] rfl rfl (by simp [Value.oneCell']) (by omega) (by omega) hbs ?_;intro A5 c5 w5 ho hg ha
       have HB5:=Lib.hid (HB.out.trans ((Off.of_grown hg).is_below hbs fun k hk=>(Ho.out.lt k hk).1))
       have Ho5:Hid (w5.ownsRow W4.heap.size 3 1 (.slice A5 (j+1) c5) (j+1) (ints .i64 (List.replicate (j+1) (-1)))):=Lib.hid (by
        rw [show ints .i64 (List.replicate (j+1) (-1))=ints .i64 (List.replicate j (-1))++[.int .i64 (-1)] by rw [List.replicate_succ'];simp [ints]]
        exact ho)
       clear ho hg ha))
   go_roundw
   case rel=>exact ⟨j+1,A5,c5,by omega,by go_num,rfl,Ho5,HB5⟩
   case measure=>simp [intOf] <;> omega
  case neg =>
   obtain rfl:j=k:=by omega
   have hI:Ints .i64 wr A j c (List.replicate j (-1)):=own_sl Ho.out
   have HBr:=Lib.hid (below_tail HB4.out HB.out)
   have ⟨y5,y0,y1,y2,y3⟩:=Hbx4.out.below HB.out
   simp only [] at y0 y1 y2 y3
   have CF:=Lib.hid (rf_Fits ⟨a1,n1,c1,a2,n2,c2,a3,n3,c3⟩ G A c j wr (Hg.out.below HBr.out) Hri.out hI (by omega))
   clear hI
   go_wp2_with fail
   (with_reducible refine CF.out.mono ?_)
   rintro e W5 ⟨hb5,rfl⟩
   have HB5:=Lib.hid (below_tail HBr.out hb5)
   clear hb5 CF y0 y1 y2 y3 y5
   rcases Hcase.out with ⟨rfl,hw⟩ | ⟨rfl,hw⟩
   · rw [hw]
     have i5:(((2:Nat):Int) == 2)=true:=rfl
     clear hw
     go_wp2_with fail
     go_ret
     exact ⟨rfl,HB5.out⟩
   · rw [hw]
     have i5:(((0:Nat):Int) == 2)=false:=rfl
     clear hw
     by_cases hl:0 < xs.length
     · have d1:decide (0 < xs.length)=true:=decide_eq_true hl
       have d2:decide ((0:Int) < (xs.length:Int))=true:=decide_eq_true (by omega)
       rw [d1]
       go_wp2_with fail
       go_ret
       exact ⟨rfl,HB5.out⟩
     · have d1:decide (0 < xs.length)=false:=decide_eq_false hl
       have d2:decide ((0:Int) < (xs.length:Int))=false:=decide_eq_false (by omega)
       rw [d1]
       go_wp2_with fail
       go_ret
       exact ⟨rfl,HB5.out⟩
end Go.Proofs.YtggbjdmpjidhgaaGreatDoor
