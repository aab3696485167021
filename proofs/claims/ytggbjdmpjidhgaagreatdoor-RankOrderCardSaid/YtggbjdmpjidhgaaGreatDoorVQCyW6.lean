/- the cycles: the reference's, walked. -/
import Derived.Test.YtggbjdmpjidhgaaGreatDoorVQCyW2
import Derived.Test.YtggbjdmpjidhgaaGreatDoorVQPs8
set_option linter.unusedVariables false
set_option linter.unusedSimpArgs false
set_option maxHeartbeats 8000000
set_option maxRecDepth 100000
namespace Go.Proofs.YtggbjdmpjidhgaaGreatDoor
open Go.RowKit
def cycG (G:Gr):Nat:=if G.right then cycS (stepsN G) else 0
theorem cycG_lt (G:Gr):cycG G < 4294967296:=by
 unfold cycG cycS
 split
 · exact setB_lt _ _
 · decide
def useS (G:Gr):Nat:=setB (fun i=>(prodN G).getD i false && (reachN G).getD i false) G.nons.length
def useG (G:Gr):Nat:=if G.right then useS G else 0
def endG (G:Gr):Bool:=(cycG G &&& useG G) != 0
theorem reachN_len (G:Gr):(reachN G).length=G.nons.length:=by
 unfold reachN
 have:∀ k,(iter (passI (reachI (prodN G)) G.rules) k (startN G)).length=(startN G).length:=fun k=>iterI_len _ _ _ k
 rw [this]
 unfold startN
 simp
theorem steps_sub (Q:Nat→Nat→Prop) (N P:List Bool) (b:List Rul) (m:∀ r ∈ b,∀ k s,r.right[k]? = some s→standsR N P r.right k s=true→Q r.left.toNat (nonI s)) :
 ∀ (F:List Nat),(∀ i t,(F.getD i 0).testBit t=true→Q i t)→∀ i t,((passSt N P b F).getD i 0).testBit t=true→Q i t:=by
 have n:∀ (r:Rul),r ∈ b→∀ (k:Nat) (F:List Nat),(∀ i t,(F.getD i 0).testBit t=true→Q i t)→∀ i t,((growSt N P r k F).getD i 0).testBit t=true→Q i t:=by
  intro r c k F a i t h
  unfold growSt at h
  split at h
  · exact a i t h
  · rename_i s y
    split at h
    · rename_i d
      rw [addAt_get] at h
      split at h
      · rename_i g
        rw [Nat.testBit_or,Bool.or_eq_true] at h
        rcases h with h | h
        · rw [g.1];exact a _ t h
        · have v:=m r c k s y d
          unfold standsR at d
          simp only [Bool.and_eq_true,decide_eq_true_eq] at d
          obtain ⟨j,o⟩:∃ j:Nat,-1 - s=(j:Int):=⟨(-1 - s).toNat,by omega⟩
          rw [o,bitN_test,Bool.and_eq_true,decide_eq_true_iff,decide_eq_true_iff] at h
          have p:nonI s=t:=by unfold nonI;omega
          rw [g.1,← p]
          exact v
      · exact a i t h
    · exact a i t h
 have u:∀ (r:Rul),r ∈ b→∀ (k:Nat) (F:List Nat),(∀ i t,(F.getD i 0).testBit t=true→Q i t)→∀ i t,((posSt N P r k F).getD i 0).testBit t=true→Q i t:=by
  intro r c k F a
  induction k with
  | zero=>exact a
  | succ k f=>rw [posSt_succ];exact n r c k _ f
 have q:∀ (l:List Rul),(∀ r ∈ l,r ∈ b)→∀ (F:List Nat),(∀ i t,(F.getD i 0).testBit t=true→Q i t)→∀ i t,((passSt N P l F).getD i 0).testBit t=true→Q i t:=by
  intro l
  induction l with
  | nil=>exact fun _ F a=>a
  | cons r l f=>exact fun h F a=>f (fun z x=>h z (List.mem_cons_of_mem _ x)) _ (u r (h r (List.mem_cons_self ..)) _ F a)
 exact q b fun _ h=>h
theorem passI_fixed (ids:Rul→List Bool→List Int):∀ (a:List Rul) {N:List Bool},passI ids a N=N→∀ r ∈ a,setI N (ids r N)=N
 | [],N,h,r,b=>by cases b
 | q::a,N,h,r,b=>by
   have c:growI ids q N=N:=Grows.anti (f:=growI ids q) (g:=passI ids a) ⟨fun N=>((setI_le N (ids q N)).1).symm,fun N i h=>(setI_le N (ids q N)).2 i h⟩ (passI_grows ids a) h
   rcases List.mem_cons.1 b with rfl | b
   · exact c
   · refine passI_fixed ids a ?_ r b
     have:passI ids a (growI ids q N)=N:=h
     rwa [c] at this
theorem setI_has:∀ (l:List Int) {N:List Bool} {s:Int},s ∈ l→s.toNat < N.length→(setI N l).getD s.toNat false=true
 | q::l,N,s,a,hl=>by
   rcases List.mem_cons.1 a with rfl | a
   · exact setI_getD l ((set_getD N s.toNat s.toNat).2 (.inr ⟨rfl,hl⟩))
   · exact setI_has l (N:=N.set q.toNat true) a (by simpa using hl)
theorem useS_bit (G:Gr) (b:G.Fits) (i:Nat):(useS G).testBit i=true ↔ (prodN G).getD i false=true∧(reachN G).getD i false=true:=by
 unfold useS
 rw [setB_bit]
 simp only [Bool.and_eq_true,decide_eq_true_eq]
 have:=b.n2.2
 constructor
 · rintro ⟨_,_,h⟩;exact h
 · intro h
   have c:i < G.nons.length:=by
    rcases Nat.lt_or_ge i G.nons.length with a | a
    · exact a
    · have h1:=h.1
      rw [List.getD_eq_getElem?_getD,List.getElem?_eq_none (by rw [prodN_len];exact a)] at h1
      cases h1
   exact ⟨by omega,c,h⟩
theorem use_closed (G:Gr) (f:G.Fits):∀ i t,(useS G).testBit i=true→((stepsN G).getD i 0).testBit t=true→(useS G).testBit t=true:=by
 intro i t hi u
 rw [useS_bit G f] at hi ⊢
 have m:passI (reachI (prodN G)) G.rules (reachN G)=reachN G:=by
  have:=(passI_grows (reachI (prodN G)) G.rules).fix (startN G)
  have a:(startN G).length=G.nons.length:=by unfold startN;simp
  rw [a] at this
  exact this
 refine steps_sub (fun i t=>((prodN G).getD i false=true∧(reachN G).getD i false=true)→(prodN G).getD t false=true∧(reachN G).getD t false=true) (nullN G) (prodN G) G.rules (fun r l k s q d hi=>?_) _ (fun i t h=>?_) i t u hi
 · unfold standsR at d
   simp only [Bool.and_eq_true,decide_eq_true_eq] at d
   obtain ⟨⟨h0,_⟩,j⟩:=d
   have c:=List.mem_of_getElem? q
   have v:=f.sym r l s c
   refine ⟨?_,?_⟩
   · have b:=j
     unfold allP at b
     rw [List.all_eq_true] at b
     have:=b s c
     rwa [if_neg (by omega)] at this
   · have g:=passI_fixed (reachI (prodN G)) G.rules m r l
     have n:goesP (prodN G) r (reachN G)=true:=by unfold goesP;rw [hi.2,j];rfl
     have o:reachI (prodN G) r (reachN G)=nonsI r.right:=by unfold reachI;rw [if_pos n]
     rw [o] at g
     have p:-1 - s ∈ nonsI r.right:=by
      unfold nonsI
      rw [List.mem_map]
      exact ⟨s,List.mem_filter.2 ⟨c,by rw [decide_eq_true_iff];exact h0⟩,rfl⟩
     have:=setI_has (nonsI r.right) (N:=reachN G) p (by rw [reachN_len];omega)
     rw [g] at this
     exact this
 · rw [List.getD_eq_getElem?_getD] at h
   rcases Nat.lt_or_ge i G.nons.length with a | a
   · simp [a] at h
   · simp [List.getElem?_eq_none,a] at h
theorem order_next (G:Gr) (b:G.right=true) (c:endG G=false) {g:Nat} (f:findB (pickB (stepsN G) (useS G) g) G.nons.length=none):andN (useS G) g=0:=by
 have d:=Gr.fits b
 rw [← stepsN_len] at f
 refine order_goes (use_closed G d) (fun i hi=>?_) (fun i hi=>?_) f
 · rw [useS_bit G d] at hi
   rw [stepsN_len]
   rcases Nat.lt_or_ge i G.nons.length with a | a
   · exact a
   · have h1:=hi.1
     rw [List.getD_eq_getElem?_getD,List.getElem?_eq_none (by rw [prodN_len];exact a)] at h1
     cases h1
 · cases j:comesTo (stepsN G) i i
   · rfl
   · exfalso
     have h:=bit_lt (setB_lt _ _) hi
     have l:i < (stepsN G).length:=by
      unfold useS at hi
      rw [setB_bit] at hi
      simp only [Bool.and_eq_true,decide_eq_true_eq] at hi
      rw [stepsN_len]
      exact hi.2.1
     have k:(cycG G).testBit i=true:=by
      unfold cycG cycS
      rw [if_pos b,setB_bit,j]
      simp [h,l]
     have m:(useG G).testBit i=true:=by
      unfold useG
      rw [if_pos b]
      exact hi
     have n:cycG G &&& useG G=0:=by
      unfold endG at c
      simpa using c
     have:=Nat.testBit_and (cycG G) (useG G) i
     rw [n,k,m,Nat.zero_testBit] at this
     cases this
theorem getD_lt {N:List Bool} {i:Nat} (h:N.getD i false=true):i < N.length:=by
 rcases Nat.lt_or_ge i N.length with a | a
 · exact a
 · rw [List.getD_eq_getElem?_getD,List.getElem?_eq_none a] at h
   cases h
theorem rep_false (n i:Nat):(List.replicate n false).getD i false=false:=by
 rw [List.getD_eq_getElem?_getD,List.getElem?_replicate]
 split <;> rfl
theorem passN_fixed (p:Rul→List Bool→Bool):∀ (a:List Rul) {N:List Bool},passN p a N=N→∀ r ∈ a,growN p r N=N
 | [],N,h,r,b=>by cases b
 | q::a,N,h,r,b=>by
   have c:growN p q N=N:=Grows.anti (f:=growN p q) (g:=passN p a) (growN_grows p q) (passN_grows p a) h
   rcases List.mem_cons.1 b with rfl | b
   · exact c
   · refine passN_fixed p a ?_ r b
     have:passN p a (growN p q N)=N:=h
     rwa [c] at this
theorem grown_fix (b:Bool) (G:Gr):passN (bareP b) G.rules (grownN b G)=grownN b G:=by
 have:=(passN_grows (bareP b) G.rules).fix (List.replicate G.nons.length false)
 rw [List.length_replicate] at this
 exact this
theorem grown_closed {b:Bool} {G:Gr} {r:Rul} (d:r ∈ G.rules) (c:r.left.toNat < G.nons.length) (h:allP b (grownN b G) r.right=true):(grownN b G).getD r.left.toNat false=true:=by
 have a:=passN_fixed (bareP b) G.rules (grown_fix b G) r d
 unfold growN at a
 rw [if_pos (show bareP b r (grownN b G)=true from h)] at a
 rw [← a]
 exact (set_getD _ _ _).2 (.inr ⟨rfl,by rw [grownN_len];exact c⟩)
theorem passN_least {b:Bool} (X:Nat→Prop):∀ (c:List Rul),(∀ r ∈ c,(∀ s ∈ r.right,(0≤s→b=true)∧(s < 0→X (nonI s)))→X r.left.toNat) →
 ∀ {N:List Bool},(∀ i,N.getD i false=true→X i)→∀ i,(passN (bareP b) c N).getD i false=true→X i
 | [],_,N,hN,i,h=>hN i h
 | r::c,hX,N,hN,i,h=>by
   refine passN_least X c (fun q f=>hX q (List.mem_cons_of_mem _ f)) (N:=growN (bareP b) r N) (fun j a=>?_) i h
   unfold growN at a
   split at a
   · rename_i d
     rcases (set_getD _ _ _).1 a with a | ⟨rfl,_⟩
     · exact hN j a
     · refine hX r (List.mem_cons_self ..) fun s g=>?_
       have h1:(if 0≤s then b else N.getD (nonI s) false)=true:=List.all_eq_true.1 d s g
       refine ⟨fun h0=>?_,fun h0=>?_⟩
       · rwa [if_pos h0] at h1
       · rw [if_neg (by omega)] at h1
         exact hN _ h1
   · exact hN j a
theorem grown_least {b:Bool} {G:Gr} (X:Nat→Prop) (a:∀ r ∈ G.rules,(∀ s ∈ r.right,(0≤s→b=true)∧(s < 0→X (nonI s)))→X r.left.toNat) {i:Nat} (h:(grownN b G).getD i false=true):X i:=by
 unfold grownN at h
 have key:∀ (k i:Nat),(iter (passN (bareP b) G.rules) k (List.replicate G.nons.length false)).getD i false=true→X i:=by
  intro k
  induction k with
  | zero=>intro i h;rw [iter,rep_false] at h;cases h
  | succ k c=>intro i h;exact passN_least X G.rules a c i h
 exact key _ i h
theorem allP_iff {b:Bool} {N:List Bool} {ss:List Int}:allP b N ss=true ↔ ∀ s ∈ ss,(0≤s→b=true)∧(s < 0→N.getD (nonI s) false=true):=by
 unfold allP
 rw [List.all_eq_true]
 constructor
 · intro h s a
   have:=h s a
   refine ⟨fun h0=>by rwa [if_pos h0] at this,fun h0=>by rwa [if_neg (by omega)] at this⟩
 · intro h s a
   split
   · rename_i h0;exact (h s a).1 h0
   · rename_i h0;exact (h s a).2 (by omega)
theorem reach_fix (G:Gr):passI (reachI (prodN G)) G.rules (reachN G)=reachN G:=by
 have:=(passI_grows (reachI (prodN G)) G.rules).fix (startN G)
 have a:(startN G).length=G.nons.length:=by unfold startN;simp
 rw [a] at this
 exact this
theorem reach_start {G:Gr} (d:G.Fits):(reachN G).getD G.start.toNat false=true:=by
 have key:∀ (k:Nat),(iter (passI (reachI (prodN G)) G.rules) k (startN G)).getD G.start.toNat false=true:=by
  intro k
  induction k with
  | zero =>
    rw [iter]
    unfold startN
    exact (set_getD _ _ _).2 (.inr ⟨rfl,by rw [List.length_replicate];have:=d.st;omega⟩)
  | succ k a =>
    rw [iter]
    have h1:=(passI_grows (reachI (prodN G)) G.rules)
    have b:=getD_lt a
    generalize iter (passI (reachI (prodN G)) G.rules) k (startN G)=N at *
    have c:N[G.start.toNat]? = some true:=by
     rw [List.getD_eq_getElem?_getD,List.getElem?_eq_getElem b] at a
     rw [List.getElem?_eq_getElem b]
     exact congrArg some a
    have:=h1.up N _ c
    rw [List.getD_eq_getElem?_getD,this]
    rfl
 exact key _
theorem nonsI_mem {ss:List Int} {t:Int}:t ∈ nonsI ss ↔ ∃ s ∈ ss,s < 0∧-1 - s=t:=by
 unfold nonsI
 simp only [List.mem_map,List.mem_filter,decide_eq_true_eq]
 constructor
 · rintro ⟨s,⟨h1,a⟩,b⟩;exact ⟨s,h1,a,b⟩
 · rintro ⟨s,h1,a,b⟩;exact ⟨s,⟨h1,a⟩,b⟩
theorem reach_closed {G:Gr} (d:G.Fits) {r:Rul} (b:r ∈ G.rules) (j:(reachN G).getD r.left.toNat false=true) (h:allP true (prodN G) r.right=true) {s:Int} (c:s ∈ r.right) (h0:s < 0):(reachN G).getD (nonI s) false=true:=by
 have a:=passI_fixed (reachI (prodN G)) G.rules (reach_fix G) r b
 have f:goesP (prodN G) r (reachN G)=true:=by unfold goesP;rw [j,h];rfl
 have g:reachI (prodN G) r (reachN G)=nonsI r.right:=by unfold reachI;rw [if_pos f]
 rw [g] at a
 have k:=d.sym r b s c
 have:=setI_has (nonsI r.right) (N:=reachN G) (nonsI_mem.2 ⟨s,c,h0,rfl⟩) (by rw [reachN_len];omega)
 rw [a] at this
 exact this
theorem setI_least (X:Nat→Prop):∀ (ids:List Int),(∀ t ∈ ids,X t.toNat)→∀ {N:List Bool},(∀ i,N.getD i false=true→X i)→∀ i,(setI N ids).getD i false=true→X i
 | [],_,N,hN,i,h=>hN i h
 | t::ids,hX,N,hN,i,h=>by
   refine setI_least X ids (fun q b=>hX q (List.mem_cons_of_mem _ b)) (N:=N.set t.toNat true) (fun j a=>?_) i h
   rcases (set_getD _ _ _).1 a with a | ⟨rfl,_⟩
   · exact hN j a
   · exact hX t (List.mem_cons_self ..)
theorem passR_least {P:List Bool} (X:Nat→Prop):∀ (c:List Rul),(∀ r ∈ c,X r.left.toNat→allP true P r.right=true→∀ s ∈ r.right,s < 0→X (nonI s)) →
 ∀ {N:List Bool},(∀ i,N.getD i false=true→X i)→∀ i,(passI (reachI P) c N).getD i false=true→X i
 | [],_,N,hN,i,h=>hN i h
 | r::c,hX,N,hN,i,h=>by
   refine passR_least X c (fun q f=>hX q (List.mem_cons_of_mem _ f)) (N:=growI (reachI P) r N) (fun j d=>?_) i h
   refine setI_least X _ (fun t b=>?_) hN j d
   unfold reachI at b
   split at b
   · rename_i a
     unfold goesP at a
     rw [Bool.and_eq_true] at a
     obtain ⟨s,g,h0,rfl⟩:=nonsI_mem.1 b
     exact hX r (List.mem_cons_self ..) (hN _ a.1) a.2 s g h0
   · cases b
theorem reach_least {G:Gr} (X:Nat→Prop) (h0:X G.start.toNat) (a:∀ r ∈ G.rules,X r.left.toNat→allP true (prodN G) r.right=true→∀ s ∈ r.right,s < 0→X (nonI s)) {i:Nat} (h:(reachN G).getD i false=true):X i:=by
 unfold reachN at h
 have key:∀ (k i:Nat),(iter (passI (reachI (prodN G)) G.rules) k (startN G)).getD i false=true→X i:=by
  intro k
  induction k with
  | zero =>
    intro i h
    rw [iter] at h
    unfold startN at h
    rcases (set_getD _ _ _).1 h with h | ⟨rfl,_⟩
    · rw [rep_false] at h;cases h
    · exact h0
  | succ k b=>intro i h;exact passR_least X G.rules a b i h
 exact key _ i h
theorem growSt_up (N P:List Bool) (r:Rul) (k:Nat) {F:List Nat} {i t:Nat} (h:(F.getD i 0).testBit t=true):((growSt N P r k F).getD i 0).testBit t=true:=by
 unfold growSt
 split
 · exact h
 · split
   · rw [addAt_get]
     split
     · rename_i a
       rw [Nat.testBit_or,← a.1,h];rfl
     · exact h
   · exact h
theorem posSt_up (N P:List Bool) (r:Rul) {F:List Nat} {i t:Nat} (h:(F.getD i 0).testBit t=true):∀ k,((posSt N P r k F).getD i 0).testBit t=true
 | 0=>h
 | k+1=>by rw [posSt_succ];exact growSt_up N P r k (posSt_up N P r h k)
theorem passSt_up (N P:List Bool):∀ (a:List Rul) {F:List Nat} {i t:Nat},(F.getD i 0).testBit t=true→((passSt N P a F).getD i 0).testBit t=true
 | [],F,i,t,h=>h
 | r::a,F,i,t,h=>passSt_up N P a (posSt_up N P r h _)
theorem posSt_has {N P:List Bool} {r:Rul} {F:List Nat} {k:Nat} {s:Int} (c:r.right[k]? = some s) (d:standsR N P r.right k s=true) (b:r.left.toNat < F.length) (h0:s < 0) (a:nonI s < 32) :
 ∀ m,k < m→((posSt N P r m F).getD r.left.toNat 0).testBit (nonI s)=true
 | 0,h=>by omega
 | m+1,h=>by
   rw [posSt_succ]
   by_cases f:k=m
   · subst f
     unfold growSt
     rw [c]
     simp only []
     rw [if_pos d,addAt_get,if_pos ⟨rfl,by rw [posSt_len];exact b⟩,Nat.testBit_or]
     rw [show (-1 - s)=((nonI s:Nat):Int) by unfold nonI;omega,bitN_test]
     simp [a]
   · exact growSt_up N P r m (posSt_has c d b h0 a m (by omega))
theorem passSt_has {N P:List Bool} {r:Rul} {k:Nat} {s:Int} (c:r.right[k]? = some s) (f:standsR N P r.right k s=true) (h0:s < 0) (d:nonI s < 32) :
 ∀ (a:List Rul) {F:List Nat},r ∈ a→r.left.toNat < F.length→((passSt N P a F).getD r.left.toNat 0).testBit (nonI s)=true
 | q::a,F,b,hl=>by
   rcases List.mem_cons.1 b with rfl | b
   · exact passSt_up N P a (posSt_has c f hl h0 d _ (List.getElem?_eq_some_iff.1 c).1)
   · exact passSt_has c f h0 d a b (by rw [posSt_len];exact hl)
theorem steps_mem {G:Gr} (f:G.Fits) {i t:Nat}:((stepsN G).getD i 0).testBit t=true ↔ ∃ r ∈ G.rules,∃ k s,r.right[k]? = some s∧standsR (nullN G) (prodN G) r.right k s=true∧r.left.toNat=i∧nonI s=t:=by
 constructor
 · intro h
   refine steps_sub (fun i t=>∃ r ∈ G.rules,∃ k s,r.right[k]? = some s∧standsR (nullN G) (prodN G) r.right k s=true∧r.left.toNat=i∧nonI s=t) (nullN G) (prodN G) G.rules (fun r b k s d a=>⟨r,b,k,s,d,a,rfl,rfl⟩) _ (fun i t h=>?_) i t h
   rw [List.getD_eq_getElem?_getD] at h
   rcases Nat.lt_or_ge i G.nons.length with c | c
   · simp [c] at h
   · simp [List.getElem?_eq_none,c] at h
 · rintro ⟨r,b,k,s,d,a,rfl,rfl⟩
   have h0:s < 0:=by
    unfold standsR at a
    simp only [Bool.and_eq_true,decide_eq_true_eq] at a
    exact a.1.1
   have j:=f.sym r b s (List.mem_of_getElem? d)
   have g:=f.n2
   have c:=f.left r b
   exact passSt_has d a h0 (by unfold nonI;omega) G.rules b (by rw [List.length_replicate];omega)
theorem snoc_ind {α:Type} {M:List α→Prop} (h0:M []) (h1:∀ l x,M l→M (l++[x])) (l:List α):M l:=by
 have key:∀ q:List α,M q.reverse:=by
  intro q
  induction q with
  | nil=>exact h0
  | cons x q a=>rw [List.reverse_cons];exact h1 _ x a
 have:=key l.reverse
 rwa [List.reverse_reverse] at this
theorem nodup_le:∀ (n:Nat) (l:List Nat),l.Nodup→(∀ i ∈ l,i < n)→l.length≤n
 | 0,l,_,h=>by
   cases l with
   | nil=>simp
   | cons x l=>exact absurd (h x (List.mem_cons_self ..)) (by omega)
 | n+1,l,hn,h=>by
   by_cases a:n ∈ l
   · have:=nodup_le n (l.erase n) (hn.erase n) fun i hi=>by
      rw [hn.mem_erase_iff] at hi
      have:=h i hi.2
      omega
     rw [List.length_erase_of_mem a] at this
     omega
   · have:=nodup_le n l hn fun i hi=>by
      have:=h i hi
      have:i ≠ n:=fun b=>a (b ▸ hi)
      omega
     omega
def putO (o:List Nat) (i:Nat):List Nat:=if i ∈ o then o else o++[i]
def oldOf (a:List Rul):List Nat:=a.foldl (fun o r=>putO o r.left.toNat) []
theorem oldOf_snoc (a:List Rul) (r:Rul):oldOf (a++[r])=putO (oldOf a) r.left.toNat:=by simp [oldOf]
def toI (o:List Nat) (i:Nat):Int:=findI (fun x=>decide (x=i)) o
theorem oldOf_mem {b:List Rul} {i:Nat}:i ∈ oldOf b ↔ ∃ r ∈ b,r.left.toNat=i:=by
 induction b using snoc_ind with
 | h0=>simp [oldOf]
 | h1 b r c =>
   rw [oldOf_snoc]
   unfold putO
   simp only [List.mem_append,List.mem_singleton]
   split
   · rename_i h
     rw [c]
     constructor
     · rintro ⟨q,a,rfl⟩;exact ⟨q, .inl a,rfl⟩
     · rintro ⟨q,a | rfl,rfl⟩
       · exact ⟨q,a,rfl⟩
       · exact c.1 h
   · rw [List.mem_append,c,List.mem_singleton]
     constructor
     · rintro (⟨q,a,rfl⟩ | rfl)
       · exact ⟨q, .inl a,rfl⟩
       · exact ⟨r, .inr rfl,rfl⟩
     · rintro ⟨q,a | rfl,rfl⟩
       · exact .inl ⟨q,a,rfl⟩
       · exact .inr rfl
theorem putO_nodup {o:List Nat} (h:o.Nodup) (i:Nat):(putO o i).Nodup:=by
 unfold putO
 split
 · exact h
 · rename_i hi
   rw [List.nodup_append]
   refine ⟨h,by simp,fun a d b c=>?_⟩
   rw [List.mem_singleton] at c
   subst c
   rintro rfl
   exact hi d
theorem oldOf_nodup (a:List Rul):(oldOf a).Nodup:=by
 induction a using snoc_ind with
 | h0=>simp [oldOf]
 | h1 a r b=>rw [oldOf_snoc];exact putO_nodup b _
theorem toI_get {o:List Nat} (c:o.Nodup) {k i:Nat} (h:o[k]? = some i):toI o i=(k:Int):=by
 unfold toI
 refine findI_at h (by simp) fun j b y d=>?_
 rw [decide_eq_false_iff_not]
 rintro rfl
 have h1:=(List.getElem?_eq_some_iff.1 h)
 have a:=(List.getElem?_eq_some_iff.1 d)
 have:=List.pairwise_iff_getElem.1 c j k a.1 h1.1 b
 exact this (a.2.trans h1.2.symm)
theorem toI_mem {o:List Nat} (b:o.Nodup) {i:Nat} (h:i ∈ o):∃ k,k < o.length∧o[k]? = some i∧toI o i=(k:Int):=by
 obtain ⟨k,a⟩:=List.getElem?_of_mem h
 exact ⟨k,(List.getElem?_eq_some_iff.1 a).1,a,toI_get b a⟩
theorem toI_none {o:List Nat} {i:Nat} (h:i ∉ o):toI o i=-1:=by
 unfold toI
 refine findI_none fun j y a=>?_
 rw [decide_eq_false_iff_not]
 rintro rfl
 exact h (List.mem_of_getElem? a)
theorem toI_neg {o:List Nat} {i:Nat}:toI o i < 0 ↔ i ∉ o:=by
 constructor
 · intro h hi
   obtain ⟨k,a⟩:=List.getElem?_of_mem hi
   have:=findI_neg (p:=fun x=>decide (x=i)) h k i a
   simp at this
 · intro h;rw [toI_none h];decide
theorem toI_lt (o:List Nat) (i:Nat):-1≤toI o i∧toI o i < o.length:=findI_lo _ o
theorem toI_app {o:List Nat} {i:Nat} (a:(o++[i]).Nodup):toI (o++[i]) i=(o.length:Int):=toI_get a (by simp)
theorem toI_app_ne (o:List Nat) {i j:Nat} (l:j ≠ i):toI (o++[i]) j=toI o j:=by
 by_cases a:j ∈ o
 · unfold toI
   obtain ⟨k,b⟩:∃ k:Nat,findI (fun x=>decide (x=j)) o=(k:Int):=by
    have h1:=toI_lt o j
    have f:¬ toI o j < 0:=fun h=>toI_neg.1 h a
    unfold toI at h1 f
    exact ⟨(findI (fun x=>decide (x=j)) o).toNat,by omega⟩
   obtain ⟨x,c,n,g⟩:=findI_pos b
   rw [b]
   have m:=(List.getElem?_eq_some_iff.1 c).1
   refine findI_at (x:=x) (by rw [List.getElem?_append_left m];exact c) n fun q p y d=>?_
   rw [List.getElem?_append_left (by omega)] at d
   exact g q p y d
 · rw [toI_none a,toI_none]
   rw [List.mem_append,List.mem_singleton]
   rintro (h | h)
   · exact a h
   · exact l h
def useB (G:Gr) (i:Nat):Prop:=(prodN G).getD i false=true∧(reachN G).getD i false=true
def keepB (P Q:List Bool) (r:Rul):Bool:=Q.getD r.left.toNat false && allP true P r.right
def keptR (G:Gr):List Rul:=G.rules.filter (keepB (prodN G) (reachN G))
def oldN (G:Gr):List Nat:=oldOf (keptR G)
def redS (o:List Nat) (s:Int):Int:=if s < 0 then -1 - toI o (nonI s) else s
def redR (o:List Nat) (r:Rul):Rul:=⟨toI o r.left.toNat,r.right.map (redS o),r.prec⟩
def nameO (G:Gr) (i:Nat):ByteArray:=(G.nons[i]?).getD ByteArray.empty
def redG (G:Gr):Gr:=⟨G.terms,(oldN G).map (nameO G),(keptR G).map (redR (oldN G)),toI (oldN G) G.start.toNat⟩
theorem kept_mem {G:Gr} {r:Rul}:r ∈ keptR G ↔ r ∈ G.rules∧(reachN G).getD r.left.toNat false=true∧allP true (prodN G) r.right=true:=by
 unfold keptR keepB
 rw [List.mem_filter,Bool.and_eq_true]
theorem prod_rule {G:Gr} {i:Nat} (g:G.Fits) (h:(prodN G).getD i false=true):∃ r ∈ G.rules,r.left.toNat=i∧allP true (prodN G) r.right=true:=by
 have:=grown_least (b:=true) (G:=G) (fun i=>(prodN G).getD i false=true∧∃ r ∈ G.rules,r.left.toNat=i∧allP true (prodN G) r.right=true) (fun r a c=>?_) h
 · exact this.2
 · have d:allP true (prodN G) r.right=true:=allP_iff.2 fun s f=>⟨(c s f).1,fun h0=>((c s f).2 h0).1⟩
   refine ⟨grown_closed (b:=true) a ?_ d,r,a,rfl,d⟩
   have:=g.left r a
   omega
theorem old_mem {G:Gr} (c:G.Fits) {i:Nat}:i ∈ oldN G ↔ useB G i:=by
 unfold oldN
 rw [oldOf_mem]
 constructor
 · rintro ⟨r,a,rfl⟩
   obtain ⟨h1,d,f⟩:=kept_mem.1 a
   refine ⟨grown_closed (b:=true) h1 ?_ f,d⟩
   have:=c.left r h1
   omega
 · rintro ⟨h,j⟩
   obtain ⟨r,a,rfl,g⟩:=prod_rule c h
   exact ⟨r,kept_mem.2 ⟨a,j,g⟩,rfl⟩
theorem use_lt {G:Gr} {i:Nat} (h:useB G i):i < G.nons.length:=by
 have:=getD_lt h.1
 rwa [prodN_len] at this
theorem kept_left {G:Gr} {r:Rul} (a:r ∈ keptR G):r.left.toNat ∈ oldN G:=oldOf_mem.2 ⟨r,a,rfl⟩
theorem kept_sym {G:Gr} (b:G.Fits) {r:Rul} (f:r ∈ keptR G) {s:Int} (c:s ∈ r.right) (h0:s < 0):nonI s ∈ oldN G:=by
 obtain ⟨h1,d,a⟩:=kept_mem.1 f
 rw [old_mem b]
 exact ⟨(allP_iff.1 a s c).2 h0,reach_closed b h1 d a c h0⟩
theorem old_nodup (G:Gr):(oldN G).Nodup:=oldOf_nodup _
theorem old_len {G:Gr} (a:G.Fits):(oldN G).length≤G.nons.length:=by
 exact nodup_le _ _ (old_nodup G) fun i hi=>use_lt ((old_mem a).1 hi)
theorem redS_neg {o:List Nat} (s:Int) (h:s < 0→nonI s ∈ o):redS o s < 0 ↔ s < 0:=by
 unfold redS
 split
 · rename_i h0
   have:=h h0
   have b:¬ toI o (nonI s) < 0:=fun a=>toI_neg.1 a this
   omega
 · rfl
theorem redS_non {o:List Nat} {s:Int} (h0:s < 0) (h:nonI s ∈ o):(nonI (redS o s):Int)=toI o (nonI s):=by
 have b:¬ toI o (nonI s) < 0:=fun a=>toI_neg.1 a h
 show (((-1 - redS o s).toNat:Nat):Int)=_
 unfold redS
 rw [if_pos h0]
 omega
end Go.Proofs.YtggbjdmpjidhgaaGreatDoor
