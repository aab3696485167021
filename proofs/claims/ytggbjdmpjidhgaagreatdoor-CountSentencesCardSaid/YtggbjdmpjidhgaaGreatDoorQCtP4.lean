/- counts, plainly: a forest symbol by symbol, from the last one on; rules together (no program in sight). -/
import Derived.Test.YtggbjdmpjidhgaaGreatDoorQCyP9
import Derived.Test.YtggbjdmpjidhgaaGreatDoorQCyW2
import Derived.Test.YtggbjdmpjidhgaaGreatDoorQCyW6
import Derived.Test.YtggbjdmpjidhgaaGreatDoorQKit
import Derived.Test.YtggbjdmpjidhgaaGreatDoorQQuiet2
set_option linter.unusedVariables false
set_option linter.unusedSimpArgs false
set_option maxHeartbeats 8000000
set_option maxRecDepth 100000
namespace Go.Proofs.YtggbjdmpjidhgaaGreatDoor
open Go.RowKit
theorem sum_range_succ (f:Nat→Nat) (m:Nat):sumL ((List.range (m+1)).map f)=sumL ((List.range m).map f)+f m:=by
 rw [List.range_succ,List.map_append,sumL_append]
 simp [sumL]
def accF (T:Int→Nat→Nat) (s:Int) (now:Nat→Nat) (K m:Nat):Nat:=sumL ((List.range (min K (m+1))).map fun k=>T s k * now (m - k))
theorem accF_succ (T:Int→Nat→Nat) (s:Int) (now:Nat→Nat) {K m:Nat} (h:K≤m):accF T s now (K+1) m=accF T s now K m+T s K * now (m - K):=by
 unfold accF
 rw [show min (K+1) (m+1)=K+1 by omega,show min K (m+1)=K by omega,sum_range_succ]
theorem accF_past (T:Int→Nat→Nat) (s:Int) (now:Nat→Nat) {K m:Nat} (h:m < K):accF T s now (K+1) m=accF T s now K m:=by
 unfold accF
 rw [show min (K+1) (m+1)=m+1 by omega,show min K (m+1)=m+1 by omega]
theorem accF_all {T:Int→Nat→Nat} {s:Int} {l:List Int} {K m:Nat} (h:m < K):accF T s (forestT T l) K m=forestT T (s::l) m:=by
 unfold accF
 rw [show min K (m+1)=m+1 by omega]
 rfl
theorem accF_zero (T:Int→Nat→Nat) (s:Int) (now:Nat→Nat) (m:Nat):accF T s now 0 m=0:=by simp [accF,sumL]
def rowF (T:Int→Nat→Nat) (s:Int) (now:Nat→Nat) (n K:Nat):List Nat:=(List.range (n+1)).map (accF T s now K)
def midF (T:Int→Nat→Nat) (s:Int) (now:Nat→Nat) (n K M:Nat):List Nat:=(List.range (n+1)).map fun m=>if m < M then accF T s now (K+1) m else accF T s now K m
theorem midF_len (T:Int→Nat→Nat) (s:Int) (now:Nat→Nat) (n K M:Nat):(midF T s now n K M).length=n+1:=by simp [midF]
theorem rowF_zero (T:Int→Nat→Nat) (s:Int) (now:Nat→Nat) (n:Nat):rowF T s now n 0=List.replicate (n+1) 0:=by
 refine List.ext_getElem? fun j=>?_
 rw [List.getElem?_replicate]
 unfold rowF
 rw [List.getElem?_map]
 by_cases hj:j < n+1
 · rw [List.getElem?_range hj,if_pos hj,Option.map_some,accF_zero]
 · rw [List.getElem?_eq_none (by simpa using hj),if_neg hj];rfl
theorem mid_start (T:Int→Nat→Nat) (s:Int) (now:Nat→Nat) (n K:Nat):midF T s now n K K=rowF T s now n K:=by
 unfold midF rowF
 refine List.map_congr_left fun m _=>?_
 split
 · rename_i h;exact accF_past T s now h
 · rfl
theorem mid_end (T:Int→Nat→Nat) (s:Int) (now:Nat→Nat) (n K:Nat):midF T s now n K (n+1)=rowF T s now n (K+1):=by
 unfold midF rowF
 refine List.map_congr_left fun m hm=>?_
 rw [if_pos (List.mem_range.1 hm)]
theorem mid_skip {T:Int→Nat→Nat} {s:Int} (now:Nat→Nat) (n:Nat) {K:Nat} (h:T s K=0):rowF T s now n (K+1)=rowF T s now n K:=by
 unfold rowF
 refine List.map_congr_left fun m _=>?_
 rcases Nat.lt_or_ge m K with hm | hm
 · exact accF_past T s now hm
 · rw [accF_succ T s now hm,h,Nat.zero_mul,Nat.add_zero]
theorem mid_get (T:Int→Nat→Nat) (s:Int) (now:Nat→Nat) {n K M:Nat} (hM:M≤n):(midF T s now n K M).getD M 0=accF T s now K M:=by
 unfold midF
 rw [List.getD_eq_getElem?_getD,List.getElem?_map,List.getElem?_range (by omega),Option.map_some,Option.getD_some,if_neg (by omega)]
theorem mid_set (T:Int→Nat→Nat) (s:Int) (now:Nat→Nat) {n K M:Nat} (hM:M≤n):(midF T s now n K M).set M (accF T s now (K+1) M)=midF T s now n K (M+1):=by
 refine List.ext_getElem? fun j=>?_
 rw [List.getElem?_set,midF_len]
 by_cases hj:j < n+1
 · have e:∀ q,(midF T s now n K q)[j]? = some (if j < q then accF T s now (K+1) j else accF T s now K j):=fun q=>by
    unfold midF
    rw [List.getElem?_map,List.getElem?_range hj]
    rfl
   rw [e,e]
   split
   · rename_i he
     subst he
     rw [if_pos (by omega),if_pos (by omega)]
   · rename_i he
     by_cases h:j < M
     · rw [if_pos h,if_pos (by omega)]
     · rw [if_neg h,if_neg (by omega)]
 · have e:∀ q,(midF T s now n K q)[j]? = none:=fun q=>List.getElem?_eq_none (by rw [midF_len];omega)
   rw [e,e]
   split
   · rename_i he;rw [if_neg (by omega)]
   · rfl
def forR (T:Int→Nat→Nat) (l:List Int) (n:Nat):List Nat:=(List.range (n+1)).map (forestT T l)
theorem forR_len (T:Int→Nat→Nat) (l:List Int) (n:Nat):(forR T l n).length=n+1:=by simp [forR]
theorem forR_get (T:Int→Nat→Nat) (l:List Int) {n m:Nat} (h:m≤n):(forR T l n).getD m 0=forestT T l m:=by
 unfold forR
 rw [List.getD_eq_getElem?_getD,List.getElem?_map,List.getElem?_range (by omega)]
 rfl
theorem forR_nil (T:Int→Nat→Nat) (n:Nat):forR T [] n=(List.replicate (n+1) 0).set 0 1:=by
 refine List.ext_getElem? fun j=>?_
 rw [List.getElem?_set,List.length_replicate,List.getElem?_replicate]
 unfold forR
 rw [List.getElem?_map]
 by_cases hj:j < n+1
 · rw [List.getElem?_range hj,if_pos hj,Option.map_some]
   unfold forestT
   by_cases h0:0=j
   · subst h0;rw [if_pos rfl,if_pos rfl,if_pos hj]
   · rw [if_neg h0,if_neg (fun h=>h0 h.symm)]
 · rw [List.getElem?_eq_none (by simpa using hj),if_neg hj,if_neg (by omega)];rfl
theorem rowF_done (T:Int→Nat→Nat) (s:Int) (l:List Int) (n:Nat):rowF T s (forestT T l) n (n+1)=forR T (s::l) n:=by
 unfold rowF forR
 refine List.map_congr_left fun m hm=>?_
 have:=List.mem_range.1 hm
 exact accF_all (by omega)
theorem rulesT_snoc (T:Int→Nat→Nat) (rs:List Rul) (r:Rul) (i n:Nat):rulesT T (rs++[r]) i n=rulesT T rs i n+(if r.left.toNat=i then forestT T r.right n else 0):=by
 unfold rulesT
 rw [List.filter_append,List.map_append,sumL_append]
 by_cases h:r.left.toNat=i
 · simp [h,sumL]
 · simp [h,sumL]
theorem red_use {G:Gr} (hr:G.right=true) (hp:(prodN G).getD G.start.toNat false=true) {j:Nat} (hj:j < (redG G).nons.length):(useS (redG G)).testBit j=true:=by
 have hG:=Gr.fits hr
 have hH:=Gr.fits (red_right hr hp)
 rw [red_nons] at hj
 have hk:=List.getElem?_eq_getElem hj
 have hi:=List.mem_of_getElem? hk
 have hs:=sig_get hk
 rw [← hs]
 exact (useS_bit _ hH _).2 ⟨red_prod hG hH hi,red_reach hG hH hp hi⟩
theorem reduced_plain {G:Gr} (hr:G.right=true) (hp:(prodN G).getD G.start.toNat false=true) (hi:redG G=G) (hC:cycG G=0):Plain G∧endG G=false∧Ordered G (orderS (stepsN G) (useS G) G.nons.length G.nons.length).1:=by
 have hU:∀ i,i < G.nons.length→(useS G).testBit i=true:=fun i h=>by
  have:=red_use hr hp (j:=i) (by rw [hi];exact h)
  rwa [hi] at this
 obtain ⟨h1,h2⟩:=plain_of hr hU hC
 exact ⟨h1,h2,order_serves hr hU h2⟩
theorem low_zero {N:List Bool} {l:List Int} (h:lowN N l=0):∀ s ∈ l,nulB N s=true:=by
 intro s hs
 unfold lowN at h
 rw [List.countP_eq_zero] at h
 have:=h s hs
 simpa using this
theorem rule_down {G:Gr} (hP:Plain G) {r:Rul} (hr:r ∈ G.rules) {dot:Nat} {q:Int} (hq:r.right[dot]? = some q) (hq0:q < 0) {n m k:Nat} (hm:m≤n)
 (hb:m=n→∀ (p:Nat) s,p < dot→r.right[p]? = some s→nulB (nullN G) s=true) (hk:k+lowN (nullN G) (r.right.drop (dot+1))≤m) {s:Int} (hs:nonI s=r.left.toNat):mu G k q < mu G n s:=by
 have h1:=close_small G (nonI q)
 have hl:=hP.fits.left r hr
 unfold mu
 rcases Nat.lt_or_ge k n with h | h
 · omega
 · obtain rfl:k=n:=by omega
   obtain rfl:m=k:=by omega
   have hz:lowN (nullN G) (r.right.drop (dot+1))=0:=by omega
   have hst:=alone_step hP hr hq hq0 fun p s' hp hs'=>by
    rcases Nat.lt_or_ge p dot with h2 | h2
    · exact hb rfl p s' h2 hs'
    · refine low_zero hz s' (List.mem_of_getElem? (i:=p - (dot+1)) ?_)
      rw [List.getElem?_drop,show dot+1+(p - (dot+1))=p by omega]
      exact hs'
   have:=step_down hP (i:=r.left.toNat) (by omega) hst
   rw [hs]
   omega
theorem rule_next {G:Gr} (hP:Plain G) {r:Rul} {dot:Nat} {q:Int} (hq:r.right[dot]? = some q) {n m k:Nat} (hm:m≤n) (hk:k≤m)
 (hb:m=n→∀ (p:Nat) s,p < dot→r.right[p]? = some s→nulB (nullN G) s=true) (hx:treeN G q k ≠ 0):m - k=n→∀ (p:Nat) s,p < dot+1→r.right[p]? = some s→nulB (nullN G) s=true:=by
 intro he p s hp hs
 rcases (by omega:p < dot∨p=dot) with h | rfl
 · exact hb (by omega) p s h hs
 · rw [hq] at hs
   obtain rfl:=Option.some.inj hs
   obtain rfl:k=0:=by omega
   exact treeN_null hP hx
def splitN (T:Int→Nat→Nat) (s:Int) (l:List Int) (n lo d:Nat):Nat:=sumL ((List.range d).map fun e=>T s (lo+e) * forestT T l (n - (lo+e)))
theorem splitN_succ (T:Int→Nat→Nat) (s:Int) (l:List Int) (n lo d:Nat):splitN T s l n lo (d+1)=splitN T s l n lo d+T s (lo+d) * forestT T l (n - (lo+d)):=by
 unfold splitN
 rw [sum_range_succ (fun e=>T s (lo+e) * forestT T l (n - (lo+e)))]
theorem splitN_all {N:List Bool} {T:Int→Nat→Nat} (hT:∀ s,T s 0 ≠ 0→nulB N s=true) (s:Int) (l:List Int) (n:Nat):splitN T s l n (lowN N [s]) (n+1 - lowN N l - lowN N [s])=forestT T (s::l) n:=(forest_split hT s l n).symm
theorem nodup_len {α:Type} [BEq α] [LawfulBEq α]:∀ {l m:List α},l.Nodup→(∀ x ∈ l,x ∈ m)→l.length≤m.length
 | [],_,_,_=>Nat.zero_le _
 | x::l,m,h,hs=>by
   rw [List.nodup_cons] at h
   have hx:x ∈ m:=hs x (by simp)
   have:=nodup_len (l:=l) (m:=m.erase x) h.2 fun y hy=>by
    have hne:y ≠ x:=fun e=>h.1 (e ▸ hy)
    exact (List.mem_erase_of_ne hne).2 (hs y (by simp [hy]))
   rw [List.length_erase_of_mem hx] at this
   have:0 < m.length:=List.length_pos_of_mem hx
   rw [List.length_cons]
   omega
def cutT (tab:Nat→Nat→Nat) (ord:List Nat) (m p:Nat):Nat→Nat→Nat:=fun k i=>if k < m then tab k i else if k=m∧(ord.take p).contains i=true then tab k i else 0
def chkT (G:Gr) (ord:List Nat) (tab:Nat→Nat→Nat) (n:Nat):Bool :=
 (List.range (n+1)).all fun m=>(List.range ord.length).all fun p=>Nat.beq (rulesT (tabT (cutT tab ord m p)) G.rules (ord.getD p 0) m) (tab m (ord.getD p 0))
def chkO (G:Gr) (ord:List Nat):Bool :=
 (List.range G.nons.length).all (fun i=>ord.contains i) && ord.all (fun i=>decide (i < G.nons.length)) &&
   (List.range ord.length).all fun p=>(List.range G.nons.length).all fun t=>!((stepsN G).getD (ord.getD p 0) 0).testBit t || (ord.take p).contains t
theorem chkO_ordered {G:Gr} (hG:G.Fits) {ord:List Nat} (h:chkO G ord=true):Ordered G ord:=by
 unfold chkO at h
 simp only [Bool.and_eq_true,List.all_eq_true,List.mem_range,decide_eq_true_eq,List.contains_iff_mem,Bool.or_eq_true,Bool.not_eq_true'] at h
 obtain ⟨⟨h1,h2⟩,h3⟩:=h
 refine ⟨h2,fun p i hi t ht=>?_,fun i hi=>h1 i hi⟩
 have hp:p < ord.length:=(List.getElem?_eq_some_iff.1 hi).1
 have e:ord.getD p 0=i:=by rw [List.getD_eq_getElem?_getD,hi];rfl
 have htl:=stepsN_in G hG i t ht
 rw [stepsN_len] at htl
 rcases h3 p hp t htl with h | h
 · rw [e,ht] at h;cases h
 · exact h
theorem cut_zero (tab:Nat→Nat→Nat) (ord:List Nat):cutT tab ord 0 0=fun _ _=>0:=by
 funext k i
 unfold cutT
 rw [if_neg (by omega),if_neg]
 rintro ⟨_,h⟩
 simp at h
theorem chk_told {G:Gr} (hP:Plain G) {ord:List Nat} (hO:Ordered G ord) {tab:Nat→Nat→Nat} {n:Nat} (h:chkT G ord tab n=true):∀ k,k≤n→∀ i,i < G.nons.length→tab k i=treeN G (-1 - (i:Int)) k:=by
 unfold chkT at h
 simp only [List.all_eq_true,List.mem_range] at h
 have row:∀ m,m≤n→Told G ord (cutT tab ord m 0) m 0→∀ p,p≤ord.length→Told G ord (cutT tab ord m p) m p:=by
  intro m hm h0 p
  induction p with
  | zero=>intro _;exact h0
  | succ p ih =>
    intro hp
    have ht:=ih (by omega)
    have hi:ord[p]? = some (ord[p]'(by omega)):=List.getElem?_eq_getElem (by omega)
    have e:ord.getD p 0=ord[p]'(by omega):=by rw [List.getD_eq_getElem?_getD,hi];rfl
    have hc:=Nat.eq_of_beq_eq_true (h m (by omega) p (by omega))
    rw [e,ht.next hP hO hi] at hc
    have hput:=ht.put hi (tab m (ord[p]'(by omega))) hc.symm
    have ef:putTab (cutT tab ord m p) m (ord[p]'(by omega)) (tab m (ord[p]'(by omega)))=cutT tab ord m (p+1):=by
     funext k j
     unfold putTab cutT
     have htk:ord.take (p+1)=ord.take p++[ord[p]'(by omega)]:=by rw [List.take_add_one,hi];rfl
     by_cases hk:k < m
     · rw [if_neg (by omega),if_pos hk,if_pos hk]
     · rw [if_neg hk,if_neg hk]
       by_cases hkm:k=m
       · subst hkm
         by_cases hj:j=ord[p]'(by omega)
         · subst hj
           rw [if_pos ⟨rfl,rfl⟩,if_pos ⟨rfl,by rw [List.contains_iff_mem,htk];exact List.mem_append_right _ (List.mem_singleton.2 rfl)⟩]
         · rw [if_neg fun hh=>hj hh.2]
           by_cases hin:(ord.take p).contains j=true
           · rw [if_pos ⟨rfl,hin⟩,if_pos ⟨rfl,by rw [List.contains_iff_mem] at hin ⊢;rw [htk];exact List.mem_append_left _ hin⟩]
           · rw [if_neg fun hh=>hin hh.2,if_neg fun hh=>hin ?_]
             have:=hh.2
             rw [List.contains_iff_mem,htk,List.mem_append,List.mem_singleton] at this
             rw [List.contains_iff_mem]
             exact this.resolve_right hj
       · rw [if_neg fun hh=>hkm hh.1,if_neg fun hh=>hkm hh.1,if_neg fun hh=>hkm hh.1]
    rw [ef] at hput
    exact hput
 have all:∀ m,m≤n→Told G ord (cutT tab ord m 0) m 0:=by
  intro m
  induction m with
  | zero=>intro _;rw [cut_zero];exact Told.start G ord
  | succ m ih =>
    intro hm
    have h1:=row m (by omega) (ih (by omega)) ord.length (Nat.le_refl _)
    refine ⟨fun k hk i hi=>?_,fun i hi=>by simp at hi,fun i _=>?_⟩
    · rcases (by omega:k < m∨k=m) with hkm | rfl
      · have:=h1.low k hkm i hi
        unfold cutT at this ⊢
        rw [if_pos hkm] at this
        rw [if_pos (by omega)]
        exact this
      · have:=h1.now i (by rw [List.take_length];exact hO.all i hi)
        unfold cutT at this ⊢
        rw [if_neg (by omega),if_pos ⟨rfl,by simpa using hO.all i hi⟩] at this
        rw [if_pos (by omega)]
        exact this
    · unfold cutT
      rw [if_neg (by omega),if_neg]
      rintro ⟨_,h⟩
      simp at h
 intro k hk i hi
 have h1:=row k hk (all k hk) ord.length (Nat.le_refl _)
 have:=h1.now i (by rw [List.take_length];exact hO.all i hi)
 unfold cutT at this
 rw [if_neg (by omega),if_pos ⟨rfl,by simpa using hO.all i hi⟩] at this
 exact this
def ordG (G:Gr):List Nat × Int:=if G.right then (if endG G then ([],10) else ((orderS (stepsN G) (useS G) G.nons.length G.nons.length).1,0)) else ([],1)
def RetOrd (G:Gr) (w:World) (e:Ending) (w':World):Prop:=Below w.heap.size w w'∧∃ A c,e = .returned (.tuple #[.slice A (ordG G).1.length c, .int .i64 (ordG G).2])∧Ints .i64 w' A (ordG G).1.length c (intsOf (ordG G).1)
theorem RetOrd.fail {G:Gr} {w w':World} {er:Int} (h:ordG G=([],er)) (hb:Below w.heap.size w w'):RetOrd G w (.returned (.tuple #[.slice none 0 0, .int .i64 er])) w':=by
 unfold RetOrd
 rw [h]
 exact ⟨hb,none,0,rfl,own_sl (World.ownsRow_nil _ 0 3 1)⟩
theorem RetOrd.good {G:Gr} {w w':World} {l:List Nat} (h:ordG G=(l,0)) (hb:Below w.heap.size w w') {A:Option Addr} {c B:Nat} (ho:w'.ownsRow B 3 1 (.slice A l.length c) l.length (ints .i64 (intsOf l))):RetOrd G w (.returned (.tuple #[.slice A l.length c, .int .i64 0])) w':=by
 unfold RetOrd
 rw [h]
 exact ⟨hb,A,c,rfl,own_sl ho⟩
theorem useS_lt (G:Gr):useS G < 4294967296:=setB_lt _ _
theorem beq0_cast (z:Nat):((z:Int) == 0)=(z == 0):=by
 rw [Bool.eq_iff_iff,beq_iff_eq,beq_iff_eq]
 omega
theorem rf_Order (h:GH) (G:Gr) (w:World) (hg:GrAt w h G) (h1:h.n1≤100) (h2:h.n2≤100) (h3:h.n3≤100) :
 Calls Tryz.prog 96 #[GV h G.start] w (RetOrd G w):=by
 obtain ⟨a1,n1,c1,a2,n2,c2,a3,n3,c3⟩:=h
 have e2:G.nons.length=n2:=hg.nons.len
 have k2:=hg.nons.cap
 simp only [] at h1 h2 h3 k2
 have Hg:=LH hg
 have hB0:=alloc_below w (.cells #[.slice a1 n1 c1, .slice a2 n2 c2, .slice a3 n3 c3, .int .i64 G.start] 26)
 have hbox:=GBox.new w 26 ⟨a1,n1,c1,a2,n2,c2,a3,n3,c3⟩ G.start
 clear hg
 go_enter Tryz.func96,Tryz.ntmps96
 have ⟨z5,z0,z1,z2,z3⟩:=hbox
 simp only [] at z0 z1 z2 z3
 go_wp2_with fail
 generalize w.alloc (.cells #[.slice a1 n1 c1, .slice a2 n2 c2, .slice a3 n3 c3, .int .i64 G.start] 26)=W0 at *
 (with_reducible refine (rf_right9 ⟨a1,n1,c1,a2,n2,c2,a3,n3,c3⟩ G W0 (Hg.out.below hB0) (by simp only [];omega) (by simp only [];omega) (by simp only [];omega)).mono ?_)
 rintro e Wr ⟨rfl,hb1⟩
 have hB1:=below_tail hB0 hb1
 have hbx1:=hbox.below hb1
 clear z0 z1 z2 z3 z5 hbox
 have ⟨y5,y0,y1,y2,y3⟩:=hbx1
 simp only [] at y0 y1 y2 y3
 rcases hrt:G.right with _ | _
 · go_wp2_with fail
   go_ret2
   exact RetOrd.fail (by unfold ordG;rw [hrt];rfl) hB1
 have Hrt:=LH hrt
 have HB1:=LH hB1
 have cE:=rf_Endless ⟨a1,n1,c1,a2,n2,c2,a3,n3,c3⟩ G Wr (Hg.out.below hB1) (by simp only [];omega) (by simp only [];omega) (by simp only [];omega)
 have Hord:Hid (ordG G=if endG G then ([],10) else ((orderS (stepsN G) (useS G) G.nons.length G.nons.length).1,0)):=LH (by unfold ordG;rw [hrt];rfl)
 have CE:=LH cE
 clear hrt hB0 hb1 hB1 cE
 go_wp2_with fail
 (with_reducible refine CE.out.mono ?_)
 rintro e W1 ⟨hb1,rfl⟩
 have HB2:=LH (below_tail HB1.out hb1)
 have hbx2:=hbx1.below hb1
 clear hb1 hbx1 y0 y1 y2 y3 y5 CE
 have ⟨y5,y0,y1,y2,y3⟩:=hbx2
 simp only [] at y0 y1 y2 y3
 rcases hend:endG G with _ | _
 case true =>
  have Hf:Hid (ordG G=([],10)):=LH (by rw [Hord.out,hend];rfl)
  clear hend
  go_wp2_with fail
  go_ret2
  exact RetOrd.fail Hf.out HB2.out
 have Hf:Hid (ordG G=((orderS (stepsN G) (useS G) n2 n2).1,0)):=LH (by rw [Hord.out,hend,e2];rfl)
 have hu:useG G=useS G:=by unfold useG;rw [Hrt.out];rfl
 have CN:=LH fun X (hb:Below W1.heap.size W1 X)=>(rf_Steps ⟨a1,n1,c1,a2,n2,c2,a3,n3,c3⟩ G X ((Hg.out.below HB2.out).below hb) (by simp only [];omega) (by simp only [];omega) (by simp only [];omega)).mono fun e w' hh=>And.intro (below_tail hb hh.1) (And.intro (LH hh.1) (hh.2.resolve_left fun hc=>by rw [Hrt.out] at hc;cases hc.1).2)
 have CP:=LH fun X (hb:Below W1.heap.size W1 X)=>(rf_useful ⟨a1,n1,c1,a2,n2,c2,a3,n3,c3⟩ G X ((Hg.out.below HB2.out).below hb) (by simp only [];omega) (by simp only [];omega) (by simp only [];omega)).mono fun e w' hh=>And.intro (below_tail hb hh.1) (And.intro (LH hh.1) hh.2)
 rw [hu] at CP
 have HS:Hid (∀ W',Below W1.heap.size W1 W'→W'.cell? ⟨w.heap.size,0,none⟩=some (.slice a1 n1 c1)∧W'.cell? ⟨w.heap.size,1,none⟩=some (.slice a2 n2 c2)∧W'.cell? ⟨w.heap.size,2,none⟩=some (.slice a3 n3 c3)∧W'.cell? ⟨w.heap.size,3,none⟩=some (.int .i64 G.start)∧Below W1.heap.size W1 W'):=LH fun W' hb=>⟨by rw [hb.cell (by exact y5)];exact y0,by rw [hb.cell (by exact y5)];exact y1,by rw [hb.cell (by exact y5)];exact y2,by rw [hb.cell (by exact y5)];exact y3,hb⟩
 clear hend hu
 go_upto_region 5 with fail
 go_region_held3 (fun W'=>W'.cell? ⟨w.heap.size,0,none⟩=some (.slice a1 n1 c1)∧W'.cell? ⟨w.heap.size,1,none⟩=some (.slice a2 n2 c2)∧W'.cell? ⟨w.heap.size,2,none⟩=some (.slice a3 n3 c3)∧W'.cell? ⟨w.heap.size,3,none⟩=some (.int .i64 G.start)∧Below W1.heap.size W1 W')
  ((refine HS.out _ ?_;(repeat (first | assumption | exact Below.refl _ _ | refine Below.drew ?_ | refine below_alloc ?_ _ | refine below_set ?_ _ _ _ (by (first | exact Nat.le_refl _ | exact Nat.le_succ _ | exact Below.size (by assumption) | exact Nat.le_succ_of_le (Below.size (by assumption)) | (simp;done) | omega))));done))
  (first
    | (go_at_call 61;refine (CN.out _ (by (repeat (first | assumption | exact Below.refl _ _ | refine Below.drew ?_ | refine below_alloc ?_ _ | refine below_set ?_ _ _ _ (by (first | exact Nat.le_refl _ | exact Nat.le_succ _ | exact Below.size (by assumption) | exact Nat.le_succ_of_le (Below.size (by assumption)) | (simp;done) | omega)))))).mono ?_;rintro e w2 ⟨hB2,Hb2,gS,hgS,rfl,HTN⟩)
    | (go_at_call 67;refine (CP.out _ (by (repeat (first | assumption | exact Below.refl _ _ | refine Below.drew ?_ | refine below_alloc ?_ _ | refine below_set ?_ _ _ _ (by (first | exact Nat.le_refl _ | exact Nat.le_succ _ | exact Below.size (by assumption) | exact Nat.le_succ_of_le (Below.size (by assumption)) | (simp;done) | omega)))))).mono ?_;rintro e w3 ⟨hB3,Hb3,rfl⟩))
 have HT3:Hid (SetT w3 gS (stepsN G)):=LH (Blk.hidden HTN Hb3)
 have HB3:=LH (below_tail HB2.out hB3)
 have Hbx3:=LH (hbx2.below hB3)
 have hsl:(stepsN G).length=n2:=by rw [stepsN_len];exact e2
 have hss:=stepsN_small G
 have huu:=useS_lt G
 generalize stepsN G=S at *
 generalize useS G=use at *
 have Hsl:=LH hsl
 have Hss:=LH hss
 have Huu:=LH huu
 clear hB2 Hb2 hgS HTN Hb3 hB3 CN CP HS y0 y1 y2 y3 y5 hbx2 hsl hss huu
 go_wp2_with fail
 go_loopw [6,7,8] (fun o s i wr=>∃ (q:Nat) (A:Option Addr) (cp:Nat),q≤n2∧i = .int .i64 (q:Int)∧o = .slice A (orderS S use n2 q).1.length cp∧s = .int .u32 (((orderS S use n2 q).2:Nat):Int) ∧
  wr.ownsRow w3.heap.size 3 1 (.slice A (orderS S use n2 q).1.length cp) (orderS S use n2 q).1.length (ints .i64 (intsOf (orderS S use n2 q).1))∧Hid ((orderS S use n2 q).1.length≤q)∧Below w3.heap.size w3 wr) (fun o s i _=>n2 - (intOf i).toNat)
 case atStart=>exact ⟨0,none,0,Nat.zero_le _,rfl,rfl,rfl,World.ownsRow_nil _ _ _ _,LH (Nat.le_refl _),Below.refl _ _⟩
 case round =>
  obtain ⟨q,A,cp,hq,rfl,rfl,rfl,hown,Hlq,hbel⟩:=hrel
  have hbs:=hbel.size
  have hbx:=Hbx3.out.below hbel
  have ⟨y5,y0,y1,y2,y3⟩:=hbx
  simp only [] at y0 y1 y2 y3
  have hsucc:=orderS_succ S use n2 q
  have hinv:=orderS_inv S n2 Huu.out q
  by_cases hqq:q < n2
  case neg =>
   obtain rfl:q=n2:=by omega
   have Hown:=LH hown
   have Hbel:=LH hbel
   clear hsucc hinv hbx hown hbel
   go_wp2_with fail
   go_ret2
   exact RetOrd.good Hf.out (below_tail HB3.out Hbel.out) Hown.out
  case pos =>
   have hth:=hinv.lt
   have Hth:=LH hth
   have hlen:=Hlq.out
   clear hinv hth hbx Hlq
   have hF:∀ i,findB (pickB S use (orderS S use n2 q).2) n2=some i→orderS S use n2 (q+1)=((orderS S use n2 q).1++[i],(orderS S use n2 q).2 ||| bitN (i:Int)):=fun i hi=>by rw [hsucc];exact stepO_some hi
   have hN:findB (pickB S use (orderS S use n2 q).2) n2=none→orderS S use n2 (q+1)=orderS S use n2 q:=fun hi=>by rw [hsucc];exact stepO_none hi
   clear hsucc
   generalize hst1:orderS S use n2 (q+1)=st1 at *
   have Hst1:=LH hst1
   clear hst1
   generalize orderS S use n2 q=st at *
   obtain ⟨l,there⟩:=st
   simp only [] at hF hN hown hlen Hth
   have HF:=LH hF
   have HN:=LH hN
   clear hF hN
   have Hown:=LH hown
   have Hbel:=LH hbel
   clear hown hbel
   simp only []
   go_wp2_with fail
   go_loop [6,7,9] (fun o s i=>o = .slice A l.length cp∧s = .int .u32 (there:Int)∧∃ j:Nat,j≤n2∧i = .int .i64 (j:Int)∧Hid (∀ j',j' < j→pickB S use there j'=false)) (fun o s i=>n2 - (intOf i).toNat)
   case atStart=>exact ⟨rfl,rfl,0,Nat.zero_le _,rfl,LH fun j h=>by omega⟩
   case round =>
    obtain ⟨rfl,rfl,j,hj,rfl,Hj⟩:=hrel
    by_cases hjj:j < n2
    case neg =>
     obtain rfl:j=n2:=by omega
     have hst:=HN.out (findB_none Hj.out)
     subst hst
     go_wp2_with fail
     go_roundw
     case rel =>
      refine ⟨q+1,A,cp,by omega,by go_num,?_⟩
      rw [Hst1.out]
      exact ⟨rfl,rfl,Hown.out,LH (Nat.le_succ_of_le hlen),Hbel.out⟩
     case measure=>simp [intOf];omega
    case pos =>
     have HTw:Hid (SetT wr gS S):=LH (Blk.ext HT3.out Hbel.out)
     have hat:=HTw.out.at (i:=j) (by rw [Hsl.out];exact hjj)
     have c1H:=ref_hasN use j wr Huu.out
     have c2H:=ref_hasN there j wr Hth.out
     have hv:=Hss.out.get j
     have han:=andn32 (S.getD j 0) there hv Hth.out
     have hz:=beq0_cast (andN (S.getD j 0) there)
     have hp:pickB S use there j=(use.testBit j && !there.testBit j && (andN (S.getD j 0) there == 0)):=rfl
     have hor:=or32 there (bitN (j:Int)) Hth.out (bitN_lt _)
     have cB:=fun X=>ref_bit (j:Int) X
     generalize andN (S.getD j 0) there=z at *
     generalize S.getD j 0=v at *
     generalize use.testBit j=b1 at *
     generalize there.testBit j=b2 at *
     generalize (z == 0)=b3 at *
     have Hp:=LH hp
     have C1:=LH c1H
     have C2:=LH c2H
     have CB:=LH cB
     clear c1H c2H cB hp hv
     have hno:pickB S use there j=false→Hid (∀ j',j' < j+1→pickB S use there j'=false):=fun hf=>LH fun j' hj'=>by
      rcases Nat.lt_or_ge j' j with h | h
      · exact Hj.out j' h
      · rw [show j'=j by omega];exact hf
     have Hno:=LH hno
     clear hno
     rcases (by cases b1 <;> cases b2 <;> cases b3 <;> simp:b1=false∨(b1=true∧b2=true)∨(b1=true∧b2=false∧b3=false)∨(b1=true∧b2=false∧b3=true)) with rfl | ⟨rfl,rfl⟩ | ⟨rfl,rfl,rfl⟩ | ⟨rfl,rfl,rfl⟩
     case inr.inr.inr =>
      have hst:=HF.out j (findB_some hjj (by rw [Hp.out];rfl) Hj.out)
      subst hst
      have hown:=Hown.out
      have hbw:=Hbel.out.size
      have hll:(l++[j]).length=l.length+1:=by simp
      have hli:ints .i64 (intsOf (l++[j]))=ints .i64 (intsOf l)++[.int .i64 (j:Int)]:=by simp [ints,intsOf]
      have Hll:=LH hll
      have Hli:=LH hli
      clear hll hli
      go_wp2_with (first
       | (go_at_call 62;(first | (with_reducible refine C1.out.mono ?_) | (with_reducible refine C2.out.mono ?_));rintro e w' ⟨rfl,rfl⟩)
       | (go_at_call 63;(with_reducible refine (CB.out _).mono ?_);rintro e w' ⟨rfl,rfl⟩)
       | (at_builtin;refine wpl_append1 (w:=wr) rfl _ _ 27 rfl w3.heap.size 3 (.int .i64 0) 8 Tryz.underlying27 Tryz.infoInt rfl _ l.length _ _ rfl hown (.int .i64 ((j:Int))) rfl rfl (by omega) (by omega) (by omega) ?_;intro A4 c4 w2 ho hg))
      go_roundw
      case rel =>
       refine ⟨q+1,A4,c4,by omega,by go_num,?_⟩
       rw [Hst1.out]
       refine ⟨?_,rfl,?_,LH (by show (l++[j]).length≤q+1;rw [Hll.out];omega),below_append Hbel.out hg hown hbw⟩
       · show _=Value.slice A4 (l++[j]).length c4
         rw [Hll.out]
       · show w2.ownsRow w3.heap.size 3 1 (.slice A4 (l++[j]).length c4) (l++[j]).length (ints .i64 (intsOf (l++[j])))
         rw [Hll.out,Hli.out]
         exact ho
      case measure=>simp [intOf];omega
     all_goals
      have hf:=Hno.out (by rw [Hp.out];rfl)
      go_wp2_with (go_at_call 62;(first | (with_reducible refine C1.out.mono ?_) | (with_reducible refine C2.out.mono ?_));rintro e w' ⟨rfl,rfl⟩)
      go_round
      case rel=>exact ⟨rfl,rfl,j+1,by omega,by go_num,hf⟩
      case measure=>simp [intOf];omega
section
variable {P:Program}
def InvSteps (P:Program) (ops:Array Oper) (Q:Exit→Act→World→Prop) (J:Array Bool→Act→World→Prop):Nat→List Oper→Prop
 | _,[]=>True
 | i,o::rest=>(∀ (listed:Array Bool) (a:Act) (w:World),J listed a w→listed.getD i true=false→(∀ e ∈ o.after,Region.binds .any e=true→listed.getD e.on false=true) →
    ∀ K:Act→World→Prop,(∀ a' w',J (listed.setIfInBounds i true) a' w'→K a' w')→if Region.wanted o (yielded ops a.tmps) then o.wp P a w K Q else K (a.put o.dst undef) w)∧InvSteps P ops Q J (i+1) rest
theorem InvSteps.nil {ops:Array Oper} {Q:Exit→Act→World→Prop} {J:Array Bool→Act→World→Prop} {i:Nat}:InvSteps P ops Q J i []:=trivial
theorem InvSteps.cons {ops:Array Oper} {Q:Exit→Act→World→Prop} {J:Array Bool→Act→World→Prop} {i:Nat} {o:Oper} {rest:List Oper}
 (h:∀ (listed:Array Bool) (a:Act) (w:World),J listed a w→listed.getD i true=false→(∀ e ∈ o.after,Region.binds .any e=true→listed.getD e.on false=true) →
   ∀ K:Act→World→Prop,(∀ a' w',J (listed.setIfInBounds i true) a' w'→K a' w')→if Region.wanted o (yielded ops a.tmps) then o.wp P a w K Q else K (a.put o.dst undef) w)
 (t:InvSteps P ops Q J (i+1) rest):InvSteps P ops Q J i (o::rest):=⟨h,t⟩
theorem InvSteps.at {ops:Array Oper} {Q:Exit→Act→World→Prop} {J:Array Bool→Act→World→Prop}:∀ {l:List Oper} {i k:Nat} {o:Oper},InvSteps P ops Q J i l→l[k]? = some o →
 (∀ (listed:Array Bool) (a:Act) (w:World),J listed a w→listed.getD (i+k) true=false→(∀ e ∈ o.after,Region.binds .any e=true→listed.getD e.on false=true) →
   ∀ K:Act→World→Prop,(∀ a' w',J (listed.setIfInBounds (i+k) true) a' w'→K a' w')→if Region.wanted o (yielded ops a.tmps) then o.wp P a w K Q else K (a.put o.dst undef) w)
 | [],i,k,o,_,hk=>by simp at hk
 | q::l,i,0,o,h,hk=>by
   have e:q=o:=by simpa using hk
   subst e
   exact h.1
 | q::l,i,k+1,o,h,hk=>by
   have:=InvSteps.at h.2 (by simpa using hk:l[k]? = some o)
   rw [show i+(k+1)=i+1+k by omega]
   exact this
def backB (ops:Array Oper):Bool:=(List.range ops.size).all fun i=>((ops[i]?).map fun o=>o.after.all fun e=>decide (e.on < i)).getD true
def leftN (n:Nat) (listed:Array Bool):Nat:=((List.range n).filter fun i=>!listed.getD i true).length
theorem left_less {n i:Nat} {listed:Array Bool} (hi:i < n) (hu:listed.getD i true=false):leftN n (listed.setIfInBounds i true) < leftN n listed:=by
 unfold leftN
 have hlt:i < listed.size:=by
  rcases Nat.lt_or_ge i listed.size with h | h
  · exact h
  · simp [Array.getD,Nat.not_lt.2 h] at hu
 have e:((List.range n).filter fun j=>!(listed.setIfInBounds i true).getD j true)=(((List.range n).filter fun j=>!listed.getD j true).filter fun j=>decide (j ≠ i)):=by
  rw [List.filter_filter]
  apply List.filter_congr
  intro j _
  by_cases hij:i=j
  · subst hij
    simp [Array.getD,hlt]
  · rw [getD_set_ne true hij]
    simp [Ne.symm hij]
 rw [e,List.length_filter_lt_length_iff_exists]
 exact ⟨i,List.mem_filter.2 ⟨List.mem_range.2 hi,by simp [hu]⟩,by simp⟩
theorem ready_none {ops:Array Oper} {listed:Array Bool} (hb:backB ops=true) (h:Region.ready .any ops listed=[]):∀ i,i < ops.size→listed.getD i true=true:=by
 intro i
 induction i using Nat.strongRecOn with
 | ind i ih =>
   intro hi
   cases hu:listed.getD i true with
   | true=>rfl
   | false =>
     exfalso
     have hm:i ∈ Region.ready .any ops listed:=by
      refine mem_ready.2 ⟨hu,ops[i],Array.getElem?_eq_getElem hi,fun e he _=>?_⟩
      have h1:=List.all_eq_true.1 hb i (List.mem_range.2 hi)
      rw [Array.getElem?_eq_getElem hi,Option.map_some,Option.getD_some,Array.all_eq_true_iff_forall_mem] at h1
      have h2:=of_decide_eq_true (h1 e he)
      have h3:=ih e.on h2 (by omega)
      have hlt:i < listed.size:=by
       rcases Nat.lt_or_ge i listed.size with h | h
       · exact h
       · simp [Array.getD,Nat.not_lt.2 h] at hu
      have hl:e.on < listed.size:=by omega
      simpa [Array.getD,hl] using h3
     rw [h] at hm
     cases hm
theorem any_of_inv {ops:Array Oper} {Q:Exit→Act→World→Prop} {J:Array Bool→Act→World→Prop} (hb:backB ops=true)
 (hs:∀ i o,ops[i]? = some o→∀ (listed:Array Bool) (a:Act) (w:World),J listed a w→listed.getD i true=false→(∀ e ∈ o.after,Region.binds .any e=true→listed.getD e.on false=true) →
   ∀ K:Act→World→Prop,(∀ a' w',J (listed.setIfInBounds i true) a' w'→K a' w')→if Region.wanted o (yielded ops a.tmps) then o.wp P a w K Q else K (a.put o.dst undef) w)
 (he:∀ (listed:Array Bool) (a:Act) (w:World),J listed a w→(∀ i,i < ops.size→listed.getD i true=true)→Q .normal a w) :
 ∀ (fuel:Nat) (listed:Array Bool) (a:Act) (w:World),leftN ops.size listed≤fuel→J listed a w→wpAny P .any ops Q fuel listed a w
 | 0,listed,a,w,hl,hJ=>by
   have hr:Region.ready .any ops listed=[]:=by
    rw [List.eq_nil_iff_forall_not_mem]
    intro i hi
    obtain ⟨hu,o,ho,_⟩:=mem_ready.1 hi
    have:=left_less (n:=ops.size) (Array.getElem?_eq_some_iff.1 ho).1 hu
    omega
   exact ⟨hr,he listed a w hJ (ready_none hb hr)⟩
 | fuel+1,listed,a,w,hl,hJ=>by
   refine ⟨fun hr=>he listed a w hJ (ready_none hb hr),fun i hi=>?_⟩
   obtain ⟨hu,o,ho,hpre⟩:=mem_ready.1 hi
   have hlt:=left_less (n:=ops.size) (Array.getElem?_eq_some_iff.1 ho).1 hu
   have h1:=hs i o ho listed a w hJ hu hpre (wpAny P .any ops Q fuel (listed.setIfInBounds i true)) (fun a' w' h=>any_of_inv hb hs he fuel _ a' w' (by omega) h)
   unfold wpOp
   simp only [ho]
   split
   · rename_i hw
     rw [if_pos hw] at h1
     exact .inl h1
   · rename_i hw
     rw [if_neg hw] at h1
     exact h1
theorem wp_region_inv {id:Nat} {Q:Exit→Act→World→Prop} {a:Act} {w:World} {l:List Oper} (J:Array Bool→Act→World→Prop) (hm:P.follows .mixedOrders=true) (hb:backB l.toArray=true)
 (h0:J (Array.replicate l.length false) a w.drew) (hs:InvSteps P l.toArray Q J 0 l)
 (he:∀ (listed:Array Bool) (a:Act) (w:World),J listed a w→(∀ i,i < l.length→listed.getD i true=true)→Q .normal a w):(Code.region id l.toArray true).wp P Q a w:=by
 refine wp_region_any hm ?_
 refine any_of_inv hb (fun i o ho listed a w hJ hu hpre K hK=>?_) (fun listed a w hJ h=>he listed a w hJ fun i hi=>h i (by simpa using hi)) _ _ _ _ ?_ (by simpa using h0)
 · have:=InvSteps.at (k:=i) hs (by simpa using ho) listed a w hJ (by rw [Nat.zero_add];exact hu) hpre K (fun a' w' h=>hK a' w' (by rw [Nat.zero_add] at h;exact h))
   exact this
 · exact Nat.le_trans (List.length_filter_le _ _) (by simp)
end
end Go.Proofs.YtggbjdmpjidhgaaGreatDoor
