/- a grammar that is reduced is right, plainly (no program in sight). -/
import Derived.Test.YtggbjdmpjidhgaaGreatDoorVQCyW6
set_option linter.unusedVariables false
set_option linter.unusedSimpArgs false
set_option maxHeartbeats 8000000
set_option maxRecDepth 100000
namespace Go.Proofs.YtggbjdmpjidhgaaGreatDoor
open Go.RowKit
theorem right_parts {G:Gr}:G.right=true ↔ G.termsOK=true∧G.nonsOK=true∧(1≤G.rules.length∧G.rules.length≤40)∧(0≤G.start∧G.start < (G.nons.length:Int))∧G.leftsGo G.rules (-1)=some ((G.nons.length:Int) - 1):=by
 unfold Gr.right
 simp only [Bool.and_eq_true,decide_eq_true_eq,and_assoc]
theorem terms_same {G H:Gr} (h:H.terms=G.terms):H.termsOK=G.termsOK:=by
 unfold Gr.termsOK
 have:H.termOK=G.termOK:=by
  funext i t
  unfold Gr.termOK Gr.term
  rw [h]
 rw [this,h]
theorem prod_start {G:Gr} (a:G.Fits) (h:(prodN G).getD G.start.toNat false=true):G.start.toNat ∈ oldN G:=(old_mem a).2 ⟨h,reach_start a⟩
theorem red_ruleOK {G:Gr} (g:G.Fits) {r:Rul} (k:r ∈ keptR G) (h:G.ruleOK r=true):(redG G).ruleOK (redR (oldN G) r)=true:=by
 unfold Gr.ruleOK at h ⊢
 simp only [Bool.and_eq_true,decide_eq_true_eq,List.all_eq_true] at h ⊢
 obtain ⟨⟨h1,d⟩,f⟩:=h
 refine ⟨⟨by simp [redR,h1],d⟩,fun p l=>?_⟩
 obtain ⟨s,c,rfl⟩:=List.mem_map.1 l
 have a:=f s c
 have b:=kept_sym g k c
 unfold Gr.symOK at a ⊢
 rw [Bool.and_eq_true] at a ⊢
 by_cases h0:s < 0
 · have n:=(redS_neg s b).2 h0
   have o:=redS_non h0 (b h0)
   have m:=toI_lt (oldN G) (nonI s)
   refine ⟨?_,?_⟩
   · unfold Gr.has
     rw [if_neg (by omega),decide_eq_true_iff]
     show -1 - redS (oldN G) s < (((oldN G).map (nameO G)).length:Int)
     rw [List.length_map]
     have:(nonI (redS (oldN G) s):Int)=-1 - redS (oldN G) s:=by unfold nonI;omega
     omega
   · have:decide (0≤redS (oldN G) s)=false:=by rw [decide_eq_false_iff_not];omega
     rw [this];rfl
 · have j:redS (oldN G) s=s:=by unfold redS;rw [if_neg h0]
   rw [j]
   refine ⟨?_,a.2⟩
   have:=a.1
   unfold Gr.has at this ⊢
   rw [if_pos (by omega)] at this ⊢
   exact this
theorem toI_part {b a:List Rul} {i:Nat} (h:i ∈ oldOf b):toI (oldOf (b++a)) i=toI (oldOf b) i:=by
 induction a using snoc_ind with
 | h0=>rw [List.append_nil]
 | h1 a q c =>
   rw [← List.append_assoc,oldOf_snoc]
   unfold putO
   split
   · exact c
   · rename_i g
     rw [toI_app_ne _ (fun d=>g (by rw [← d];rw [oldOf_mem] at h ⊢;obtain ⟨r,j,f⟩:=h;exact ⟨r,List.mem_append_left _ j,f⟩)),c]
theorem red_lefts (G:Gr) (n:G.Fits) (k:∀ r ∈ keptR G,(redG G).ruleOK (redR (oldN G) r)=true):∀ (a b:List Rul),a++b=keptR G →
 (redG G).leftsGo (a.map (redR (oldN G))) (-1)=some (((oldOf a).length:Int) - 1):=by
 intro a
 induction a using snoc_ind with
 | h0=>intro b _;simp [Gr.leftsGo,oldOf]
 | h1 a r m =>
   intro b f
   have h1:=m (r::b) (by rw [← f];simp)
   have l:r ∈ keptR G:=by rw [← f];simp
   rw [List.map_append,List.map_cons,List.map_nil,Gr.leftsGo_snoc,h1,Option.bind_some]
   have j:oldN G=oldOf ((a++[r])++b):=by unfold oldN;rw [f]
   have g:r.left.toNat ∈ oldOf (a++[r]):=oldOf_mem.2 ⟨r,by simp,rfl⟩
   have c:(redR (oldN G) r).left=toI (oldOf (a++[r])) r.left.toNat:=by
    show toI (oldN G) r.left.toNat=_
    rw [j,toI_part g]
   rw [if_pos]
   · rw [c,oldOf_snoc]
     unfold putO
     split
     · rename_i hi
       have:=toI_lt (oldOf a) r.left.toNat
       rw [Option.some.injEq]
       omega
     · rename_i hi
       have d:(oldOf a++[r.left.toNat]).Nodup:=by
        have:=oldOf_nodup (a++[r])
        rw [oldOf_snoc] at this
        unfold putO at this
        rwa [if_neg hi] at this
       rw [toI_app d,Option.some.injEq]
       simp only [List.length_append,List.length_singleton]
       omega
   · refine ⟨?_,?_,k r l⟩
     · rw [c]
       have:¬ toI (oldOf (a++[r])) r.left.toNat < 0:=fun h=>toI_neg.1 h g
       omega
     · rw [c,oldOf_snoc]
       unfold putO
       split
       · have:=toI_lt (oldOf a) r.left.toNat
         omega
       · rename_i hi
         have d:(oldOf a++[r.left.toNat]).Nodup:=by
          have:=oldOf_nodup (a++[r])
          rw [oldOf_snoc] at this
          unfold putO at this
          rwa [if_neg hi] at this
         rw [toI_app d]
         omega
theorem red_right {G:Gr} (h:G.right=true) (L:(prodN G).getD G.start.toNat false=true):(redG G).right=true:=by
 have a:=Gr.fits h
 obtain ⟨h1,g,A,R,B⟩:=right_parts.1 h
 have v:=prod_start a L
 obtain ⟨k,S,T,U⟩:=toI_mem (old_nodup G) v
 have V:=old_len a
 have W:=a.n2
 have O:=(G.lefts_all _ _ _ B).2
 have J:∀ r ∈ keptR G,(redG G).ruleOK (redR (oldN G) r)=true:=fun r u=>red_ruleOK a u (O r (kept_mem.1 u).1).2.2
 have m:(redG G).nons.length=(oldN G).length:=by show ((oldN G).map (nameO G)).length=_;rw [List.length_map]
 obtain ⟨X,N,_⟩:=oldOf_mem.1 v
 refine right_parts.2 ⟨(terms_same (G:=G) (H:=redG G) rfl).trans h1,?_,⟨?_,?_⟩,⟨?_,?_⟩,?_⟩
 · unfold Gr.nonsOK
   rw [Bool.and_eq_true,decide_eq_true_iff,m]
   refine ⟨by omega,allI_true fun j s P=>?_⟩
   obtain ⟨i,hi,rfl⟩:∃ i,(oldN G)[j]? = some i∧nameO G i=s:=by
    have:((oldN G).map (nameO G))[j]? = some s:=P
    rw [List.getElem?_map] at this
    cases o:(oldN G)[j]? with
    | none=>rw [o] at this;cases this
    | some i=>rw [o] at this;exact ⟨i,rfl,by simpa using this⟩
   have F:=use_lt ((old_mem a).1 (List.mem_of_getElem? hi))
   unfold Gr.nonsOK at g
   rw [Bool.and_eq_true] at g
   have I:∀ q,q < G.nons.length→G.nons[q]? = some (nameO G q):=fun q d=>by
    unfold nameO
    rw [List.getElem?_eq_getElem d]
    rfl
   have p:=fun q d=>allI_get g.2 (I q d)
   have b:=p i F
   unfold Gr.nonOK at b ⊢
   simp only [Bool.and_eq_true,decide_eq_true_eq] at b ⊢
   refine ⟨⟨b.1.1,?_⟩,b.2⟩
   show findI (fun t=>decide (t=nameO G i)) ((oldN G).map (nameO G))=(j:Int)
   refine findI_at (x:=nameO G i) (by rw [List.getElem?_map,hi];rfl) (by simp) fun q d y c=>?_
   rw [List.getElem?_map] at c
   cases f:(oldN G)[q]? with
   | none=>rw [f] at c;cases c
   | some n =>
     rw [f] at c
     have:nameO G n=y:=by simpa using c
     subst this
     rw [decide_eq_false_iff_not]
     intro E
     have M:=use_lt ((old_mem a).1 (List.mem_of_getElem? f))
     have l:=p n M
     unfold Gr.nonOK at l
     simp only [Bool.and_eq_true,decide_eq_true_eq] at l
     have C:=l.1.2
     rw [E,b.1.2] at C
     have D:i=n:=by omega
     have:=toI_get (old_nodup G) hi
     have z:=toI_get (old_nodup G) f
     rw [← D] at z
     omega
 · show 1≤((keptR G).map (redR (oldN G))).length
   rw [List.length_map]
   exact List.length_pos_of_mem N
 · show ((keptR G).map (redR (oldN G))).length≤40
   rw [List.length_map]
   exact Nat.le_trans (List.length_filter_le _ _) A.2
 · show 0≤toI (oldN G) G.start.toNat
   omega
 · rw [m]
   show toI (oldN G) G.start.toNat < _
   omega
 · rw [m]
   have:=red_lefts G a J (keptR G) [] (by simp)
   exact this
section
variable {G:Gr}
def sig (G:Gr) (i:Nat):Nat:=(toI (oldN G) i).toNat
theorem sig_toI {i:Nat} (h:i ∈ oldN G):toI (oldN G) i=(sig G i:Int)∧sig G i < (oldN G).length∧(oldN G)[sig G i]? = some i:=by
 obtain ⟨k,a,b,c⟩:=toI_mem (old_nodup G) h
 have:sig G i=k:=by unfold sig;omega
 rw [this]
 exact ⟨c,a,b⟩
theorem sig_get {k i:Nat} (h:(oldN G)[k]? = some i):sig G i=k:=by
 have:=toI_get (old_nodup G) h
 unfold sig
 omega
theorem red_nons:(redG G).nons.length=(oldN G).length:=by show ((oldN G).map (nameO G)).length=_;rw [List.length_map]
theorem red_rule {a:Rul}:a ∈ (redG G).rules ↔ ∃ r ∈ keptR G,redR (oldN G) r=a:=List.mem_map
theorem red_left {r:Rul} (a:r ∈ keptR G):(redR (oldN G) r).left.toNat=sig G r.left.toNat:=rfl
theorem red_sym (a:G.Fits) {r:Rul} (b:r ∈ keptR G) {s:Int} (c:s ∈ r.right):(redS (oldN G) s < 0 ↔ s < 0)∧(s < 0→nonI (redS (oldN G) s)=sig G (nonI s)):=by
 refine ⟨redS_neg s (kept_sym a b c),fun h0=>?_⟩
 have h1:=redS_non h0 (kept_sym a b c h0)
 have d:=(sig_toI (kept_sym a b c h0)).1
 omega
theorem red_start (a:G.Fits) (b:(prodN G).getD G.start.toNat false=true):(redG G).start.toNat=sig G G.start.toNat:=rfl
theorem kept_of (a:G.Fits) {r:Rul} (c:r ∈ G.rules) (d:r.left.toNat ∈ oldN G) (b:allP true (prodN G) r.right=true):r ∈ keptR G :=
 kept_mem.2 ⟨c,((old_mem a).1 d).2,b⟩
theorem red_prod (c:G.Fits) (m:(redG G).Fits) {i:Nat} (hi:i ∈ oldN G):(prodN (redG G)).getD (sig G i) false=true:=by
 have:=grown_least (b:=true) (G:=G) (fun i=>(prodN G).getD i false=true∧(i ∈ oldN G→(prodN (redG G)).getD (sig G i) false=true)) (fun r g f=>?_) ((old_mem c).1 hi).1
 · exact this.2 hi
 · have h:allP true (prodN G) r.right=true:=allP_iff.2 fun s a=>⟨(f s a).1,fun h0=>((f s a).2 h0).1⟩
   have n:=c.left r g
   refine ⟨grown_closed (b:=true) g (by omega) h,fun j=>?_⟩
   have d:=kept_of c g j h
   rw [← red_left d]
   refine grown_closed (b:=true) (G:=redG G) (red_rule.2 ⟨r,d,rfl⟩) ?_ (allP_iff.2 fun o l=>⟨fun _=>rfl,fun k=>?_⟩)
   · rw [red_nons,red_left d];exact (sig_toI j).2.1
   · obtain ⟨s,a,rfl⟩:=List.mem_map.1 l
     have h1:=red_sym c d a
     have h0:=h1.1.1 k
     rw [h1.2 h0]
     exact ((f s a).2 h0).2 (kept_sym c d a h0)
theorem red_reach (a:G.Fits) (d:(redG G).Fits) (j:(prodN G).getD G.start.toNat false=true) {i:Nat} (hi:i ∈ oldN G):(reachN (redG G)).getD (sig G i) false=true:=by
 have:=reach_least (G:=G) (fun i=>i ∈ oldN G∧(reachN (redG G)).getD (sig G i) false=true) ⟨prod_start a j,by have:=reach_start d;rwa [red_start a j] at this⟩ (fun r m h l s f h0=>?_) ((old_mem a).1 hi).2
 · exact this.2
 · have b:=kept_of a m h.1 l
   have h1:=red_sym a b f
   refine ⟨kept_sym a b f h0,?_⟩
   rw [← h1.2 h0]
   refine reach_closed d (red_rule.2 ⟨r,b,rfl⟩) (by rw [red_left b];exact h.2) (allP_iff.2 fun o n=>⟨fun _=>rfl,fun g=>?_⟩) (List.mem_map.2 ⟨s,f,rfl⟩) (h1.1.2 h0)
   obtain ⟨q,k,rfl⟩:=List.mem_map.1 n
   have c:=red_sym a b k
   rw [c.2 (c.1.1 g)]
   exact red_prod a d (kept_sym a b k (c.1.1 g))
theorem cyc_bit (b:G.Fits) (i:Nat):(cycS (stepsN G)).testBit i=true ↔ i < G.nons.length∧comesTo (stepsN G) i i=true:=by
 unfold cycS
 rw [setB_bit,stepsN_len]
 simp only [Bool.and_eq_true,decide_eq_true_eq]
 have:=b.n2
 constructor
 · rintro ⟨_,h1,a⟩;exact ⟨h1,a⟩
 · rintro ⟨h1,a⟩;exact ⟨by omega,h1,a⟩
end
def sumL:List Nat→Nat
 | []=>0
 | x::l=>x+sumL l
theorem sumL_congr {α:Type} {f g:α→Nat}:∀ {l:List α},(∀ x ∈ l,f x=g x)→sumL (l.map f)=sumL (l.map g)
 | [],_=>rfl
 | x::l,h=>by
   show f x+sumL (l.map f)=g x+sumL (l.map g)
   rw [h x (List.mem_cons_self ..),sumL_congr fun y a=>h y (List.mem_cons_of_mem _ a)]
theorem sumL_zero {α:Type} {f:α→Nat}:∀ {l:List α},sumL (l.map f)=0 ↔ ∀ x ∈ l,f x=0
 | []=>by simp [sumL]
 | x::l=>by
   show f x+sumL (l.map f)=0 ↔ _
   rw [Nat.add_eq_zero_iff,sumL_zero]
   simp
theorem sumL_append (l m:List Nat):sumL (l++m)=sumL l+sumL m:=by
 induction l with
 | nil=>simp [sumL]
 | cons x l a=>show x+sumL (l++m)=x+sumL l+sumL m;omega
def forestT (T:Int→Nat→Nat):List Int→Nat→Nat
 | [],n=>if n=0 then 1 else 0
 | s::l,n=>sumL ((List.range (n+1)).map fun k=>T s k * forestT T l (n - k))
theorem forest_zero (T:Int→Nat→Nat) (s:Int) (l:List Int):forestT T (s::l) 0=T s 0 * forestT T l 0:=by
 simp [forestT,sumL]
theorem forest_none {T:Int→Nat→Nat}:∀ {l:List Int},forestT T l 0=0 ↔ ∃ s ∈ l,T s 0=0
 | []=>by simp [forestT]
 | s::l=>by
   rw [forest_zero,Nat.mul_eq_zero,forest_none]
   simp
theorem forest_congr {T a:Int→Nat→Nat}:∀ {l:List Int} {n:Nat},(∀ s ∈ l,∀ k,k≤n→T s k=a s k)→forestT T l n=forestT a l n
 | [],n,_=>rfl
 | s::l,n,h=>by
   unfold forestT
   refine sumL_congr fun k b=>?_
   have f:=List.mem_range.1 b
   rw [h s (List.mem_cons_self ..) k (by omega),forest_congr fun q c j d=>h q (List.mem_cons_of_mem _ c) j (by omega)]
theorem forest_same {T c:Int→Nat→Nat}:∀ {l:List Int} {n:Nat},(∀ s ∈ l,∀ k,k < n→T s k=c s k) →
 (∀ (p:Nat) s,l[p]? = some s→(∀ (q:Nat) b,q ≠ p→l[q]? = some b→T b 0 ≠ 0)→T s n=c s n)→(n=0→∀ s ∈ l,T s 0=0→c s 0=0)→forestT T l n=forestT c l n:=by
 intro l n
 rcases Nat.eq_zero_or_pos n with rfl | z
 · intro _ g y
   by_cases d:∃ s ∈ l,T s 0=0
   · rw [forest_none.2 d]
     obtain ⟨s,o,h0⟩:=d
     exact (forest_none.2 ⟨s,o,y rfl s o h0⟩).symm
   · refine forest_congr fun s o k u=>?_
     obtain rfl:k=0:=by omega
     obtain ⟨p,r⟩:=List.getElem?_of_mem o
     exact g p s r fun q b _ a h0=>d ⟨b,List.mem_of_getElem? a,h0⟩
 · intro h1 g _
   induction l with
   | nil=>rfl
   | cons s l B =>
     unfold forestT
     refine sumL_congr fun k u=>?_
     have C:=List.mem_range.1 u
     have t:∀ q ∈ s::l,T q 0=c q 0:=fun q a=>h1 q a 0 z
     rcases Nat.eq_zero_or_pos k with rfl | D
     · rw [← t s (List.mem_cons_self ..)]
       by_cases x:T s 0=0
       · rw [x,Nat.zero_mul,Nat.zero_mul]
       · rw [Nat.sub_zero,B (fun q a=>h1 q (List.mem_cons_of_mem _ a)) (fun p q r A=>g (p+1) q (by simpa using r) fun j b m f=>?_) (fun h=>absurd h (by omega))]
         cases j with
         | zero=>simp at f;rw [← f];exact x
         | succ j=>exact A j b (by omega) (by simpa using f)
     · rcases Nat.lt_or_ge k n with v | v
       · rw [h1 s (List.mem_cons_self ..) k v,forest_congr fun q a j m=>h1 q (List.mem_cons_of_mem _ a) j (by omega)]
       · obtain rfl:k=n:=by omega
         rw [Nat.sub_self]
         have e:forestT T l 0=forestT c l 0:=forest_congr fun q a j m=>by
          obtain rfl:j=0:=by omega
          exact t q (List.mem_cons_of_mem _ a)
         by_cases d:∃ q ∈ l,T q 0=0
         · rw [← e,forest_none.2 d,Nat.mul_zero,Nat.mul_zero]
         · rw [← e,g 0 s rfl fun j b m f h0=>?_]
           cases j with
           | zero=>exact m rfl
           | succ j=>exact d ⟨b,List.mem_of_getElem? (by simpa using f),h0⟩
def oneT (n:Nat):Nat:=if n=1 then 1 else 0
def rulesT (T:Int→Nat→Nat) (a:List Rul) (i n:Nat):Nat:=sumL ((a.filter fun r=>decide (r.left.toNat=i)).map fun r=>forestT T r.right n)
def treeF (G:Gr):Nat→Int→Nat→Nat
 | 0,s,n=>if 0≤s then oneT n else 0
 | f+1,s,n=>if 0≤s then oneT n else rulesT (treeF G f) G.rules (nonI s) n
theorem treeF_term (G:Gr) (f:Nat) {s:Int} (h:0≤s) (n:Nat):treeF G f s n=oneT n:=by
 cases f <;> simp [treeF,h]
theorem treeF_non (G:Gr) (f:Nat) {s:Int} (h:s < 0) (n:Nat):treeF G (f+1) s n=rulesT (treeF G f) G.rules (nonI s) n:=by
 unfold treeF
 rw [if_neg (by omega)]
theorem rulesT_congr {T c:Int→Nat→Nat} {b:List Rul} {i n:Nat} (h:∀ r ∈ b,r.left.toNat=i→forestT T r.right n=forestT c r.right n):rulesT T b i n=rulesT c b i n:=by
 unfold rulesT
 refine sumL_congr fun r a=>?_
 rw [List.mem_filter,decide_eq_true_iff] at a
 exact h r a.1 a.2
theorem tree_null {G:Gr} (d:G.Fits):∀ (f:Nat) {s:Int},treeF G f s 0 ≠ 0→nulB (nullN G) s=true
 | 0,s,h=>by
   exfalso
   unfold treeF at h
   split at h
   · exact h (by simp [oneT])
   · exact h rfl
 | f+1,s,h=>by
   by_cases h0:0≤s
   · rw [treeF_term G _ h0] at h
     exact absurd (by simp [oneT]) h
   · rw [treeF_non G f (by omega)] at h
     obtain ⟨r,a,l⟩:∃ r ∈ G.rules.filter (fun r=>decide (r.left.toNat=nonI s)),forestT (treeF G f) r.right 0 ≠ 0:=by
      apply Classical.byContradiction
      intro k
      apply h
      unfold rulesT
      rw [sumL_zero]
      intro r a
      apply Classical.byContradiction
      intro m
      exact k ⟨r,a,m⟩
     rw [List.mem_filter,decide_eq_true_iff] at a
     have g:∀ q ∈ r.right,nulB (nullN G) q=true:=fun q c=>tree_null d f fun n=>l (forest_none.2 ⟨q,c,n⟩)
     have j:allP false (nullN G) r.right=true:=allP_iff.2 fun q c=>by
      have:=g q c
      unfold nulB at this
      rw [Bool.and_eq_true,decide_eq_true_iff] at this
      exact ⟨fun h1=>by omega,fun _=>this.2⟩
     have o:=d.left r a.1
     have:=grown_closed (b:=false) (G:=G) a.1 (by omega) j
     rw [a.2] at this
     unfold nulB
     rw [Bool.and_eq_true,decide_eq_true_iff]
     exact ⟨by omega,this⟩
def mu (G:Gr) (n:Nat) (s:Int):Nat:=n * 4294967296+(closeS (stepsN G)).getD (nonI s) 0
structure Plain (G:Gr):Prop where
 fits:G.Fits
 prod:∀ i,i < G.nons.length→(prodN G).getD i false=true
 none:∀ i,i < G.nons.length→comesTo (stepsN G) i i=false
theorem close_small (G:Gr) (i:Nat):(closeS (stepsN G)).getD i 0 < 4294967296:=(closeS_small (stepsN_small G)).get i
theorem step_down {G:Gr} (c:Plain G) {i t:Nat} (hi:i < G.nons.length) (h:((stepsN G).getD i 0).testBit t=true):(closeS (stepsN G)).getD t 0 < (closeS (stepsN G)).getD i 0:=by
 have b:=stepsN_in G c.fits i t h
 have j:t < G.nons.length:=by rw [stepsN_len] at b;exact b
 have d:i < (stepsN G).length:=by rw [stepsN_len];exact hi
 have h1:comesTo (stepsN G) i t=true:=comes_once d h
 have a:=c.none t j
 have k:(closeS (stepsN G)).getD t 0≤(closeS (stepsN G)).getD i 0:=bits_le fun q g=>comes_step d b h g
 have l:(closeS (stepsN G)).getD t 0 ≠ (closeS (stepsN G)).getD i 0:=fun f=>by
  unfold comesTo at h1 a
  rw [f,h1] at a
  cases a
 omega
theorem alone_step {G:Gr} (c:Plain G) {r:Rul} (f:r ∈ G.rules) {p:Nat} {s:Int} (h:r.right[p]? = some s) (h0:s < 0) (d:∀ (q:Nat) s',q ≠ p→r.right[q]? = some s'→nulB (nullN G) s'=true) :
 ((stepsN G).getD r.left.toNat 0).testBit (nonI s)=true:=by
 refine (steps_mem c.fits).2 ⟨r,f,p,s,h,?_,rfl,rfl⟩
 unfold standsR aloneP
 simp only [Bool.and_eq_true,decide_eq_true_eq,List.all_eq_true]
 refine ⟨⟨h0,fun q b=>?_,fun q b=>?_⟩,allP_iff.2 fun q b=>⟨fun _=>rfl,fun k=>?_⟩⟩
 · obtain ⟨j,a⟩:=List.getElem?_of_mem b
   have g:=(List.getElem?_eq_some_iff.1 a).1
   rw [List.length_take] at g
   rw [List.getElem?_take_of_lt (by omega)] at a
   exact d j q (by omega) a
 · obtain ⟨j,a⟩:=List.getElem?_of_mem b
   rw [List.getElem?_drop] at a
   exact d (p+1+j) q (by omega) a
 · have:=c.fits.sym r f q b
   exact c.prod _ (by unfold nonI;omega)
theorem tree_stable {G:Gr} (c:Plain G):∀ (m n:Nat) (s:Int),s < 0→nonI s < G.nons.length→mu G n s=m→∀ f o,m < f→m < o→treeF G f s n=treeF G o s n:=by
 intro m
 induction m using Nat.strongRecOn with
 | ind m F =>
   intro n s h0 I z f o N O
   obtain ⟨g,rfl⟩:∃ g,f=g+1:=⟨f - 1,by omega⟩
   obtain ⟨a,rfl⟩:∃ a,o=a+1:=⟨o - 1,by omega⟩
   rw [treeF_non G g h0,treeF_non G a h0]
   refine rulesT_congr fun r D L=>?_
   have C:∀ q ∈ r.right,q < 0→nonI q < G.nons.length:=fun q t l=>by
    have:=c.fits.sym r D q t
    unfold nonI
    omega
   have M:∀ q ∈ r.right,∀ k,k < n→treeF G g q k=treeF G a q k:=fun q t k H=>by
    by_cases l:0≤q
    · rw [treeF_term G g l,treeF_term G a l]
    · have h1:=close_small G (nonI q)
      have:mu G k q < m:=by unfold mu at z ⊢;omega
      exact F _ this k q (by omega) (C q t (by omega)) rfl g a (by omega) (by omega)
   have top:∀ (p:Nat) q,r.right[p]? = some q→(∀ (j:Nat) b,j ≠ p→r.right[j]? = some b→nulB (nullN G) b=true)→treeF G g q n=treeF G a q n:=fun p q d x=>by
    by_cases l:0≤q
    · rw [treeF_term G g l,treeF_term G a l]
    · have E:=alone_step c D d (by omega) x
      rw [L] at E
      have hd:=step_down c I E
      have:mu G n q < m:=by unfold mu at z ⊢;omega
      exact F _ this n q (by omega) (C q (List.mem_of_getElem? d) (by omega)) rfl g a (by omega) (by omega)
   by_cases B:n=0
   · subst B
     by_cases y:(∃ q ∈ r.right,treeF G g q 0=0)∧∃ q ∈ r.right,treeF G a q 0=0
     · rw [forest_none.2 y.1,forest_none.2 y.2]
     · refine forest_congr fun q t k H=>?_
       obtain rfl:k=0:=by omega
       obtain ⟨p,d⟩:=List.getElem?_of_mem t
       refine top p q d fun j b _ v=>?_
       have A:=List.mem_of_getElem? v
       by_cases h1:∃ q ∈ r.right,treeF G g q 0=0
       · refine tree_null c.fits a fun u=>y ⟨h1,b,A,u⟩
       · exact tree_null c.fits g fun u=>h1 ⟨b,A,u⟩
   · refine forest_same M (fun p q d x=>top p q d fun j b v J=>tree_null c.fits g (x j b v J)) fun h=>absurd h B
def fuelN (n:Nat):Nat:=n * 4294967296+4294967297
theorem fuelN_succ (n:Nat):∃ f,fuelN n=f+1∧n * 4294967296+4294967296≤f:=⟨n * 4294967296+4294967296,rfl,Nat.le_refl _⟩
theorem fuelN_le (n:Nat):n * 4294967296+4294967296≤fuelN n:=Nat.le_succ _
def treeN (G:Gr) (s:Int) (n:Nat):Nat:=treeF G (fuelN n) s n
theorem mu_lt (G:Gr) (n:Nat) (s:Int) {f:Nat} (a:n * 4294967296+4294967296≤f):mu G n s < f:=by
 have:=close_small G (nonI s)
 unfold mu
 omega
theorem treeN_fuel {G:Gr} (a:Plain G) {f n:Nat} {s:Int} (c:s < 0→nonI s < G.nons.length) (b:n * 4294967296+4294967296≤f):treeF G f s n=treeN G s n:=by
 unfold treeN
 by_cases h0:0≤s
 · rw [treeF_term G _ h0,treeF_term G _ h0]
 · exact tree_stable a _ n s (by omega) (c (by omega)) rfl _ _ (mu_lt G n s b) (mu_lt G n s (fuelN_le n))
theorem treeN_term (G:Gr) {s:Int} (h:0≤s) (n:Nat):treeN G s n=oneT n:=treeF_term G _ h n
theorem treeN_non {G:Gr} (a:Plain G) {s:Int} (h0:s < 0) (l:nonI s < G.nons.length) (n:Nat):treeN G s n=rulesT (treeN G) G.rules (nonI s) n:=by
 obtain ⟨f,b,c⟩:=fuelN_succ n
 have e:treeN G s n=treeF G (f+1) s n:=by unfold treeN;rw [b]
 rw [e,treeF_non G f h0]
 refine rulesT_congr fun r j o=>forest_congr fun q h k d=>?_
 have g:q < 0→nonI q < G.nons.length:=fun m=>by
  have:=a.fits.sym r j q h
  unfold nonI
  omega
 exact treeN_fuel a g (Nat.le_trans (Nat.add_le_add_right (Nat.mul_le_mul_right _ d) _) c)
theorem treeN_null {G:Gr} (a:Plain G) {s:Int} (h:treeN G s 0 ≠ 0):nulB (nullN G) s=true:=tree_null a.fits _ h
def goI (S:List Nat) (R i:Nat):Nat:=if R.testBit i then R ||| S.getD i 0 else R
def passG (S:List Nat) (m R:Nat):Nat:=(List.range m).foldl (goI S) R
theorem passG_succ (S:List Nat) (m R:Nat):passG S (m+1) R=goI S (passG S m R) m:=by
 unfold passG
 rw [List.range_succ,List.foldl_append]
 rfl
theorem goI_up {S:List Nat} {R i t:Nat} (h:R.testBit t=true):(goI S R i).testBit t=true:=by
 unfold goI
 split
 · rw [Nat.testBit_or,h];rfl
 · exact h
theorem passG_up {S:List Nat} {R t:Nat} (h:R.testBit t=true):∀ m,(passG S m R).testBit t=true
 | 0=>h
 | m+1=>by rw [passG_succ];exact goI_up (passG_up h m)
def thereL (l:List Nat):Nat:=l.foldl (fun s (i:Nat)=>s ||| bitN (i:Int)) 0
theorem thereL_snoc (l:List Nat) (i:Nat):thereL (l++[i])=thereL l ||| bitN (i:Int):=by simp [thereL]
def PreO (S:List Nat) (use n:Nat) (a:List Nat × Nat):Prop:=a.2=thereL a.1∧∀ p i,a.1[p]? = some i→i < n∧pickB S use (thereL (a.1.take p)) i=true
theorem PreO.step {S:List Nat} {use n:Nat} {a:List Nat × Nat} (h:PreO S use n a):PreO S use n (stepO S use n a):=by
 cases b:findB (pickB S use a.2) n with
 | none=>rw [stepO_none b];exact h
 | some j =>
   rw [stepO_some b]
   obtain ⟨d,g⟩:=findB_at b
   refine ⟨by show a.2 ||| bitN (j:Int)=_;rw [thereL_snoc,h.1],fun p i hi=>?_⟩
   simp only [] at hi ⊢
   rcases Nat.lt_trichotomy p a.1.length with f | c | k
   · rw [List.getElem?_append_left f] at hi
     rw [List.take_append_of_le_length (by omega)]
     exact h.2 p i hi
   · subst c
     rw [List.getElem?_append_right (Nat.le_refl _),Nat.sub_self] at hi
     have e:j=i:=by simpa using hi
     subst e
     refine ⟨d,?_⟩
     rw [List.take_append_of_le_length (Nat.le_refl _),List.take_length,← h.1]
     exact g
   · rw [List.getElem?_eq_none (by simp;omega)] at hi
     cases hi
theorem orderS_pre (S:List Nat) (use n:Nat):∀ k,PreO S use n (orderS S use n k)
 | 0=>⟨rfl,fun p i h=>by simp [orderS,iter] at h⟩
 | k+1=>by rw [orderS_succ];exact (orderS_pre S use n k).step
def tabT (tab:Nat→Nat→Nat) (s:Int) (n:Nat):Nat:=if 0≤s then oneT n else tab n (nonI s)
structure Ordered (G:Gr) (ord:List Nat):Prop where
 lt:∀ i ∈ ord,i < G.nons.length
 pre:∀ (p i:Nat),ord[p]? = some i→∀ t,((stepsN G).getD i 0).testBit t=true→t ∈ ord.take p
 all:∀ i,i < G.nons.length→i ∈ ord
structure Told (G:Gr) (ord:List Nat) (tab:Nat→Nat→Nat) (m p:Nat):Prop where
 low:∀ k,k < m→∀ i,i < G.nons.length→tab k i=treeN G (-1 - (i:Int)) k
 now:∀ i,i ∈ ord.take p→tab m i=treeN G (-1 - (i:Int)) m
 rest:∀ i,i ∉ ord.take p→tab m i=0
def putTab (tab:Nat→Nat→Nat) (m i v:Nat):Nat→Nat→Nat:=fun k j=>if k=m∧j=i then v else tab k j
theorem nonI_neg {s:Int} (h:s < 0):-1 - ((nonI s:Nat):Int)=s:=by unfold nonI;omega
theorem nonI_of (i:Nat):nonI (-1 - (i:Int))=i:=by unfold nonI;omega
theorem Told.next {G:Gr} (a:Plain G) {c:List Nat} (d:Ordered G c) {tab:Nat→Nat→Nat} {m p i:Nat} (h:Told G c tab m p) (hi:c[p]? = some i) :
 rulesT (tabT tab) G.rules i m=treeN G (-1 - (i:Int)) m:=by
 have o:=d.lt i (List.mem_of_getElem? hi)
 rw [treeN_non a (by omega) (by rw [nonI_of];exact o),nonI_of]
 refine (rulesT_congr fun r l y=>?_).symm
 have u:∀ q ∈ r.right,q < 0→nonI q < G.nons.length:=fun q b C=>by
  have:=a.fits.sym r l q b
  unfold nonI
  omega
 refine forest_same (fun q b k t=>?_) (fun j q s v=>?_) fun g q b h0=>?_
 · unfold tabT
   split
   · rename_i h0;exact treeN_term G h0 k
   · rename_i h0;rw [h.low k t _ (u q b (by omega)),nonI_neg (by omega)]
 · unfold tabT
   split
   · rename_i h0;exact treeN_term G h0 m
   · rename_i h0
     have n:=alone_step a l s (by omega) fun A B x z=>treeN_null a (v A B x z)
     rw [y] at n
     rw [h.now _ (d.pre p i hi _ n),nonI_neg (by omega)]
 · unfold tabT
   split
   · rename_i h1;rw [← treeN_term G h1];exact h0
   · rename_i h1
     by_cases f:nonI q ∈ c.take p
     · subst g
       rw [h.now _ f,nonI_neg (by omega)];exact h0
     · subst g
       exact h.rest _ f
theorem Told.put {G:Gr} {c:List Nat} {tab:Nat→Nat→Nat} {m p i:Nat} (h:Told G c tab m p) (hi:c[p]? = some i) (v:Nat) (l:v=treeN G (-1 - (i:Int)) m):Told G c (putTab tab m i v) m (p+1):=by
 have d:c.take (p+1)=c.take p++[i]:=by rw [List.take_add_one,hi];rfl
 refine ⟨fun k g j a=>?_,fun j a=>?_,fun j a=>?_⟩
 · unfold putTab
   rw [if_neg (by omega)]
   exact h.low k g j a
 · unfold putTab
   split
   · rename_i b;rw [b.2];exact l
   · rename_i b
     rw [d,List.mem_append,List.mem_singleton] at a
     rcases a with a | a
     · exact h.now j a
     · exact absurd ⟨rfl,a⟩ b
 · rw [d,List.mem_append,List.mem_singleton] at a
   unfold putTab
   rw [if_neg (by rintro ⟨_,b⟩;exact a (.inr b))]
   exact h.rest j fun f=>a (.inl f)
theorem Told.row {G:Gr} {a:List Nat} (c:Ordered G a) {tab:Nat→Nat→Nat} {m:Nat} (h:Told G a tab m a.length) (h0:∀ i,tab (m+1) i=0):Told G a tab (m+1) 0:=by
 refine ⟨fun k b i hi=>?_,fun i hi=>by simp at hi,fun i _=>h0 i⟩
 rcases (by omega:k < m∨k=m) with b | rfl
 · exact h.low k b i hi
 · exact h.now i (by rw [List.take_length];exact c.all i hi)
theorem Told.start (G:Gr) (a:List Nat):Told G a (fun _ _=>0) 0 0:=⟨fun k b=>by omega,fun i hi=>by simp at hi,fun _ _=>rfl⟩
theorem thereL_bit:∀ (l:List Nat) (t:Nat),(∀ i ∈ l,i < 32)→((thereL l).testBit t=true ↔ t ∈ l):=by
 intro l
 induction l using snoc_ind with
 | h0=>intro t _;simp [thereL]
 | h1 l i b =>
   intro t h
   rw [thereL_snoc,Nat.testBit_or,Bool.or_eq_true,b t fun j a=>h j (List.mem_append_left _ a),bitN_test,List.mem_append,List.mem_singleton]
   have:=h i (by simp)
   simp [this]
theorem order_serves {G:Gr} (h:G.right=true) (n:∀ i,i < G.nons.length→(useS G).testBit i=true) (l:endG G=false):Ordered G (orderS (stepsN G) (useS G) G.nons.length G.nons.length).1:=by
 have m:=Gr.fits h
 have k:useS G < 4294967296:=setB_lt _ _
 have g:=orderS_pre (stepsN G) (useS G) G.nons.length G.nons.length
 have r:=order_next G h l (orderS_end (stepsN G) G.nons.length k)
 have q:=(orderS_inv (stepsN G) G.nons.length k G.nons.length).mem
 generalize orderS (stepsN G) (useS G) G.nons.length G.nons.length=b at *
 have f:∀ i ∈ b.1,i < G.nons.length:=fun i hi=>by
  obtain ⟨p,s⟩:=List.getElem?_of_mem hi
  exact (g.2 p i s).1
 have v:=m.n2
 refine ⟨f,fun p i hi t u=>?_,fun i hi=>?_⟩
 · have h1:=(g.2 p i hi).2
   unfold pickB at h1
   simp only [Bool.and_eq_true,beq_iff_eq] at h1
   have a:=andN_bit ((stepsN G).getD i 0) (thereL (b.1.take p)) t
   rw [h1.2,Nat.zero_testBit,u,Bool.true_and] at a
   have c:(thereL (b.1.take p)).testBit t=true:=by
    cases d:(thereL (b.1.take p)).testBit t
    · rw [d] at a;cases a
    · rfl
   exact (thereL_bit _ t fun j o=>by have:=f j (List.mem_of_mem_take o);omega).1 c
 · have a:=andN_bit (useS G) b.2 i
   rw [r,Nat.zero_testBit,n i hi,Bool.true_and] at a
   have c:b.2.testBit i=true:=by
    cases d:b.2.testBit i
    · rw [d] at a;cases a
    · rfl
   exact (q i).1 c
theorem plain_of {G:Gr} (c:G.right=true) (d:∀ i,i < G.nons.length→(useS G).testBit i=true) (a:cycG G=0):Plain G∧endG G=false:=by
 have b:=Gr.fits c
 refine ⟨⟨b,fun i hi=>((useS_bit G b i).1 (d i hi)).1,fun i hi=>?_⟩,?_⟩
 · cases f:comesTo (stepsN G) i i
   · rfl
   · have:=(cyc_bit b i).2 ⟨hi,f⟩
     unfold cycG at a
     rw [if_pos c] at a
     rw [a,Nat.zero_testBit] at this
     cases this
 · unfold endG
   rw [a,Nat.zero_and]
   rfl
def val:List Nat→Nat
 | []=>0
 | x::t=>x+4294967296 * val t
def Lim (xs:List Nat):Prop:=∀ x ∈ xs,x < 4294967296
def limbsF:Nat→Nat→List Nat
 | 0,_=>[]
 | f+1,n=>if n=0 then [] else n % 4294967296::limbsF f (n / 4294967296)
def limbs (n:Nat):List Nat:=limbsF (n.log2+1) n
def neatL (xs:List Nat):List Nat:=(xs.reverse.dropWhile (· == 0)).reverse
def rightB (xs:List Nat):Bool:=decide (xs.length≤32) && (decide (xs.length=0) || xs.getD (xs.length - 1) 0 != 0)
def big:Nat:=2 ^ 1024
theorem big_eq:big=4294967296 ^ 32:=by unfold big;decide +kernel
attribute [irreducible] big
theorem Lim.nil:Lim []:=fun _ h=>by cases h
theorem Lim.cons {x:Nat} {t:List Nat} (h:Lim (x::t)):x < 4294967296∧Lim t :=
 ⟨h x (by simp),fun y a=>h y (by simp [a])⟩
theorem Lim.mk {x:Nat} {t:List Nat} (h:x < 4294967296) (b:Lim t):Lim (x::t):=fun y a=>by
 rcases List.mem_cons.1 a with rfl | a
 · exact h
 · exact b y a
theorem Lim.append {xs ys:List Nat} (h:Lim xs) (b:Lim ys):Lim (xs++ys):=fun y a=>by
 rcases List.mem_append.1 a with a | a
 · exact h y a
 · exact b y a
theorem Lim.take {xs:List Nat} (h:Lim xs) (k:Nat):Lim (xs.take k):=fun y a=>h y (List.mem_of_mem_take a)
theorem Lim.drop {xs:List Nat} (h:Lim xs) (k:Nat):Lim (xs.drop k):=fun y a=>h y (List.mem_of_mem_drop a)
theorem Lim.of_get {xs:List Nat} (h:Lim xs) {j x:Nat} (a:xs[j]? = some x):x < 4294967296:=h x (List.mem_of_getElem? a)
theorem Lim.getD {xs:List Nat} (h:Lim xs) (j:Nat):xs.getD j 0 < 4294967296:=by
 rw [List.getD_eq_getElem?_getD]
 cases a:xs[j]? with
 | none=>simp
 | some x=>simpa using h.of_get a
theorem val_append (xs ys:List Nat):val (xs++ys)=val xs+4294967296 ^ xs.length * val ys:=by
 induction xs with
 | nil=>simp [val]
 | cons x t a =>
   simp only [List.cons_append,val,a,List.length_cons,Nat.pow_succ,Nat.mul_add]
   rw [← Nat.mul_assoc,Nat.mul_comm 4294967296 (4294967296 ^ t.length)]
   omega
theorem val_snoc (xs:List Nat) (x:Nat):val (xs++[x])=val xs+4294967296 ^ xs.length * x:=by
 rw [val_append];simp [val]
theorem val_lt (xs:List Nat) (h:Lim xs):val xs < 4294967296 ^ xs.length:=by
 induction xs with
 | nil=>simp [val]
 | cons x t a =>
   have:=a h.cons.2
   have:=h.cons.1
   simp only [val,List.length_cons,Nat.pow_succ]
   omega
theorem limbsF_spec (f:Nat):∀ n,n < 4294967296 ^ f→val (limbsF f n)=n∧Lim (limbsF f n):=by
 induction f with
 | zero=>intro n h;simp at h;subst h;exact ⟨rfl,Lim.nil⟩
 | succ f b =>
   intro n h
   unfold limbsF
   by_cases h0:n=0
   · subst h0;simp [val,Lim.nil]
   · rw [if_neg h0]
     have hd:n / 4294967296 < 4294967296 ^ f:=by
      rw [Nat.pow_succ] at h
      exact Nat.div_lt_of_lt_mul (by rw [Nat.mul_comm];exact h)
     obtain ⟨h1,a⟩:=b _ hd
     refine ⟨?_,Lim.mk (Nat.mod_lt _ (by decide)) a⟩
     simp only [val,h1]
     omega
theorem lt_fuel (n:Nat):n < 4294967296 ^ (n.log2+1):=by
 have h1:n < 2 ^ (n.log2+1):=Nat.lt_log2_self
 have a:(2:Nat) ^ (n.log2+1)≤4294967296 ^ (n.log2+1):=Nat.pow_le_pow_left (by decide) _
 omega
theorem val_limbs (n:Nat):val (limbs n)=n:=(limbsF_spec _ n (lt_fuel n)).1
theorem limbs_lim (n:Nat):Lim (limbs n):=(limbsF_spec _ n (lt_fuel n)).2
def Tight (xs:List Nat):Prop:=∀ ys x,xs=ys++[x]→x ≠ 0
theorem limbsF_tight (f:Nat):∀ n,n < 4294967296 ^ f→Tight (limbsF f n):=by
 induction f with
 | zero=>intro n _ ys x h;simp [limbsF] at h
 | succ f d =>
   intro n h ys x a
   unfold limbsF at a
   by_cases h0:n=0
   · simp [h0] at a
   · rw [if_neg h0] at a
     have hd:n / 4294967296 < 4294967296 ^ f:=by
      rw [Nat.pow_succ] at h
      exact Nat.div_lt_of_lt_mul (by rw [Nat.mul_comm];exact h)
     cases ys with
     | nil =>
       simp only [List.nil_append,List.cons.injEq] at a
       obtain ⟨h1,c⟩:=a
       have b:=(limbsF_spec f _ hd).1
       rw [c] at b
       simp [val] at b
       omega
     | cons y ys =>
       simp only [List.cons_append,List.cons.injEq] at a
       exact d _ hd ys x a.2
theorem limbs_tight (n:Nat):Tight (limbs n):=limbsF_tight _ n (lt_fuel n)
theorem Tight.tail {x:Nat} {t:List Nat} (h:Tight (x::t)):Tight t:=fun ys y a=>h (x::ys) y (by rw [a];rfl)
theorem val_zero_tight (xs:List Nat) (b:Tight xs) (h:val xs=0):xs=[]:=by
 rcases List.eq_nil_or_concat xs with rfl | ⟨ys,x,rfl⟩
 · rfl
 · rw [List.concat_eq_append] at *
   have:=b ys x rfl
   rw [val_snoc] at h
   have a:0 < 4294967296 ^ ys.length:=Nat.pow_pos (by decide)
   have:0 < 4294967296 ^ ys.length * x:=Nat.mul_pos a (by omega)
   omega
theorem val_inj (xs:List Nat):∀ ys,Lim xs→Lim ys→Tight xs→Tight ys→val xs=val ys→xs=ys:=by
 induction xs with
 | nil=>intro ys _ _ _ ty h;exact (val_zero_tight ys ty (by simpa [val] using h.symm)).symm
 | cons x t d =>
   intro ys a b c ty h
   cases ys with
   | nil=>exact val_zero_tight _ c (by simpa [val] using h)
   | cons y s =>
     have h1:=a.cons.1
     have f:=b.cons.1
     simp only [val] at h
     have e:x=y:=by omega
     subst e
     rw [d s a.cons.2 b.cons.2 c.tail ty.tail (by omega)]
theorem limbs_val (xs:List Nat) (h:Lim xs) (a:Tight xs):limbs (val xs)=xs :=
 val_inj _ _ (limbs_lim _) h (limbs_tight _) a (val_limbs _)
theorem neatL_snoc_zero (xs:List Nat):neatL (xs++[0])=neatL xs:=by simp [neatL]
theorem neatL_snoc (xs:List Nat) (x:Nat) (h:x ≠ 0):neatL (xs++[x])=xs++[x]:=by simp [neatL,h]
theorem neatL_step (xs:List Nat) (k:Nat) (a:k < xs.length) (h0:xs.getD k 0=0):neatL (xs.take (k+1))=neatL (xs.take k):=by
 have:xs.take (k+1)=xs.take k++[0]:=by
  rw [List.take_succ_eq_append_getElem a]
  simp [List.getElem?_eq_getElem a] at h0
  rw [h0]
 rw [this,neatL_snoc_zero]
theorem neatL_stop (xs:List Nat) (k:Nat) (a:k < xs.length) (h0:xs.getD k 0 ≠ 0):neatL (xs.take (k+1))=xs.take (k+1):=by
 have:xs.take (k+1)=xs.take k++[xs[k]]:=List.take_succ_eq_append_getElem a
 rw [this,neatL_snoc]
 simpa [List.getElem?_eq_getElem a] using h0
theorem neatL_spec (n:Nat):∀ xs:List Nat,xs.length=n→val (neatL xs)=val xs∧Tight (neatL xs)∧(∃ k,neatL xs=xs.take k):=by
 induction n with
 | zero=>intro xs h;have:xs=[]:=List.eq_nil_of_length_eq_zero h;subst this;exact ⟨rfl,by intro ys x h;simp [neatL] at h,0,rfl⟩
 | succ n f =>
   intro xs h
   rcases List.eq_nil_or_concat xs with rfl | ⟨ys,x,rfl⟩
   · simp at h
   · rw [List.concat_eq_append] at *
     simp at h
     by_cases h0:x=0
     · subst h0
       rw [neatL_snoc_zero]
       obtain ⟨h1,b,k,a⟩:=f ys h
       refine ⟨by rw [h1,val_snoc];simp,b,?_⟩
       by_cases c:k≤ys.length
       · exact ⟨k,by rw [a,List.take_append_of_le_length c]⟩
       · exact ⟨ys.length,by rw [a,List.take_append_of_le_length (Nat.le_refl _),List.take_of_length_le (by omega),List.take_length]⟩
     · rw [neatL_snoc _ _ h0]
       refine ⟨rfl,fun g z d=>?_,(ys++[x]).length,by rw [List.take_length]⟩
       have:=List.append_inj' d rfl
       simp at this
       omega
theorem neatL_lim (xs:List Nat) (h:Lim xs):Lim (neatL xs):=by
 obtain ⟨_,_,k,a⟩:=neatL_spec _ xs rfl
 rw [a];exact h.take k
theorem neatL_limbs (xs:List Nat) (h:Lim xs):neatL xs=limbs (val xs):=by
 obtain ⟨h1,a,_⟩:=neatL_spec _ xs rfl
 rw [← h1,limbs_val _ (neatL_lim xs h) a]
theorem limbs_len_le (n k:Nat):(limbs n).length≤k ↔ n < 4294967296 ^ k:=by
 constructor
 · intro h
   have h1:=val_lt _ (limbs_lim n)
   rw [val_limbs] at h1
   exact Nat.lt_of_lt_of_le h1 (Nat.pow_le_pow_right (by decide) h)
 · intro h
   rcases Nat.lt_or_ge k (limbs n).length with a | a
   · exfalso
     rcases List.eq_nil_or_concat (limbs n) with h0 | ⟨ys,x,b⟩
     · simp [h0] at a
     · rw [List.concat_eq_append] at b
       have h0:=limbs_tight n ys x b
       have c:=val_limbs n
       rw [b,val_snoc] at c
       rw [b] at a
       simp at a
       have d:(4294967296:Nat) ^ k≤4294967296 ^ ys.length:=Nat.pow_le_pow_right (by decide) (by omega)
       have f:4294967296 ^ ys.length * 1≤4294967296 ^ ys.length * x:=Nat.mul_le_mul_left _ (by omega)
       omega
   · exact a
theorem right_of_limbs (n:Nat) (h:n < big):rightB (limbs n)=true:=by
 have h1:(limbs n).length≤32:=(limbs_len_le n 32).2 (by rw [← big_eq];exact h)
 simp only [rightB,h1,decide_true,Bool.true_and,Bool.or_eq_true,decide_eq_true_eq,bne_iff_ne,ne_eq]
 rcases List.eq_nil_or_concat (limbs n) with h0 | ⟨ys,x,a⟩
 · simp [h0]
 · rw [List.concat_eq_append] at a
   right
   rw [a]
   simpa using limbs_tight n ys x a
def fitN (n:Nat):List Nat × Nat:=if n < big then (limbs n,0) else ([],2)
def addN (xs ys:List Nat):List Nat × Nat:=if rightB xs && rightB ys then fitN (val xs+val ys) else ([],1)
def mulN (xs ys:List Nat):List Nat × Nat:=if rightB xs && rightB ys then fitN (val xs * val ys) else ([],1)
theorem mulN_limbs (a b:Nat) (c:a < big) (d:b < big):mulN (limbs a) (limbs b)=fitN (a * b):=by
 simp [mulN,right_of_limbs a c,right_of_limbs b d,val_limbs]
theorem addN_limbs (a b:Nat) (c:a < big) (d:b < big):addN (limbs a) (limbs b)=fitN (a+b):=by
 simp [addN,right_of_limbs a c,right_of_limbs b d,val_limbs]
theorem fit_neat (a:List Nat) (h:Lim a):(if (neatL a).length≤32 then (neatL a,0) else (([]:List Nat),2))=fitN (val a):=by
 rw [neatL_limbs a h]
 unfold fitN
 by_cases b:val a < big
 · rw [if_pos b,if_pos ((limbs_len_le _ 32).2 (by rw [← big_eq];exact b))]
 · rw [if_neg b,if_neg (fun c=>b (by rw [big_eq];exact (limbs_len_le _ 32).1 c))]
def addP (xs ys:List Nat):Nat→List Nat × Nat
 | 0=>([],0)
 | i+1 =>
   let p:=addP xs ys i
   let s:=xs.getD i 0+ys.getD i 0+p.2
   (p.1++[s % 4294967296],s / 4294967296)
theorem addP_len (xs ys:List Nat) (i:Nat):(addP xs ys i).1.length=i:=by
 induction i with
 | zero=>rfl
 | succ i a=>simp [addP,a]
theorem addP_lim (xs ys:List Nat) (i:Nat):Lim (addP xs ys i).1:=by
 induction i with
 | zero=>exact Lim.nil
 | succ i a=>exact a.append (Lim.mk (Nat.mod_lt _ (by decide)) Lim.nil)
theorem addP_carry (xs ys:List Nat) (a:Lim xs) (b:Lim ys) (i:Nat):(addP xs ys i).2≤1:=by
 induction i with
 | zero=>simp [addP]
 | succ i d =>
   have h1:=a.getD i
   have c:=b.getD i
   simp only [addP]
   omega
theorem val_take_succ (xs:List Nat) (i:Nat):val (xs.take (i+1))=val (xs.take i)+4294967296 ^ i * xs.getD i 0:=by
 by_cases h:i < xs.length
 · rw [List.take_succ_eq_append_getElem h,val_snoc,List.length_take,Nat.min_eq_left (by omega)]
   simp [List.getElem?_eq_getElem h]
 · rw [List.take_of_length_le (by omega),List.take_of_length_le (by omega)]
   simp [List.getElem?_eq_none (show xs.length≤i by omega)]
theorem addP_val (xs ys:List Nat) (i:Nat) :
 val (addP xs ys i).1+4294967296 ^ i * (addP xs ys i).2=val (xs.take i)+val (ys.take i):=by
 induction i with
 | zero=>simp [addP,val]
 | succ i a =>
   rw [val_take_succ,val_take_succ]
   simp only [addP]
   rw [val_snoc,addP_len,Nat.pow_succ]
   generalize (addP xs ys i).1=b at *
   generalize (addP xs ys i).2=c at *
   generalize xs.getD i 0=x at *
   generalize ys.getD i 0=y at *
   generalize (4294967296:Nat) ^ i=B at *
   have e:4294967296 * ((x+y+c) / 4294967296)+(x+y+c) % 4294967296=x+y+c:=Nat.div_add_mod _ _
   have:B * ((x+y+c) % 4294967296)+B * 4294967296 * ((x+y+c) / 4294967296)=B * x+B * y+B * c:=by
    rw [Nat.mul_assoc,← Nat.mul_add,Nat.add_comm,e,Nat.mul_add,Nat.mul_add]
   omega
theorem addP_all (xs ys:List Nat) (i:Nat) (a:xs.length≤i) (b:ys.length≤i) :
 val ((addP xs ys i).1++[(addP xs ys i).2])=val xs+val ys:=by
 rw [val_snoc,addP_len,addP_val,List.take_of_length_le a,List.take_of_length_le b]
def lowN (N:List Bool) (l:List Int):Nat:=l.countP fun s=>!nulB N s
theorem lowN_cons (N:List Bool) (s:Int) (l:List Int):lowN N (s::l)=lowN N [s]+lowN N l:=by
 unfold lowN
 rw [List.countP_cons,List.countP_cons,List.countP_nil]
 omega
theorem lowN_one (N:List Bool) (s:Int):lowN N [s]=if nulB N s then 0 else 1:=by
 unfold lowN
 rw [List.countP_cons,List.countP_nil]
 cases nulB N s <;> rfl
theorem forest_least {N:List Bool} {T:Int→Nat→Nat} (a:∀ s,T s 0 ≠ 0→nulB N s=true):∀ {l:List Int} {n:Nat},n < lowN N l→forestT T l n=0
 | [],n,h=>by simp [lowN] at h
 | s::l,n,h=>by
   unfold forestT
   rw [sumL_zero]
   intro k b
   have d:=List.mem_range.1 b
   rw [lowN_cons,lowN_one] at h
   rw [Nat.mul_eq_zero]
   by_cases h0:nulB N s=true
   · rw [if_pos h0] at h
     exact .inr (forest_least a (by omega))
   · rw [if_neg h0] at h
     rcases Nat.eq_zero_or_pos k with rfl | f
     · left
       apply Classical.byContradiction
       intro c
       exact h0 (a s c)
     · exact .inr (forest_least a (by omega))
theorem sum_cut {f:Nat→Nat} {b:Nat}:∀ {n hi:Nat},hi≤n→(∀ k,k < b→f k=0)→(∀ k,hi≤k→k < n→f k=0)→sumL ((List.range n).map f)=sumL ((List.range (hi - b)).map fun d=>f (b+d)):=by
 have l:∀ (m:Nat),sumL ((List.range (m+1)).map f)=sumL ((List.range m).map f)+f m:=fun m=>by
  rw [List.range_succ,List.map_append,sumL_append]
  simp [sumL]
 have p:∀ (m:Nat),sumL ((List.range (m+1)).map fun d=>f (b+d))=sumL ((List.range m).map fun d=>f (b+d))+f (b+m):=fun m=>by
  rw [List.range_succ,List.map_append,sumL_append]
  simp [sumL]
 intro n hi o h1 j
 have a:∀ m,hi+m≤n→sumL ((List.range (hi+m)).map f)=sumL ((List.range hi).map f):=by
  intro m
  induction m with
  | zero=>intro _;rfl
  | succ m g =>
    intro q
    rw [show hi+(m+1)=(hi+m)+1 by omega,l,g (by omega),j (hi+m) (by omega) (by omega),Nat.add_zero]
 have e:n=hi+(n - hi):=by omega
 rw [e,a (n - hi) (by omega)]
 clear a e o j
 rcases Nat.le_total hi b with h | h
 · rw [show hi - b=0 by omega]
   show _=0
   rw [sumL_zero]
   intro k c
   exact h1 k (by have:=List.mem_range.1 c;omega)
 · obtain ⟨d,rfl⟩:=Nat.exists_eq_add_of_le h
   rw [Nat.add_sub_cancel_left]
   induction d with
   | zero =>
     rw [Nat.add_zero]
     show _=0
     rw [sumL_zero]
     intro k c
     exact h1 k (List.mem_range.1 c)
   | succ d g=>rw [← Nat.add_assoc,l,p,g (by omega)]
theorem forest_split {N:List Bool} {T:Int→Nat→Nat} (b:∀ s,T s 0 ≠ 0→nulB N s=true) (s:Int) (l:List Int) (n:Nat) :
 forestT T (s::l) n=sumL ((List.range (n+1 - lowN N l - lowN N [s])).map fun d=>T s (lowN N [s]+d) * forestT T l (n - (lowN N [s]+d))):=by
 show sumL ((List.range (n+1)).map fun k=>T s k * forestT T l (n - k))=_
 refine sum_cut (f:=fun k=>T s k * forestT T l (n - k)) (n:=n+1) (hi:=n+1 - lowN N l) (by omega) (fun k a=>?_) fun k a g=>?_
 · rw [lowN_one] at a
   split at a
   · omega
   · rename_i h0
     obtain rfl:k=0:=by omega
     show T s 0 * _=0
     rw [Nat.mul_eq_zero]
     left
     apply Classical.byContradiction
     intro c
     exact h0 (b s c)
 · show T s k * _=0
   rw [forest_least b (by omega),Nat.mul_zero]
def capV (n:Nat):List Nat × Bool:=if n < big then (limbs n,false) else ([],true)
theorem capV_small {n:Nat} (h:n < big):capV n=(limbs n,false):=if_pos h
theorem capV_big {n:Nat} (h:¬ n < big):capV n=([],true):=if_neg h
theorem limbs_none {n:Nat}:(limbs n).length=0 ↔ n=0:=by
 constructor
 · intro h
   have h1:limbs n=[]:=List.eq_nil_of_length_eq_zero h
   have a:=val_limbs n
   rw [h1] at a
   exact a.symm
 · rintro rfl;rfl
end Go.Proofs.YtggbjdmpjidhgaaGreatDoor
