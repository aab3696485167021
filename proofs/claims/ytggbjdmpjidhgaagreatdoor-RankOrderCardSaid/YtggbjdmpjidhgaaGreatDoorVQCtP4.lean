/- counts, plainly: a forest symbol by symbol, from the last one on; rules together (no program in sight). -/
import Derived.Test.YtggbjdmpjidhgaaGreatDoorVQCyP9
import Derived.Test.YtggbjdmpjidhgaaGreatDoorVQCyW2
import Derived.Test.YtggbjdmpjidhgaaGreatDoorVQCyW6
import Derived.Test.YtggbjdmpjidhgaaGreatDoorVQKit
import Derived.Test.YtggbjdmpjidhgaaGreatDoorVQQuiet2
import Derived.Test.YtggbjdmpjidhgaaGreatDoorVQPs8
set_option linter.unusedVariables false
set_option linter.unusedSimpArgs false
set_option maxHeartbeats 8000000
set_option maxRecDepth 100000
namespace Go.Proofs.YtggbjdmpjidhgaaGreatDoor
open Go.RowKit
theorem sum_range_succ (f:Nat→Nat) (m:Nat):sumL ((List.range (m+1)).map f)=sumL ((List.range m).map f)+f m:=by
 rw [List.range_succ,List.map_append,sumL_append]
 simp [sumL]
theorem rulesT_snoc (T:Int→Nat→Nat) (a:List Rul) (r:Rul) (i n:Nat):rulesT T (a++[r]) i n=rulesT T a i n+(if r.left.toNat=i then forestT T r.right n else 0):=by
 unfold rulesT
 rw [List.filter_append,List.map_append,sumL_append]
 by_cases h:r.left.toNat=i
 · simp [h,sumL]
 · simp [h,sumL]
theorem red_use {G:Gr} (g:G.right=true) (f:(prodN G).getD G.start.toNat false=true) {j:Nat} (c:j < (redG G).nons.length):(useS (redG G)).testBit j=true:=by
 have b:=Gr.fits g
 have a:=Gr.fits (red_right g f)
 rw [red_nons] at c
 have d:=List.getElem?_eq_getElem c
 have hi:=List.mem_of_getElem? d
 have h:=sig_get d
 rw [← h]
 exact (useS_bit _ a _).2 ⟨red_prod b a hi,red_reach b a f hi⟩
theorem reduced_plain {G:Gr} (a:G.right=true) (f:(prodN G).getD G.start.toNat false=true) (hi:redG G=G) (d:cycG G=0):Plain G∧endG G=false∧Ordered G (orderS (stepsN G) (useS G) G.nons.length G.nons.length).1:=by
 have c:∀ i,i < G.nons.length→(useS G).testBit i=true:=fun i h=>by
  have:=red_use a f (j:=i) (by rw [hi];exact h)
  rwa [hi] at this
 obtain ⟨h1,b⟩:=plain_of a c d
 exact ⟨h1,b,order_serves a c b⟩
theorem low_zero {N:List Bool} {l:List Int} (h:lowN N l=0):∀ s ∈ l,nulB N s=true:=by
 intro s a
 unfold lowN at h
 rw [List.countP_eq_zero] at h
 have:=h s a
 simpa using this
theorem rule_down {G:Gr} (b:Plain G) {r:Rul} (d:r ∈ G.rules) {a:Nat} {q:Int} (l:r.right[a]? = some q) (o:q < 0) {n m k:Nat} (z:m≤n)
 (j:m=n→∀ (p:Nat) s,p < a→r.right[p]? = some s→nulB (nullN G) s=true) (x:k+lowN (nullN G) (r.right.drop (a+1))≤m) {s:Int} (t:nonI s=r.left.toNat):mu G k q < mu G n s:=by
 have h1:=close_small G (nonI q)
 have y:=b.fits.left r d
 unfold mu
 rcases Nat.lt_or_ge k n with h | h
 · omega
 · obtain rfl:k=n:=by omega
   obtain rfl:m=k:=by omega
   have v:lowN (nullN G) (r.right.drop (a+1))=0:=by omega
   have u:=alone_step b d l o fun p g A f=>by
    rcases Nat.lt_or_ge p a with c | c
    · exact j rfl p g c f
    · refine low_zero v g (List.mem_of_getElem? (i:=p - (a+1)) ?_)
      rw [List.getElem?_drop,show a+1+(p - (a+1))=p by omega]
      exact f
   have:=step_down b (i:=r.left.toNat) (by omega) u
   rw [t]
   omega
theorem rule_next {G:Gr} (c:Plain G) {r:Rul} {a:Nat} {q:Int} (f:r.right[a]? = some q) {n m k:Nat} (o:m≤n) (l:k≤m)
 (d:m=n→∀ (p:Nat) s,p < a→r.right[p]? = some s→nulB (nullN G) s=true) (g:treeN G q k ≠ 0):m - k=n→∀ (p:Nat) s,p < a+1→r.right[p]? = some s→nulB (nullN G) s=true:=by
 intro j p s t b
 rcases (by omega:p < a∨p=a) with h | rfl
 · exact d (by omega) p s h b
 · rw [f] at b
   obtain rfl:=Option.some.inj b
   obtain rfl:k=0:=by omega
   exact treeN_null c g
def splitN (T:Int→Nat→Nat) (s:Int) (l:List Int) (n a d:Nat):Nat:=sumL ((List.range d).map fun e=>T s (a+e) * forestT T l (n - (a+e)))
theorem splitN_succ (T:Int→Nat→Nat) (s:Int) (l:List Int) (n a d:Nat):splitN T s l n a (d+1)=splitN T s l n a d+T s (a+d) * forestT T l (n - (a+d)):=by
 unfold splitN
 rw [sum_range_succ (fun e=>T s (a+e) * forestT T l (n - (a+e)))]
theorem splitN_all {N:List Bool} {T:Int→Nat→Nat} (a:∀ s,T s 0 ≠ 0→nulB N s=true) (s:Int) (l:List Int) (n:Nat):splitN T s l n (lowN N [s]) (n+1 - lowN N l - lowN N [s])=forestT T (s::l) n:=(forest_split a s l n).symm
theorem nodup_len {α:Type} [BEq α] [LawfulBEq α]:∀ {l m:List α},l.Nodup→(∀ x ∈ l,x ∈ m)→l.length≤m.length
 | [],_,_,_=>Nat.zero_le _
 | x::l,m,h,hs=>by
   rw [List.nodup_cons] at h
   have a:x ∈ m:=hs x (by simp)
   have:=nodup_len (l:=l) (m:=m.erase x) h.2 fun y b=>by
    have c:y ≠ x:=fun e=>h.1 (e ▸ b)
    exact (List.mem_erase_of_ne c).2 (hs y (by simp [b]))
   rw [List.length_erase_of_mem a] at this
   have:0 < m.length:=List.length_pos_of_mem a
   rw [List.length_cons]
   omega
def cutT (tab:Nat→Nat→Nat) (a:List Nat) (m p:Nat):Nat→Nat→Nat:=fun k i=>if k < m then tab k i else if k=m∧(a.take p).contains i=true then tab k i else 0
def chkT (G:Gr) (a:List Nat) (tab:Nat→Nat→Nat) (n:Nat):Bool :=
 (List.range (n+1)).all fun m=>(List.range a.length).all fun p=>Nat.beq (rulesT (tabT (cutT tab a m p)) G.rules (a.getD p 0) m) (tab m (a.getD p 0))
def chkO (G:Gr) (a:List Nat):Bool :=
 (List.range G.nons.length).all (fun i=>a.contains i) && a.all (fun i=>decide (i < G.nons.length)) &&
   (List.range a.length).all fun p=>(List.range G.nons.length).all fun t=>!((stepsN G).getD (a.getD p 0) 0).testBit t || (a.take p).contains t
theorem chkO_ordered {G:Gr} (g:G.Fits) {a:List Nat} (h:chkO G a=true):Ordered G a:=by
 unfold chkO at h
 simp only [Bool.and_eq_true,List.all_eq_true,List.mem_range,decide_eq_true_eq,List.contains_iff_mem,Bool.or_eq_true,Bool.not_eq_true'] at h
 obtain ⟨⟨h1,d⟩,f⟩:=h
 refine ⟨d,fun p i hi t b=>?_,fun i hi=>h1 i hi⟩
 have j:p < a.length:=(List.getElem?_eq_some_iff.1 hi).1
 have e:a.getD p 0=i:=by rw [List.getD_eq_getElem?_getD,hi];rfl
 have c:=stepsN_in G g i t b
 rw [stepsN_len] at c
 rcases f p j t c with h | h
 · rw [e,b] at h;cases h
 · exact h
theorem cut_zero (tab:Nat→Nat→Nat) (a:List Nat):cutT tab a 0 0=fun _ _=>0:=by
 funext k i
 unfold cutT
 rw [if_neg (by omega),if_neg]
 rintro ⟨_,h⟩
 simp at h
theorem chk_told {G:Gr} (v:Plain G) {a:List Nat} (f:Ordered G a) {tab:Nat→Nat→Nat} {n:Nat} (h:chkT G a tab n=true):∀ k,k≤n→∀ i,i < G.nons.length→tab k i=treeN G (-1 - (i:Int)) k:=by
 unfold chkT at h
 simp only [List.all_eq_true,List.mem_range] at h
 have row:∀ m,m≤n→Told G a (cutT tab a m 0) m 0→∀ p,p≤a.length→Told G a (cutT tab a m p) m p:=by
  intro m x h0 p
  induction p with
  | zero=>intro _;exact h0
  | succ p q =>
    intro y
    have t:=q (by omega)
    have hi:a[p]? = some (a[p]'(by omega)):=List.getElem?_eq_getElem (by omega)
    have e:a.getD p 0=a[p]'(by omega):=by rw [List.getD_eq_getElem?_getD,hi];rfl
    have r:=Nat.eq_of_beq_eq_true (h m (by omega) p (by omega))
    rw [e,t.next v f hi] at r
    have s:=t.put hi (tab m (a[p]'(by omega))) r.symm
    have u:putTab (cutT tab a m p) m (a[p]'(by omega)) (tab m (a[p]'(by omega)))=cutT tab a m (p+1):=by
     funext k j
     unfold putTab cutT
     have o:a.take (p+1)=a.take p++[a[p]'(by omega)]:=by rw [List.take_add_one,hi];rfl
     by_cases c:k < m
     · rw [if_neg (by omega),if_pos c,if_pos c]
     · rw [if_neg c,if_neg c]
       by_cases d:k=m
       · subst d
         by_cases l:j=a[p]'(by omega)
         · subst l
           rw [if_pos ⟨rfl,rfl⟩,if_pos ⟨rfl,by rw [List.contains_iff_mem,o];exact List.mem_append_right _ (List.mem_singleton.2 rfl)⟩]
         · rw [if_neg fun b=>l b.2]
           by_cases g:(a.take p).contains j=true
           · rw [if_pos ⟨rfl,g⟩,if_pos ⟨rfl,by rw [List.contains_iff_mem] at g ⊢;rw [o];exact List.mem_append_left _ g⟩]
           · rw [if_neg fun b=>g b.2,if_neg fun b=>g ?_]
             have:=b.2
             rw [List.contains_iff_mem,o,List.mem_append,List.mem_singleton] at this
             rw [List.contains_iff_mem]
             exact this.resolve_right l
       · rw [if_neg fun b=>d b.1,if_neg fun b=>d b.1,if_neg fun b=>d b.1]
    rw [u] at s
    exact s
 have all:∀ m,m≤n→Told G a (cutT tab a m 0) m 0:=by
  intro m
  induction m with
  | zero=>intro _;rw [cut_zero];exact Told.start G a
  | succ m q =>
    intro x
    have h1:=row m (by omega) (q (by omega)) a.length (Nat.le_refl _)
    refine ⟨fun k c i hi=>?_,fun i hi=>by simp at hi,fun i _=>?_⟩
    · rcases (by omega:k < m∨k=m) with d | rfl
      · have:=h1.low k d i hi
        unfold cutT at this ⊢
        rw [if_pos d] at this
        rw [if_pos (by omega)]
        exact this
      · have:=h1.now i (by rw [List.take_length];exact f.all i hi)
        unfold cutT at this ⊢
        rw [if_neg (by omega),if_pos ⟨rfl,by simpa using f.all i hi⟩] at this
        rw [if_pos (by omega)]
        exact this
    · unfold cutT
      rw [if_neg (by omega),if_neg]
      rintro ⟨_,h⟩
      simp at h
 intro k c i hi
 have h1:=row k c (all k c) a.length (Nat.le_refl _)
 have:=h1.now i (by rw [List.take_length];exact f.all i hi)
 unfold cutT at this
 rw [if_neg (by omega),if_pos ⟨rfl,by simpa using f.all i hi⟩] at this
 exact this
def ordG (G:Gr):List Nat × Int:=if G.right then (if endG G then ([],10) else ((orderS (stepsN G) (useS G) G.nons.length G.nons.length).1,0)) else ([],1)
def RetOrd (G:Gr) (w:World) (e:Ending) (w':World):Prop:=Below w.heap.size w w'∧∃ A c,e = .returned (.tuple #[.slice A (ordG G).1.length c, .int .i64 (ordG G).2])∧Ints .i64 w' A (ordG G).1.length c (intsOf (ordG G).1)
theorem RetOrd.fail {G:Gr} {w w':World} {a:Int} (h:ordG G=([],a)) (b:Below w.heap.size w w'):RetOrd G w (.returned (.tuple #[.slice none 0 0, .int .i64 a])) w':=by
 unfold RetOrd
 rw [h]
 exact ⟨b,none,0,rfl,own_sl (World.ownsRow_nil _ 0 3 1)⟩
section
variable {P:Program}
def InvSteps (P:Program) (ops:Array Oper) (Q:Exit→Act→World→Prop) (J:Array Bool→Act→World→Prop):Nat→List Oper→Prop
 | _,[]=>True
 | i,o::rest=>(∀ (listed:Array Bool) (a:Act) (w:World),J listed a w→listed.getD i true=false→(∀ e ∈ o.after,Region.binds .any e=true→listed.getD e.on false=true) →
    ∀ K:Act→World→Prop,(∀ b w',J (listed.setIfInBounds i true) b w'→K b w')→if Region.wanted o (yielded ops a.tmps) then o.wp P a w K Q else K (a.put o.dst undef) w)∧InvSteps P ops Q J (i+1) rest
theorem InvSteps.nil {ops:Array Oper} {Q:Exit→Act→World→Prop} {J:Array Bool→Act→World→Prop} {i:Nat}:InvSteps P ops Q J i []:=trivial
theorem InvSteps.cons {ops:Array Oper} {Q:Exit→Act→World→Prop} {J:Array Bool→Act→World→Prop} {i:Nat} {o:Oper} {rest:List Oper}
 (h:∀ (listed:Array Bool) (a:Act) (w:World),J listed a w→listed.getD i true=false→(∀ e ∈ o.after,Region.binds .any e=true→listed.getD e.on false=true) →
   ∀ K:Act→World→Prop,(∀ b w',J (listed.setIfInBounds i true) b w'→K b w')→if Region.wanted o (yielded ops a.tmps) then o.wp P a w K Q else K (a.put o.dst undef) w)
 (t:InvSteps P ops Q J (i+1) rest):InvSteps P ops Q J i (o::rest):=⟨h,t⟩
theorem InvSteps.at {ops:Array Oper} {Q:Exit→Act→World→Prop} {J:Array Bool→Act→World→Prop}:∀ {l:List Oper} {i k:Nat} {o:Oper},InvSteps P ops Q J i l→l[k]? = some o →
 (∀ (listed:Array Bool) (a:Act) (w:World),J listed a w→listed.getD (i+k) true=false→(∀ e ∈ o.after,Region.binds .any e=true→listed.getD e.on false=true) →
   ∀ K:Act→World→Prop,(∀ c w',J (listed.setIfInBounds (i+k) true) c w'→K c w')→if Region.wanted o (yielded ops a.tmps) then o.wp P a w K Q else K (a.put o.dst undef) w)
 | [],i,k,o,_,b=>by simp at b
 | q::l,i,0,o,h,b=>by
   have e:q=o:=by simpa using b
   subst e
   exact h.1
 | q::l,i,k+1,o,h,b=>by
   have:=InvSteps.at h.2 (by simpa using b:l[k]? = some o)
   rw [show i+(k+1)=i+1+k by omega]
   exact this
def backB (ops:Array Oper):Bool:=(List.range ops.size).all fun i=>((ops[i]?).map fun o=>o.after.all fun e=>decide (e.on < i)).getD true
def leftN (n:Nat) (listed:Array Bool):Nat:=((List.range n).filter fun i=>!listed.getD i true).length
theorem left_less {n i:Nat} {listed:Array Bool} (hi:i < n) (b:listed.getD i true=false):leftN n (listed.setIfInBounds i true) < leftN n listed:=by
 unfold leftN
 have c:i < listed.size:=by
  rcases Nat.lt_or_ge i listed.size with h | h
  · exact h
  · simp [Array.getD,Nat.not_lt.2 h] at b
 have e:((List.range n).filter fun j=>!(listed.setIfInBounds i true).getD j true)=(((List.range n).filter fun j=>!listed.getD j true).filter fun j=>decide (j ≠ i)):=by
  rw [List.filter_filter]
  apply List.filter_congr
  intro j _
  by_cases a:i=j
  · subst a
    simp [Array.getD,c]
  · rw [getD_set_ne true a]
    simp [Ne.symm a]
 rw [e,List.length_filter_lt_length_iff_exists]
 exact ⟨i,List.mem_filter.2 ⟨List.mem_range.2 hi,by simp [b]⟩,by simp⟩
theorem ready_none {ops:Array Oper} {listed:Array Bool} (f:backB ops=true) (h:Region.ready .any ops listed=[]):∀ i,i < ops.size→listed.getD i true=true:=by
 intro i
 induction i using Nat.strongRecOn with
 | ind i k =>
   intro hi
   cases b:listed.getD i true with
   | true=>rfl
   | false =>
     exfalso
     have a:i ∈ Region.ready .any ops listed:=by
      refine mem_ready.2 ⟨b,ops[i],Array.getElem?_eq_getElem hi,fun e g _=>?_⟩
      have h1:=List.all_eq_true.1 f i (List.mem_range.2 hi)
      rw [Array.getElem?_eq_getElem hi,Option.map_some,Option.getD_some,Array.all_eq_true_iff_forall_mem] at h1
      have c:=of_decide_eq_true (h1 e g)
      have d:=k e.on c (by omega)
      have l:i < listed.size:=by
       rcases Nat.lt_or_ge i listed.size with h | h
       · exact h
       · simp [Array.getD,Nat.not_lt.2 h] at b
      have j:e.on < listed.size:=by omega
      simpa [Array.getD,j] using d
     rw [h] at a
     cases a
theorem any_of_inv {ops:Array Oper} {Q:Exit→Act→World→Prop} {J:Array Bool→Act→World→Prop} (g:backB ops=true)
 (l:∀ i o,ops[i]? = some o→∀ (listed:Array Bool) (a:Act) (w:World),J listed a w→listed.getD i true=false→(∀ e ∈ o.after,Region.binds .any e=true→listed.getD e.on false=true) →
   ∀ K:Act→World→Prop,(∀ c w',J (listed.setIfInBounds i true) c w'→K c w')→if Region.wanted o (yielded ops a.tmps) then o.wp P a w K Q else K (a.put o.dst undef) w)
 (j:∀ (listed:Array Bool) (a:Act) (w:World),J listed a w→(∀ i,i < ops.size→listed.getD i true=true)→Q .normal a w) :
 ∀ (fuel:Nat) (listed:Array Bool) (a:Act) (w:World),leftN ops.size listed≤fuel→J listed a w→wpAny P .any ops Q fuel listed a w
 | 0,listed,a,w,hl,hJ=>by
   have d:Region.ready .any ops listed=[]:=by
    rw [List.eq_nil_iff_forall_not_mem]
    intro i hi
    obtain ⟨f,o,b,_⟩:=mem_ready.1 hi
    have:=left_less (n:=ops.size) (Array.getElem?_eq_some_iff.1 b).1 f
    omega
   exact ⟨d,j listed a w hJ (ready_none g d)⟩
 | fuel+1,listed,a,w,hl,hJ=>by
   refine ⟨fun d=>j listed a w hJ (ready_none g d),fun i hi=>?_⟩
   obtain ⟨f,o,b,m⟩:=mem_ready.1 hi
   have p:=left_less (n:=ops.size) (Array.getElem?_eq_some_iff.1 b).1 f
   have h1:=l i o b listed a w hJ f m (wpAny P .any ops Q fuel (listed.setIfInBounds i true)) (fun c w' h=>any_of_inv g l j fuel _ c w' (by omega) h)
   unfold wpOp
   simp only [b]
   split
   · rename_i k
     rw [if_pos k] at h1
     exact .inl h1
   · rename_i k
     rw [if_neg k] at h1
     exact h1
theorem wp_region_inv {id:Nat} {Q:Exit→Act→World→Prop} {a:Act} {w:World} {l:List Oper} (J:Array Bool→Act→World→Prop) (j:P.follows .mixedOrders=true) (f:backB l.toArray=true)
 (h0:J (Array.replicate l.length false) a w.drew) (p:InvSteps P l.toArray Q J 0 l)
 (g:∀ (listed:Array Bool) (a:Act) (w:World),J listed a w→(∀ i,i < l.length→listed.getD i true=true)→Q .normal a w):(Code.region id l.toArray true).wp P Q a w:=by
 refine wp_region_any j ?_
 refine any_of_inv f (fun i o m listed a w b q n K d=>?_) (fun listed a w b h=>g listed a w b fun i hi=>h i (by simpa using hi)) _ _ _ _ ?_ (by simpa using h0)
 · have:=InvSteps.at (k:=i) p (by simpa using m) listed a w b (by rw [Nat.zero_add];exact q) n K (fun c w' h=>d c w' (by rw [Nat.zero_add] at h;exact h))
   exact this
 · exact Nat.le_trans (List.length_filter_le _ _) (by simp)
end
structure Off (S:Nat→Prop) (w w':World):Prop where
 os:w'.os=w.os
 tape:w'.tape=w.tape
 output:w'.output=w.output
 size:w.heap.size≤w'.heap.size
 keep:∀ k,k < w.heap.size→¬ S k→w'.heap[k]? = w.heap[k]?
theorem Off.refl (S:Nat→Prop) (w:World):Off S w w:=⟨rfl,rfl,rfl,Nat.le_refl _,fun _ _ _=>rfl⟩
theorem Off.trans {S T:Nat→Prop} {a b c:World} (x:Off S a b) (y:Off T b c) (h:∀ k,k < a.heap.size→T k→S k):Off S a c :=
 ⟨y.os.trans x.os,y.tape.trans x.tape,y.output.trans x.output,Nat.le_trans x.size y.size,fun k d f=>(y.keep k (Nat.lt_of_lt_of_le d x.size) fun g=>f (h k d g)).trans (x.keep k d f)⟩
theorem Off.of_below {S:Nat→Prop} {w w':World} (h:Below w.heap.size w w'):Off S w w':=⟨h.os,h.tape,h.output,h.size,fun k a _=>h.block k a⟩
theorem Off.of_grown {w w':World} {r:Option Nat} (h:w.grownBy w' r):Off (fun k=>r=some k) w w':=⟨h.os,h.tape,h.output,h.size,fun k a b=>h.block k a fun e=>b e.symm⟩
theorem Off.of_set (w:World) (g i:Nat) (v:Value):Off (fun k=>k=g) w (w.setCell ⟨g,i,none⟩ v):=⟨rfl,rfl,rfl,by simp,fun k _ a=>Below.heap_setCell w ⟨g,i,none⟩ v k a⟩
theorem Off.is_below {S:Nat→Prop} {w w':World} {B:Nat} (x:Off S w w') (a:B≤w.heap.size) (b:∀ k,S k→B≤k):Below B w w' :=
 ⟨x.os,x.tape,x.output,x.size,fun k c=>x.keep k (Nat.lt_of_lt_of_le c a) fun d=>by have:=b k d;omega⟩
theorem Off.blk {S:Nat→Prop} {w w':World} {g:Nat} {t:TypeId} {cs:Array Value} (x:Off S w w') (a:Blk w g t cs) (b:¬ S g):Blk w' g t cs:=(x.keep g a.lt b).trans a
theorem Off.row {S:Nat→Prop} {w w':World} {base e size n c:Nat} {A:Option Addr} {xs:List Value} (x:Off S w w') (h:w.ownsRow base e size (.slice A n c) n xs) (f:∀ b,(Value.slice A n c).ownBlock=some b→¬ S b):w'.ownsRow base e size (.slice A n c) n xs :=
 own_keep h fun b a d=>x.keep b d (f b a)
theorem own_typed {w:World} {base e size n c:Nat} {A:Option Addr} {xs:List Value} (h:w.ownsRow base e size (.slice A n c) n xs) {b:Nat} (d:(Value.slice A n c).ownBlock=some b):∃ cs f,w.heap[b]? = some (.cells cs e f):=by
 rcases h.2 with ⟨a,rfl⟩ | ⟨g,cap,k,a,l,j,p,m,o,q⟩
 · injection a with h1 h2 h3
   subst h1
   cases d
 · injection a with h1 h2 h3
   subst h1
   have:g=b:=by simpa [Value.ownBlock] using d
   subst this
   exact ⟨_,_,j⟩
theorem own_apart {w:World} {base e size n c base' j p d g:Nat} {A f:Option Addr} {xs q:List Value} (h:w.ownsRow base e size (.slice A n c) n xs) (k:w.ownsRow base' j p (.slice f d g) d q) (o:e ≠ j) {b:Nat}
 (l:(Value.slice A n c).ownBlock=some b) (m:(Value.slice f d g).ownBlock=some b):False:=by
 obtain ⟨cs,s,h1⟩:=own_typed h l
 obtain ⟨r,t,a⟩:=own_typed k m
 rw [h1] at a
 injection a with a
 injection a with _ h3 _
 exact o h3
theorem offX {w a b:World} {g r:Nat} (h:Off (fun k=>k=g) w a) (c:Off (fun k=>k=r) a b):Off (fun k=>k=g∨k=r) w b :=
 (Off.trans (S:=fun k=>k=g∨k=r) ⟨h.os,h.tape,h.output,h.size,fun k d f=>h.keep k d fun e=>f (.inl e)⟩ c fun _ _ e => .inr e)
def toL (n:Nat) (o:List Nat):List Int:=(List.range n).map fun i=>toI o i
theorem toL_len (n:Nat) (o:List Nat):(toL n o).length=n:=by simp [toL]
theorem toL_get {n:Nat} {o:List Nat} {i:Nat} (hi:i < n):(toL n o)[i]? = some (toI o i):=by simp [toL,hi]
theorem toI_last {o:List Nat} {i:Nat} (h:i ∉ o):toI (o++[i]) i=(o.length:Int):=by
 unfold toI
 refine findI_at (x:=i) (by simp) (by simp) fun j b y a=>?_
 rw [List.getElem?_append_left b] at a
 rw [decide_eq_false_iff_not]
 rintro rfl
 exact h (List.mem_of_getElem? a)
theorem toL_set {n:Nat} {o:List Nat} {i:Nat} (hi:i ∉ o):(toL n o).set i (o.length:Int)=toL n (o++[i]):=by
 refine List.ext_getElem? fun j=>?_
 rw [List.getElem?_set]
 by_cases b:j < n
 · rw [toL_get b,toL_len,toL_get b]
   split
   · rename_i a
     subst a
     rw [if_pos b,toI_last hi]
   · rename_i a
     rw [toI_app_ne o (fun h=>a h.symm)]
 · have c:(toL n o)[j]? = none:=List.getElem?_eq_none (by rw [toL_len];omega)
   have d:(toL n (o++[i]))[j]? = none:=List.getElem?_eq_none (by rw [toL_len];omega)
   rw [c,d,toL_len]
   split
   · rename_i a;rw [if_neg (by omega)]
   · rfl
structure Red2 (W0:World) (gO gT n:Nat) (v1:Value) (G:Gr) (w:World) (Ak:Option Addr) (ck:Nat) (An:Option Addr) (cn:Nat) (ks old:List Nat):Prop where
 off:Off (fun k=>k=gT∨k=gO) W0 w
 tos:Blk w gT 3 (ints .i64 (toL n old)).toArray
 out:Blk w gO 26 #[v1, .slice An old.length cn, .slice none 0 0, .int .i64 0]
 kept:w.ownsRow W0.heap.size 3 1 (.slice Ak ks.length ck) ks.length (ints .i64 (intsOf ks))
 nons:w.ownsRow W0.heap.size 9 1 (.slice An old.length cn) old.length (old.map fun i=>Value.string (nameO G i))
theorem Red2.below {l:World} {c d n:Nat} {s:Value} {G:Gr} {w w':World} {g:Option Addr} {m:Nat} {j:Option Addr} {o:Nat} {p q:List Nat} (r:Red2 l c d n s G w g m j o p q) (a:Below w.heap.size w w'):Red2 l c d n s G w' g m j o p q :=
 ⟨r.off.trans (Off.of_below (S:=fun k=>k=d∨k=c) a) fun _ _ h=>h,Blk.ext r.tos a,Blk.ext r.out a,own_keep r.kept fun b _ f=>a.block b f,own_keep r.nons fun b _ f=>a.block b f⟩
theorem Red2.name {f:World} {g d n:Nat} {C:Value} {G:Gr} {w w1:World} {o:Option Addr} {q:Nat} {p:Option Addr} {s:Nat} {v a:List Nat} (r:Red2 f g d n C G w o q p s v a)
 (L:d < f.heap.size) (J:g < f.heap.size) (z:d ≠ g) {l:Nat} (H:l ∉ a) (j:Option Addr) (m:Nat)
 (B:w1.ownsRow f.heap.size 9 1 (.slice j (a.length+1) m) (a.length+1) ((a.map fun i=>Value.string (nameO G i))++[.string (nameO G l)]))
 (F:(w.setCell ⟨d,l,none⟩ (.int .i64 (a.length:Int))).grownBy w1 (Value.slice p a.length s).ownBlock) :
 Red2 f g d n C G (w1.setCell ⟨g,1,none⟩ (.slice j (a.length+1) m)) o q j m v (a++[l]):=by
 have t:=Off.of_grown F
 have y:=Off.of_set w d l (.int .i64 (a.length:Int))
 have u:=Off.of_set w1 g 1 (.slice j (a.length+1) m)
 have x:∀ b,(Value.slice p a.length s).ownBlock=some b→f.heap.size≤b:=fun b c=>(r.nons.lt b c).1
 have A:∀ b,(Value.slice o v.length q).ownBlock=some b→f.heap.size≤b:=fun b c=>(r.kept.lt b c).1
 have E:∀ b,(Value.slice o v.length q).ownBlock=some b→(Value.slice p a.length s).ownBlock=some b→False:=fun b h1 D=>own_apart r.kept r.nons (by decide) h1 D
 have I:Blk (w.setCell ⟨d,l,none⟩ (.int .i64 (a.length:Int))) d 3 (ints .i64 (toL n (a++[l]))).toArray:=by
  have:=Blk.set r.tos l (.int .i64 (a.length:Int))
  have e:(ints .i64 (toL n a)).toArray.setIfInBounds l (.int .i64 (a.length:Int))=(ints .i64 (toL n (a++[l]))).toArray:=by
   rw [← toL_set H]
   simp [ints,List.map_set]
  rw [e] at this
  exact this
 refine ⟨((r.off.trans y fun k _ h => .inl h).trans t fun k M h=>?_).trans u fun k _ h => .inr h,u.blk (t.blk I fun h=>?_) z,?_,?_,?_⟩
 · have:=x k h;omega
 · have:=x d h;omega
 · have h1:=t.blk (y.blk r.out fun h=>z h.symm) fun h=>by have:=x g h;omega
   have:=Blk.set h1 1 (.slice j (a.length+1) m)
   rw [List.length_append,List.length_singleton]
   exact this
 · exact u.row (t.row (y.row r.kept fun b c h=>by have:=A b c;omega) fun b c h=>E b c h) fun b c h=>by have:=A b c;omega
 · rw [List.length_append,List.length_singleton,List.map_append]
   refine u.row B fun b c h=>?_
   have:=(B.lt b c).1
   omega
structure Red3 (W0:World) (gO:Nat) (v1 v2:Value) (w:World) (A3:Option Addr) (c3:Nat) (rs:List Rul):Prop where
 off:Off (fun k=>k=gO) W0 w
 out:Blk w gO 26 #[v1,v2, .slice A3 rs.length c3, .int .i64 0]
 rules:∃ cs,w.ownsRow W0.heap.size 52 3 (.slice A3 rs.length c3) rs.length cs∧RulCs w (fun b=>W0.heap.size≤b∧(Value.slice A3 rs.length c3).ownBlock ≠ some b) cs rs
theorem Red3.below {f:World} {c:Nat} {j l:Value} {w w':World} {d:Option Addr} {c3:Nat} {g:List Rul} (r:Red3 f c j l w d c3 g) (a:Below w.heap.size w w'):Red3 f c j l w' d c3 g:=by
 obtain ⟨cs,h1,m⟩:=r.rules
 exact ⟨r.off.trans (Off.of_below (S:=fun k=>k=c) a) fun _ _ h=>h,Blk.ext r.out a,cs,own_keep h1 fun b _ p=>a.block b p,m.keep a.size fun k o n=>⟨a.block k o,n⟩⟩
theorem Red3.put {c:World} {j:Nat} {u v:Value} {w w1:World} {f:Option Addr} {c3:Nat} {a:List Rul} (r:Red3 c j u v w f c3 a) (E:j < c.heap.size) (q:Rul) {Ar:Option Addr} {cr:Nat}
 (C:Ints .i64 w Ar q.right.length cr q.right) (z:∀ b D,Ar=some ⟨b,D,none⟩→b < w.heap.size∧c.heap.size≤b∧(Value.slice f a.length c3).ownBlock ≠ some b) (d:Option Addr) (g:Nat)
 (B:∀ cs,w.ownsRow c.heap.size 52 3 (.slice f a.length c3) a.length cs→w1.ownsRow c.heap.size 52 3 (.slice d (a.length+1) g) (a.length+1) (cs++[.int .i64 q.left, .slice Ar q.right.length cr, .int .i64 q.prec]))
 (A:w.grownBy w1 (Value.slice f a.length c3).ownBlock) (l:∀ b,(Value.slice d (a.length+1) g).ownBlock=some b→b < w.heap.size→(Value.slice f a.length c3).ownBlock=some b) :
 Red3 c j u v (w1.setCell ⟨j,2,none⟩ (.slice d (a.length+1) g)) d g (a++[q]):=by
 obtain ⟨cs,h1,x⟩:=r.rules
 have m:=Off.of_grown A
 have o:=Off.of_set w1 j 2 (.slice d (a.length+1) g)
 have s:∀ b,(Value.slice f a.length c3).ownBlock=some b→c.heap.size≤b:=fun b l=>(h1.lt b l).1
 have t:=B cs h1
 refine ⟨(r.off.trans m fun k n h=>?_).trans o fun k _ h=>h,?_,cs++[.int .i64 q.left, .slice Ar q.right.length cr, .int .i64 q.prec],?_,?_⟩
 · have:=s k h;omega
 · have y:=m.blk r.out fun h=>by have:=s j h;omega
   have:=Blk.set y 2 (.slice d (a.length+1) g)
   rw [List.length_append,List.length_singleton]
   exact this
 · rw [List.length_append,List.length_singleton]
   refine o.row t fun b l h=>?_
   have:=(t.lt b l).1
   omega
 · rw [List.length_append,List.length_singleton]
   refine (x.snoc q C z).keep (by have:=m.size;have:=o.size;omega) fun k n p=>⟨(o.keep k (Nat.lt_of_lt_of_le n m.size) fun h=>by omega).trans (m.keep k n p.2),p.1,fun e=>p.2 (l k e n)⟩
def keepI (G:Gr) (i:Nat):Bool:=match G.rules[i]? with
 | some r=>keepB (prodN G) (reachN G) r
 | none=>false
def ksN (G:Gr) (j:Nat):List Nat:=(List.range j).filter (keepI G)
def keptT (G:Gr) (j:Nat):List Rul:=(G.rules.take j).filter (keepB (prodN G) (reachN G))
theorem ksN_yes {G:Gr} {j:Nat} {r:Rul} (a:G.rules[j]? = some r) (h:keepB (prodN G) (reachN G) r=true):ksN G (j+1)=ksN G j++[j]∧keptT G (j+1)=keptT G j++[r]:=by
 have b:keepI G j=true:=by unfold keepI;rw [a];exact h
 constructor
 · unfold ksN
   rw [List.range_succ,List.filter_append]
   simp [b]
 · unfold keptT
   rw [take_snoc' a,List.filter_append]
   simp [h]
theorem ksN_no {G:Gr} {j:Nat} {r:Rul} (a:G.rules[j]? = some r) (h:keepB (prodN G) (reachN G) r=false):ksN G (j+1)=ksN G j∧keptT G (j+1)=keptT G j:=by
 have b:keepI G j=false:=by unfold keepI;rw [a];exact h
 constructor
 · unfold ksN
   rw [List.range_succ,List.filter_append]
   simp [b]
 · unfold keptT
   rw [take_snoc' a,List.filter_append]
   simp [h]
theorem ks_rules (G:Gr):∀ j,j≤G.rules.length→(ksN G j).length=(keptT G j).length∧∀ q i:Nat,(ksN G j)[q]? = some i→∃ r,G.rules[i]? = some r∧(keptT G j)[q]? = some r
 | 0,_=>⟨rfl,fun q i h=>by simp [ksN] at h⟩
 | j+1,hj=>by
   obtain ⟨h1,f⟩:=ks_rules G j (by omega)
   have b:G.rules[j]? = some (G.rules[j]'(by omega)):=List.getElem?_eq_getElem _
   generalize G.rules[j]=r at b
   cases g:keepB (prodN G) (reachN G) r with
   | false =>
     obtain ⟨c,d⟩:=ksN_no b g
     rw [c,d]
     exact ⟨h1,f⟩
   | true =>
     obtain ⟨c,d⟩:=ksN_yes b g
     rw [c,d]
     refine ⟨by simp [h1],fun q i a=>?_⟩
     rcases Nat.lt_trichotomy q (ksN G j).length with l | k | m
     · rw [List.getElem?_append_left l] at a
       rw [List.getElem?_append_left (by omega)]
       exact f q i a
     · subst k
       rw [List.getElem?_append_right (Nat.le_refl _),Nat.sub_self] at a
       have:j=i:=by simpa using a
       subst this
       refine ⟨r,b,?_⟩
       rw [h1,List.getElem?_append_right (Nat.le_refl _),Nat.sub_self]
       rfl
     · rw [List.getElem?_eq_none (by simp;omega)] at a
       cases a
theorem keptT_all (G:Gr):keptT G G.rules.length=keptR G:=by unfold keptT keptR;rw [List.take_length]
theorem ks_lt {G:Gr} {j i:Nat} (h:i ∈ ksN G j):i < j:=by
 unfold ksN at h
 exact List.mem_range.1 (List.mem_filter.1 h).1
theorem ks_len (G:Gr) (j:Nat):(ksN G j).length≤j:=Nat.le_trans (List.length_filter_le _ _) (by simp)
theorem oldT_len (G:Gr) (a:G.Fits) (j:Nat):(oldOf (keptT G j)).length≤G.nons.length:=by
 refine nodup_le _ _ (oldOf_nodup _) fun i hi=>?_
 obtain ⟨r,b,rfl⟩:=oldOf_mem.1 hi
 have:=a.left r (List.mem_of_mem_take (List.mem_filter.1 b).1)
 omega
section
variable {P:Program} {w:World}
theorem run_append_nilS (base size:Nat) (t ty e:TypeId) (i:TypeInfo) (b:P.underlying t=some (.slice e)) (hi:P.info? e=some i)
 (A:Option Addr) (n c:Nat) (xs:List Value) (f:w.ownsRow base e size (.slice A n c) n xs) (c2:Nat) :
 (Builtin.append_ #[t,t] ty #[.slice A n c, .slice none 0 c2]).run P w = .ok (.slice A n c) w:=by
 rcases f.2 with ⟨a,rfl⟩ | ⟨g,cap,h,a,_,_,d,_⟩
 · rw [a]
   simp [Builtin.append_,run_underlying b,sizeOf,typeInfo,hi,Builtin.lenOf,Builtin.firstCells]
 · rw [a]
   simp [Builtin.append_,run_underlying b,sizeOf,typeInfo,hi,Builtin.lenOf,Builtin.firstCells,d,storeCells]
theorem wpl_appendN {ops:Array Oper} {rest:List Oper} {o:Oper} {a:Act} {Q:Exit→Act→World→Prop} (q:o.guard=none) (s x:Operand) (t:TypeId)
 (r:o.op = .call { callee := .builtin .append,args:=#[s,x],argTypes:=#[t,t] })
 (base:Nat) (e:TypeId) (z:Value) (size bytes:Nat) (y:P.underlying t=some (.slice e))
 (hi:(P.info? e).map (fun i=>(i.zero,i.size,i.bytes))=some (some z,size,bytes)) (O:z.cells.size=size) (N:0 < size)
 (A:Option Addr) (n c:Nat) (xs:List Value) (v:a.eval s = .slice A n c) (p:w.ownsRow base e size (.slice A n c) n xs)
 (g:Option Addr) (m c2:Nat) (d:List Value) (J:d.length=m * size) (B:a.eval x = .slice g m c2) (h0:g=none→m=0)
 (H:∀ f,g=some f→∀ j u,d[j]? = some u→w.cell? (f.add j)=some u) (h1:∀ u ∈ d,u.oneCell'=true)
 (C:n+m≤9223372036854775807) (G:(n+m) * bytes≤140737488355328) (F:base≤w.heap.size)
 (h:∀ k l w',w'.ownsRow base e size (.slice k (n+m) l) (n+m) (xs++d)→w.grownBy w' (Value.slice A n c).ownBlock→(∀ b,(Value.slice k (n+m) l).ownBlock=some b→b < w.heap.size→(Value.slice A n c).ownBlock=some b) →
   wpList P ops Q rest (a.put o.dst (.slice k (n+m) l)) w'):wpList P ops Q (o::rest) a w:=by
 rcases g with _ | f
 · obtain rfl:=h0 rfl
   have L:d=[]:=List.eq_nil_of_length_eq_zero (by omega)
   subst L
   obtain ⟨i,I,T,S,R⟩:=info_parts hi
   have M:=run_append_nilS (P:=P) base size t o.type e i y I A n c xs p c2
   refine wpList_plain q fun K D=>?_
   unfold Oper.wp execOp
   simp only [r,resolve,invoke,builtin,Sem.run_bind,Sem.run_pure,Result.andThen_ok,List.map_toArray,List.map_cons,List.map_nil,v,B,M]
   exact D _ _ (h A c w (by simpa using p) (World.grownBy.refl _ _) fun b E _=>E)
 · exact wpl_appendM q s x t r base e z size bytes y hi O N A n c xs v p f m c2 d J B (H f rfl) h1 C G F h
end
theorem trms_cells {w:World} {A:Option Addr} {n c:Nat} {ts:List Trm} (h:Trms w A n c ts):(A=none→n=0)∧∀ f,A=some f→∀ j u,(trmCs ts)[j]? = some u→w.cell? (f.add j)=some u:=by
 constructor
 · intro h0
   rcases Nat.eq_zero_or_pos n with h1 | h1
   · exact h1
   · obtain ⟨b,g,d,_⟩:=h.2.2.2 h1
     rw [h0] at d;cases d
 · intro f p j u a
   have s:=(List.getElem?_eq_some_iff.1 a).1
   rw [trmCs_len,h.1] at s
   obtain ⟨b,g,d,_,r⟩:=h.2.2.2 (by omega)
   rw [p] at d
   injection d with d
   subst d
   have k:ts[j / 3]? = some (ts[j / 3]'(by rw [h.1];omega)):=List.getElem?_eq_getElem _
   obtain ⟨c0,c1,c2⟩:=r _ _ k
   obtain ⟨l,m,o⟩:=trmCs_at k
   have q:(⟨b,g,none⟩:Addr).add j=⟨b,g+j,none⟩:=by
    unfold Addr.add
    split
    · rename_i h0;subst h0;rfl
    · rfl
   rw [q]
   rcases (by omega:j=j / 3 * 3+0∨j=j / 3 * 3+1∨j=j / 3 * 3+2) with e | e | e
   · rw [e] at a
     rw [l] at a
     rw [← Option.some.inj a,← c0]
     congr 2
     omega
   · rw [e] at a
     rw [m] at a
     rw [← Option.some.inj a,← c1]
     congr 2
     omega
   · rw [e] at a
     rw [o] at a
     rw [← Option.some.inj a,← c2]
     congr 2
     omega
theorem trmCs_one (ts:List Trm):∀ u ∈ trmCs ts,u.oneCell'=true:=by
 intro u a
 unfold trmCs at a
 rw [List.mem_flatMap] at a
 obtain ⟨t,_,b⟩:=a
 simp only [List.mem_cons,List.not_mem_nil,or_false] at b
 rcases b with rfl | rfl | rfl <;> rfl
end Go.Proofs.YtggbjdmpjidhgaaGreatDoor
