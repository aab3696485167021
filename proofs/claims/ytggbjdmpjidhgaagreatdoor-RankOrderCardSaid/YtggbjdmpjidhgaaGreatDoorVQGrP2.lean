/- grammars: levels of precedence, reckoned in two ways (no program in sight). -/
import Derived.Test.YtggbjdmpjidhgaaGreatDoorVQKit5
import Derived.Test.YtggbjdmpjidhgaaGreatDoorVQKit
set_option linter.unusedVariables false
set_option linter.unusedSimpArgs false
set_option maxHeartbeats 8000000
set_option maxRecDepth 100000
namespace Go.Proofs.YtggbjdmpjidhgaaGreatDoor
open Go.RowKit
def wayOf (l:List Trm) (L:Int):Int:=l.foldl (fun a t=>if t.level=L then t.assoc else a) 0
theorem wayOf_snoc (l:List Trm) (t:Trm) (L:Int):wayOf (l++[t]) L=if t.level=L then t.assoc else wayOf l L:=by simp [wayOf]
def hasL (l:List Trm) (L:Int):Bool:=l.any fun t=>decide (t.level=L)
theorem hasL_snoc (l:List Trm) (t:Trm) (L:Int):hasL (l++[t]) L=(hasL l L || decide (t.level=L)):=by simp [hasL]
def cntL (l:List Trm):Nat:=(List.range 25).countP fun (n:Nat)=>decide (1≤n) && hasL l (n:Int)
def topL (l:List Trm):Int:=l.foldl (fun a t=>if t.level=0 then a else max a t.level) 0
theorem topL_snoc (l:List Trm) (t:Trm):topL (l++[t])=if t.level=0 then topL l else max (topL l) t.level:=by simp [topL]
def consAt (l:List Trm) (k:Nat) (t:Trm):Bool:=decide (t.level=0) || decide (wayOf (l.take k) t.level=0) || decide (wayOf (l.take k) t.level=t.assoc)
def consOK (l:List Trm):Bool:=allI (consAt l) l
def levelsP (l:List Trm):Bool:=consOK l && decide ((cntL l:Int)=topL l)
theorem countP_more (p:Nat→Bool) (m:Nat) (c:p m=false):∀ N,(List.range N).countP (fun (n:Nat)=>p n || decide (n=m))=(List.range N).countP p+if m < N then 1 else 0:=by
 intro N
 induction N with
 | zero=>simp
 | succ N d =>
   rw [List.range_succ,List.countP_append,List.countP_append,d]
   simp only [List.countP_singleton]
   by_cases h:N=m
   · subst h
     simp [c]
   · have:decide (N=m)=false:=by simp [h]
     rw [this,Bool.or_false]
     by_cases b:m < N
     · have a:m < N+1:=by omega
       simp only [b,a,if_true];omega
     · have a:¬ m < N+1:=by omega
       simp only [b,a,if_false];omega
theorem cntL_snoc (l:List Trm) (t:Trm) (g:1≤t.level) (j:t.level≤24):cntL (l++[t])=if hasL l t.level then cntL l else cntL l+1:=by
 obtain ⟨m,b⟩:∃ m:Nat,t.level=(m:Int):=⟨t.level.toNat,by omega⟩
 by_cases h:hasL l t.level=true
 · rw [if_pos h]
   unfold cntL
   congr 1
   funext n
   rw [hasL_snoc]
   by_cases a:t.level=(n:Int)
   · rw [← a,h];simp
   · simp [a]
 · rw [if_neg h]
   have f:hasL l t.level=false:=by simpa using h
   have:=countP_more (fun (n:Nat)=>decide (1≤n) && hasL l (n:Int)) m (by rw [← b,f];simp) 25
   rw [if_pos (by omega)] at this
   unfold cntL
   rw [← this]
   congr 1
   funext n
   rw [hasL_snoc]
   by_cases a:n=m
   · subst a
     have e:decide (1≤n)=true:=by simp;omega
     rw [b,e];simp
   · have c:decide (n=m)=false:=by simp [a]
     have d:decide (t.level=(n:Int))=false:=by simp;omega
     rw [c,d];simp
theorem cntL_zero (l:List Trm) (t:Trm) (h:t.level=0):cntL (l++[t])=cntL l:=by
 unfold cntL
 congr 1
 funext n
 rw [hasL_snoc,h]
 by_cases a:1≤n
 · have:decide ((0:Int)=(n:Int))=false:=by simp;omega
   rw [this];simp
 · have:decide (1≤n)=false:=by simp;omega
   rw [this];simp
theorem countP_full (q:Nat→Bool) (j:∀ n,q n=true→1≤n):∀ m,(List.range (m+1)).countP q≤m∧((List.range (m+1)).countP q=m ↔ ∀ n,1≤n→n≤m→q n=true):=by
 intro m
 induction m with
 | zero =>
   have:q 0=false:=by
    cases h:q 0
    · rfl
    · have:=j 0 h;omega
   simp [List.range_succ,this]
   intro n a c;omega
 | succ m d =>
   rw [List.range_succ,List.countP_append,List.countP_singleton]
   cases h:q (m+1)
   · simp only [Bool.false_eq_true,if_false,Nat.add_zero]
     refine ⟨by omega,?_,?_⟩
     · intro g;omega
     · intro b
       have:=b (m+1) (by omega) (Nat.le_refl _)
       rw [h] at this;cases this
   · simp only [if_true]
     refine ⟨by omega,?_,?_⟩
     · intro g n a c
       rcases Nat.lt_or_ge n (m+1) with f | f
       · exact (d.2.1 (by omega)) n a (by omega)
       · obtain rfl:n=m+1:=by omega
         exact h
     · intro b
       have:=d.2.2 fun n a c=>b n a (by omega)
       omega
theorem countP_cut (q:Nat→Bool) (T:Nat) (b:∀ n,q n=true→n≤T):∀ N,T < N→(List.range N).countP q=(List.range (T+1)).countP q:=by
 intro N d
 induction N with
 | zero=>omega
 | succ N c =>
   by_cases h:N=T
   · subst h;rfl
   · rw [List.range_succ,List.countP_append,c (by omega),List.countP_singleton]
     have:q N=false:=by
      cases a:q N
      · rfl
      · have:=b N a;omega
     rw [this];simp
theorem topL_spec (l:List Trm) (j:∀ t ∈ l,0≤t.level):(∀ t ∈ l,t.level≤topL l)∧0≤topL l∧(topL l=0∨∃ t ∈ l,t.level=topL l):=by
 have key:∀ n (p:List Trm),p=l.take n→(∀ t ∈ p,t.level≤topL p)∧0≤topL p∧(topL p=0∨∃ t ∈ p,t.level=topL p):=by
  intro n
  induction n with
  | zero=>intro p c;rw [c];simp [topL]
  | succ n g =>
    intro p c
    rw [c,List.take_add_one]
    cases k:l[n]? with
    | none=>simpa using g _ rfl
    | some t =>
      obtain ⟨f,m,b⟩:=g _ rfl
      have q:=j t (List.mem_of_getElem? k)
      simp only [Option.toList_some]
      rw [topL_snoc]
      by_cases h:t.level=0
      · rw [if_pos h]
        refine ⟨fun u a=>?_,m,?_⟩
        · rw [List.mem_append,List.mem_singleton] at a
          rcases a with a | rfl
          · exact f u a
          · omega
        · rcases b with b | ⟨u,a,d⟩
          · exact .inl b
          · exact .inr ⟨u,List.mem_append_left _ a,d⟩
      · rw [if_neg h]
        refine ⟨fun u a=>?_,by omega,?_⟩
        · rw [List.mem_append,List.mem_singleton] at a
          rcases a with a | rfl
          · have:=f u a;omega
          · omega
        · right
          by_cases o:topL (l.take n)≤t.level
          · exact ⟨t,by simp,by omega⟩
          · rcases b with b | ⟨u,a,d⟩
            · omega
            · exact ⟨u,List.mem_append_left _ a,by omega⟩
 have:=key l.length l (by rw [List.take_of_length_le (Nat.le_refl _)])
 exact this
theorem wayOf_has (l:List Trm) (L:Int) (b:∀ t ∈ l,t.level=L→t.assoc ≠ 0):wayOf l L ≠ 0 ↔ hasL l L=true:=by
 have key:∀ n,(wayOf (l.take n) L ≠ 0 ↔ hasL (l.take n) L=true):=by
  intro n
  induction n with
  | zero=>simp [wayOf,hasL]
  | succ n a =>
    rw [List.take_add_one]
    cases c:l[n]? with
    | none=>simpa using a
    | some t =>
      simp only [Option.toList_some]
      rw [wayOf_snoc,hasL_snoc]
      by_cases h:t.level=L
      · rw [if_pos h]
        simp [h,b t (List.mem_of_getElem? c) h]
      · rw [if_neg h]
        simp only [h,decide_false,Bool.or_false]
        exact a
 have:=key l.length
 rwa [List.take_of_length_le (Nat.le_refl _)] at this
theorem levelGo_spec (n:Int):∀ (l p:List Trm),levelGo n l (wayOf p n)=true ↔
 (∀ (k:Nat) t,l[k]? = some t→t.level=n→wayOf (p++l.take k) n=0∨wayOf (p++l.take k) n=t.assoc)∧wayOf (p++l) n ≠ 0
 | [],p=>by simp [levelGo]
 | t::l,p=>by
   rw [levelGo]
   by_cases h:t.level=n
   · rw [if_pos h]
     have e:wayOf (p++[t]) n=t.assoc:=by rw [wayOf_snoc,if_pos h]
     by_cases g:wayOf p n ≠ 0∧wayOf p n ≠ t.assoc
     · rw [if_pos g]
       constructor
       · intro h;cases h
       · rintro ⟨b,_⟩
         have:=b 0 t rfl h
         simp only [List.take_zero,List.append_nil] at this
         rcases this with f | f
         · exact absurd f g.1
         · exact absurd f g.2
     · rw [if_neg g,← e,levelGo_spec n l (p++[t])]
       simp only [List.append_assoc,List.cons_append,List.nil_append]
       constructor
       · rintro ⟨b,d⟩
         refine ⟨fun k u a c=>?_,d⟩
         cases k with
         | zero =>
           simp only [List.getElem?_cons_zero,Option.some.injEq] at a
           subst a
           simp only [List.take_zero,List.append_nil]
           by_cases j:wayOf p n=0
           · exact .inl j
           · right
             by_cases f:wayOf p n=t.assoc
             · exact f
             · exact absurd ⟨j,f⟩ g
         | succ k =>
           rw [List.getElem?_cons_succ] at a
           exact b k u a c
       · rintro ⟨b,d⟩
         exact ⟨fun k u a c=>b (k+1) u (by rw [List.getElem?_cons_succ];exact a) c,d⟩
   · rw [if_neg h]
     have e:wayOf (p++[t]) n=wayOf p n:=by rw [wayOf_snoc,if_neg h]
     rw [← e,levelGo_spec n l (p++[t])]
     simp only [List.append_assoc,List.cons_append,List.nil_append]
     constructor
     · rintro ⟨b,d⟩
       refine ⟨fun k u a c=>?_,d⟩
       cases k with
       | zero =>
         simp only [List.getElem?_cons_zero,Option.some.injEq] at a
         subst a
         exact absurd c h
       | succ k =>
         rw [List.getElem?_cons_succ] at a
         exact b k u a c
     · rintro ⟨b,d⟩
       exact ⟨fun k u a c=>b (k+1) u (by rw [List.getElem?_cons_succ];exact a) c,d⟩
theorem levelB_spec (l:List Trm) (n:Int):levelB l n=true ↔ (∀ (k:Nat) t,l[k]? = some t→t.level=n→wayOf (l.take k) n=0∨wayOf (l.take k) n=t.assoc)∧wayOf l n ≠ 0:=by
 have:=levelGo_spec n l []
 simpa [wayOf,levelB] using this
theorem basicT_facts {t:Trm} (h:basicT t=true):namedB t.name=true∧0≤t.level∧t.level≤24∧0≤t.assoc∧t.assoc≤3∧(t.level=0 ↔ t.assoc=0):=by
 simp [basicT] at h
 obtain ⟨⟨⟨a,b,c⟩,d,f⟩,k⟩:=h
 refine ⟨a,b,c,d,f,?_⟩
 by_cases g:t.level=0 <;> by_cases j:t.assoc=0 <;> simp_all
theorem levels_same (l:List Trm) (f:∀ t ∈ l,basicT t=true):levelsP l=l.all (levelsT l):=by
 have g:∀ t ∈ l,0≤t.level:=fun t a=>(basicT_facts (f t a)).2.1
 obtain ⟨y,O,z⟩:=topL_spec l g
 have N:topL l≤24:=by
  rcases z with h | ⟨t,a,d⟩
  · omega
  · have:=(basicT_facts (f t a)).2.2.1;omega
 obtain ⟨T,A⟩:∃ T:Nat,topL l=(T:Int):=⟨(topL l).toNat,by omega⟩
 have F:∀ n:Nat,(decide (1≤n) && hasL l (n:Int))=true→1≤n:=fun n h=>by simp at h;exact h.1
 have G:∀ n:Nat,(decide (1≤n) && hasL l (n:Int))=true→n≤T:=fun n h=>by
  simp [hasL] at h
  obtain ⟨_,t,a,d⟩:=h
  have:=y t a
  omega
 have p:cntL l=T ↔ ∀ n:Nat,1≤n→n≤T→hasL l (n:Int)=true:=by
  unfold cntL
  rw [countP_cut _ T G 25 (by omega),(countP_full _ F T).2]
  constructor
  · intro h n b c
    have:=h n b c
    simp at this
    exact this.2
  · intro h n b c
    simp [h n b c,b]
 have o:∀ L:Int,L ≠ 0→∀ t ∈ l,t.level=L→t.assoc ≠ 0:=fun L j t a d h=>by
  have:=(basicT_facts (f t a)).2.2.2.2.2
  rw [← d] at j
  exact j (this.2 h)
 rw [Bool.eq_iff_iff]
 unfold levelsP
 rw [Bool.and_eq_true,decide_eq_true_iff,A,List.all_eq_true]
 constructor
 · rintro ⟨D,d⟩ t a
   have C:=p.1 (by omega)
   unfold levelsT
   rw [List.all_eq_true]
   intro n E
   rw [List.mem_range] at E
   have M:=y t a
   rw [levelB_spec]
   refine ⟨fun k u H r=>?_,?_⟩
   · have:=allI_get D H
     simp [consAt] at this
     rcases this with (h | h) | h
     · omega
     · rw [r] at h;exact .inl h
     · rw [r] at h;exact .inr h
   · rw [wayOf_has l _ (o _ (by omega))]
     have:=C (n+1) (by omega) (by omega)
     simpa using this
 · intro B
   have s:∀ t ∈ l,∀ n:Nat,1≤n→(n:Int)≤t.level→levelB l (n:Int)=true:=fun t a n b c=>by
    have:=B t a
    unfold levelsT at this
    rw [List.all_eq_true] at this
    have:=this (n - 1) (by rw [List.mem_range];omega)
    rwa [show ((n - 1:Nat):Int)+1=(n:Int) from by omega] at this
   refine ⟨allI_true fun k t q=>?_,?_⟩
   · have x:=List.mem_of_getElem? q
     have J:=g t x
     simp only [consAt,Bool.or_eq_true,decide_eq_true_eq]
     by_cases I:t.level=0
     · exact .inl (.inl I)
     · obtain ⟨m,v⟩:∃ m:Nat,t.level=(m:Int):=⟨t.level.toNat,by omega⟩
       have:=s t x m (by omega) (by omega)
       rw [levelB_spec] at this
       have:=this.1 k t q v
       rw [← v] at this
       rcases this with h | h
       · exact .inl (.inr h)
       · exact .inr h
   · have:cntL l=T:=p.2 fun n b c=>by
      rcases z with h | ⟨t,a,d⟩
      · omega
      · have:=s t a n b (by omega)
        rw [levelB_spec] at this
        exact (wayOf_has l _ (o _ (by omega))).1 this.2
     omega
def iter {α:Type} (f:α→α):Nat→α→α
 | 0,x=>x
 | n+1,x=>f (iter f n x)
theorem iter_fix {α:Type} {f:α→α} {x:α} {n:Nat} (h:f (iter f n x)=iter f n x):∀ m,n≤m→iter f m x=iter f n x
 | 0,hm=>by obtain rfl:n=0:=by omega
            rfl
 | m+1,hm=>by
   rcases Nat.lt_or_ge m n with b | a
   · obtain rfl:n=m+1:=by omega
     rfl
   · show f (iter f m x)=_
     rw [iter_fix h m a,h]
structure Grows (f:List Bool→List Bool):Prop where
 len:∀ b,(f b).length=b.length
 up:∀ b (i:Nat),b[i]? = some true→(f b)[i]? = some true
theorem Grows.id:Grows fun b=>b:=⟨fun _=>rfl,fun _ _ h=>h⟩
theorem Grows.comp {f g:List Bool→List Bool} (a:Grows f) (c:Grows g):Grows fun b=>g (f b) :=
 ⟨fun b=>by rw [c.len,a.len],fun b i h=>c.up _ i (a.up b i h)⟩
theorem bools_ext {a b:List Bool} (j:a.length=b.length) (g:∀ i:Nat,a[i]? = some true→b[i]? = some true) (h:∀ i:Nat,b[i]? = some true→a[i]? = some true):a=b:=by
 refine List.ext_getElem? fun i=>?_
 cases c:a[i]? with
 | none =>
   rw [List.getElem?_eq_none_iff] at c
   exact (List.getElem?_eq_none (by omega)).symm
 | some x =>
   have hi:=(List.getElem?_eq_some_iff.1 c).1
   have d:b[i]? = some (b[i]'(by omega)):=List.getElem?_eq_getElem (by omega)
   cases x with
   | true=>exact (g i c).symm
   | false =>
     cases f:b[i]'(by omega) with
     | false=>rw [d,f]
     | true =>
       rw [f] at d
       have:=h i d
       rw [c] at this
       cases this
theorem Grows.anti {f g:List Bool→List Bool} (a:Grows f) (c:Grows g) {b:List Bool} (h:g (f b)=b):f b=b :=
 bools_ext (a.len b) (fun i hi=>by rw [← h];exact c.up _ i hi) (fun i hi=>a.up b i hi)
theorem count_up:∀ (a b:List Bool),a.length=b.length→(∀ i:Nat,a[i]? = some true→b[i]? = some true)→a.countP (·)≤b.countP (·)∧(a.countP (·)=b.countP (·)→a=b)
 | [],[],_,_=>by simp
 | [],_::_,h,_=>by simp at h
 | _::_,[],h,_=>by simp at h
 | x::a,y::b,hl,h=>by
   have d:=count_up a b (by simpa using hl) fun i hi=>by simpa using h (i+1) (by simpa using hi)
   have c:=h 0
   simp only [List.getElem?_cons_zero,Option.some.injEq] at c
   cases x <;> cases y
   · simp;exact d
   · simp;omega
   · simp at c
   · simp;exact d
theorem Grows.fix {f:List Bool→List Bool} (d:Grows f) (b:List Bool):f (iter f b.length b)=iter f b.length b:=by
 by_cases g:f (iter f b.length b)=iter f b.length b
 · exact g
 · exfalso
   have q:∀ k,(iter f k b).length=b.length:=fun k=>by
    induction k with
    | zero=>rfl
    | succ k j=>show (f (iter f k b)).length=_;rw [d.len,j]
   have r:∀ k,k≤b.length→f (iter f k b) ≠ iter f k b:=fun k m h=>by
    have a:=iter_fix h b.length m
    rw [a] at g
    exact g h
   have n:∀ k,k≤b.length+1→k≤(iter f k b).countP (·):=fun k=>by
    induction k with
    | zero=>intro _;omega
    | succ k j =>
      intro m
      have a:=j (by omega)
      have c:=count_up (iter f k b) (f (iter f k b)) (d.len _).symm fun i hi=>d.up _ i hi
      have s:(iter f k b).countP (·) ≠ (f (iter f k b)).countP (·):=fun o=>r k (by omega) (c.2 o).symm
      show k+1≤(f (iter f k b)).countP (·)
      omega
   have a:=n (b.length+1) (Nat.le_refl _)
   have c:=List.countP_le_length (p:=fun x:Bool=>x) (l:=iter f (b.length+1) b)
   rw [q] at c
   omega
def viewB (t:Nat) (F:List Nat):List Bool:=F.map fun x=>x.testBit t
theorem view_ext {F a:List Nat} (h:∀ t,viewB t F=viewB t a):F=a:=by
 have d:F.length=a.length:=by have:=congrArg List.length (h 0);simpa [viewB] using this
 refine List.ext_getElem? fun i=>?_
 cases b:F[i]? with
 | none =>
   rw [List.getElem?_eq_none_iff] at b
   exact (List.getElem?_eq_none (by omega)).symm
 | some x =>
   have hi:=(List.getElem?_eq_some_iff.1 b).1
   have c:a[i]? = some (a[i]'(by omega)):=List.getElem?_eq_getElem (by omega)
   rw [c]
   congr 1
   apply Nat.eq_of_testBit_eq
   intro t
   have:=congrArg (fun l=>l[i]?) (h t)
   simp only [viewB,List.getElem?_map,b,c,Option.map_some,Option.some.injEq] at this
   exact this
def GrowsS (f:List Nat→List Nat):Prop:=∃ p:Nat→List Bool→List Bool,(∀ t,Grows (p t))∧∀ t F,viewB t (f F)=p t (viewB t F)
theorem GrowsS.fix {f:List Nat→List Nat} (b:GrowsS f) (F:List Nat):f (iter f F.length F)=iter f F.length F:=by
 obtain ⟨p,c,a⟩:=b
 have hit:∀ t k,viewB t (iter f k F)=iter (p t) k (viewB t F):=fun t k=>by
  induction k with
  | zero=>rfl
  | succ k d=>show viewB t (f (iter f k F))=p t (iter (p t) k (viewB t F));rw [a,d]
 refine view_ext fun t=>?_
 rw [a,hit]
 have:=(c t).fix (viewB t F)
 rwa [show (viewB t F).length=F.length by simp [viewB]] at this
def addAt (i:Nat) (x:Nat) (F:List Nat):List Nat:=F.set i (F.getD i 0 ||| x)
theorem view_getD (t:Nat) (F:List Nat) (i:Nat):(F.getD i 0).testBit t=(viewB t F).getD i false:=by
 rw [List.getD_eq_getElem?_getD,List.getD_eq_getElem?_getD,viewB,List.getElem?_map]
 cases F[i]? <;> simp
structure Gr.Fits (G:Gr):Prop where
 n1:G.terms.length≤24
 n2:1≤G.nons.length∧G.nons.length≤16
 n3:1≤G.rules.length∧G.rules.length≤40
 st:0≤G.start∧G.start < (G.nons.length:Int)
 left:∀ r ∈ G.rules,0≤r.left∧r.left < (G.nons.length:Int)
 len:∀ r ∈ G.rules,r.right.length≤6
 sym:∀ r ∈ G.rules,∀ s ∈ r.right,-(G.nons.length:Int)≤s∧s < (G.terms.length:Int)
theorem Gr.lefts_all (G:Gr):∀ (a:List Rul) (top t:Int),G.leftsGo a top=some t→top≤t∧∀ r ∈ a,0≤r.left∧r.left≤t∧G.ruleOK r=true
 | [],top,t,h=>by simp [Gr.leftsGo] at h;subst h;simp
 | q::a,top,t,h=>by
   rw [Gr.leftsGo] at h
   split at h
   · rename_i c
     obtain ⟨f,d⟩:=Gr.lefts_all G a _ t h
     refine ⟨by omega,fun r b=>?_⟩
     rcases List.mem_cons.1 b with rfl | b
     · exact ⟨c.1,by omega,c.2.2⟩
     · exact d r b
   · cases h
theorem Gr.fits {G:Gr} (h:G.right=true):G.Fits:=by
 unfold Gr.right Gr.termsOK Gr.nonsOK at h
 simp only [Bool.and_eq_true,decide_eq_true_eq] at h
 obtain ⟨⟨⟨⟨⟨c,_⟩,d,_⟩,f⟩,g⟩,j⟩:=h
 obtain ⟨_,b⟩:=G.lefts_all _ _ _ j
 refine ⟨c,d,f,g,fun r a=>⟨(b r a).1,by have:=(b r a).2.1;omega⟩,fun r a=>?_,fun r a s k=>?_⟩
 · have:=(b r a).2.2
   unfold Gr.ruleOK at this
   simp at this
   exact this.1.1
 · have:=(b r a).2.2
   unfold Gr.ruleOK at this
   simp only [Bool.and_eq_true,List.all_eq_true] at this
   have:=this.2 s k
   unfold Gr.symOK Gr.has at this
   rw [Bool.and_eq_true] at this
   have:=this.1
   split at this <;> simp at this <;> omega
def nonI (s:Int):Nat:=(-1 - s).toNat
def allP (b:Bool) (N:List Bool) (ss:List Int):Bool:=ss.all fun s=>if 0≤s then b else N.getD (nonI s) false
def growN (p:Rul→List Bool→Bool) (r:Rul) (N:List Bool):List Bool:=if p r N then N.set r.left.toNat true else N
def passN (p:Rul→List Bool→Bool) (a:List Rul) (N:List Bool):List Bool:=a.foldl (fun N r=>growN p r N) N
theorem growN_grows (p:Rul→List Bool→Bool) (r:Rul):Grows (growN p r):=by
 refine ⟨fun b=>by unfold growN;split <;> simp,fun b i h=>?_⟩
 unfold growN
 split
 · rw [List.getElem?_set]
   split
   · rename_i a
     subst a
     simp [(List.getElem?_eq_some_iff.1 h).1]
   · exact h
 · exact h
theorem passN_grows (p:Rul→List Bool→Bool):∀ a,Grows (passN p a)
 | []=>Grows.id
 | r::a=>(growN_grows p r).comp (passN_grows p a)
theorem passN_snoc (p:Rul→List Bool→Bool) (a:List Rul) (r:Rul) (N:List Bool):passN p (a++[r]) N=growN p r (passN p a N):=by simp [passN]
def nullN (G:Gr):List Bool:=iter (passN (fun r N=>allP false N r.right) G.rules) G.nons.length (List.replicate G.nons.length false)
def Small (F:List Nat):Prop:=∀ x ∈ F,x < 4294967296
theorem Small.get {F:List Nat} (h:Small F) (i:Nat):F.getD i 0 < 4294967296:=by
 rw [List.getD_eq_getElem?_getD]
 cases a:F[i]? with
 | none=>simp
 | some x=>exact h x (List.mem_of_getElem? a)
theorem Small.addAt {F:List Nat} (h:Small F) (i:Nat) {x:Nat} (b:x < 4294967296):Small (addAt i x F):=by
 intro y a
 unfold Go.Proofs.YtggbjdmpjidhgaaGreatDoor.addAt at a
 rcases List.mem_or_eq_of_mem_set a with a | rfl
 · exact h y a
 · exact or_lt32 (h.get i) b
theorem Small.zero (n:Nat):Small (List.replicate n 0):=fun x a=>by rw [List.eq_of_mem_replicate a];decide
theorem iter_done {α:Type} {f:α→α} {x:α} {n k:Nat} (b:f (iter f n x)=iter f n x) (a:f (iter f k x)=iter f k x):iter f k x=iter f n x:=by
 rcases Nat.le_total k n with h | h
 · exact (iter_fix a n h).symm
 · exact iter_fix b k h
theorem iter_more {α:Type} {f:α→α} {x:α} {n k:Nat} (b:f (iter f n x)=iter f n x) (a:f (iter f k x) ≠ iter f k x):k < n:=by
 rcases Nat.lt_or_ge k n with h | h
 · exact h
 · rw [iter_fix b k h] at a
   exact absurd b a
def joinS (S:Nat) (F:List Nat):Nat:=(List.range F.length).foldl (fun a k=>if S.testBit k then a ||| F.getD k 0 else a) 0
theorem foldJoin_bit (S:Nat) (F:List Nat) (t:Nat):∀ (l:List Nat) (a:Nat),(l.foldl (fun a k=>if S.testBit k then a ||| F.getD k 0 else a) a).testBit t=(a.testBit t || l.any fun k=>S.testBit k && (F.getD k 0).testBit t)
 | [],a=>by simp
 | k::l,a=>by
   rw [List.foldl_cons,foldJoin_bit S F t l,List.any_cons]
   cases S.testBit k <;> simp [Bool.or_assoc]
theorem joinS_bit (S:Nat) (F:List Nat) (t:Nat):(joinS S F).testBit t=(List.range F.length).any fun k=>S.testBit k && (F.getD k 0).testBit t:=by
 unfold joinS
 rw [foldJoin_bit]
 simp
theorem joinS_mem {S:Nat} {F:List Nat} {t:Nat}:(joinS S F).testBit t=true ↔ ∃ k,k < F.length∧S.testBit k=true∧(F.getD k 0).testBit t=true:=by
 rw [joinS_bit,List.any_eq_true]
 constructor
 · rintro ⟨k,a,h⟩
   rw [Bool.and_eq_true] at h
   exact ⟨k,List.mem_range.1 a,h.1,h.2⟩
 · rintro ⟨k,a,b,c⟩
   exact ⟨k,List.mem_range.2 a,by rw [b,c];rfl⟩
def stepD (S:List Nat) (F:List Nat):List Nat:=(List.range F.length).map fun i=>F.getD i 0 ||| joinS (S.getD i 0) F
theorem stepD_len (S F:List Nat):(stepD S F).length=F.length:=by simp [stepD]
theorem stepD_get (S F:List Nat) {i:Nat} (hi:i < F.length):(stepD S F).getD i 0=F.getD i 0 ||| joinS (S.getD i 0) F:=by
 rw [List.getD_eq_getElem?_getD]
 simp [stepD,hi]
theorem stepD_grows (S:List Nat):GrowsS (stepD S):=by
 refine ⟨fun t b=>(List.range b.length).map fun i=>b.getD i false || (List.range b.length).any fun k=>(S.getD i 0).testBit k && b.getD k false,fun t=>⟨fun b=>by simp,fun b i h=>?_⟩,fun t F=>?_⟩
 · have hi:=(List.getElem?_eq_some_iff.1 h).1
   have:b.getD i false=true:=by rw [List.getD_eq_getElem?_getD,h];rfl
   have a:b[i]=true:=(List.getElem?_eq_some_iff.1 h).2
   simp [hi,a]
 · refine List.ext_getElem? fun i=>?_
   by_cases hi:i < F.length
   · simp only [viewB,stepD,List.getElem?_map,List.length_map,List.getElem?_range hi,Option.map_some,Option.some.injEq]
     rw [Nat.testBit_or,joinS_bit,view_getD]
     congr 1
     congr 1
     funext k
     rw [view_getD t F k]
     rfl
   · simp only [viewB,stepD,List.getElem?_map,List.length_map]
     rw [List.getElem?_eq_none (by simpa using hi)]
     rfl
def closeS (S:List Nat):List Nat:=iter (stepD S) S.length S
def comesTo (S:List Nat) (i t:Nat):Bool:=((closeS S).getD i 0).testBit t
theorem iterD_len (S:List Nat):∀ m,(iter (stepD S) m S).length=S.length
 | 0=>rfl
 | m+1=>by rw [iter,stepD_len,iterD_len S m]
theorem closeS_len (S:List Nat):(closeS S).length=S.length:=iterD_len S _
theorem closeS_fix (S:List Nat):stepD S (closeS S)=closeS S:=(stepD_grows S).fix S
theorem comes_step {S:List Nat} {i k t:Nat} (hi:i < S.length) (c:k < S.length) (b:(S.getD i 0).testBit k=true) (a:comesTo S k t=true):comesTo S i t=true:=by
 unfold comesTo at a ⊢
 rw [← closeS_fix,stepD_get _ _ (by rw [closeS_len];exact hi),Nat.testBit_or]
 rw [joinS_mem.2 ⟨k,by rw [closeS_len];exact c,b,a⟩,Bool.or_true]
theorem iterD_up (S:List Nat) {i t:Nat} (hi:i < S.length):∀ m,((iter (stepD S) m S).getD i 0).testBit t=true→((iter (stepD S) (m+1) S).getD i 0).testBit t=true:=fun m h=>by
 rw [iter,stepD_get _ _ (by rw [iterD_len];exact hi),Nat.testBit_or,h,Bool.true_or]
theorem iterD_close (S:List Nat) {i t:Nat} (hi:i < S.length) (m:Nat) (h:((iter (stepD S) m S).getD i 0).testBit t=true):comesTo S i t=true:=by
 rcases Nat.le_total m S.length with a | a
 · obtain ⟨d,hd⟩:=Nat.exists_eq_add_of_le a
   unfold comesTo closeS
   rw [hd]
   clear hd a
   induction d with
   | zero=>exact h
   | succ d c=>exact iterD_up S hi _ c
 · have b:=iter_fix (f:=stepD S) (x:=S) (n:=S.length) (closeS_fix S) m a
   rw [b] at h
   exact h
theorem comes_once {S:List Nat} {i t:Nat} (hi:i < S.length) (h:(S.getD i 0).testBit t=true):comesTo S i t=true:=iterD_close S hi 0 h
theorem iterD_trans (S:List Nat):∀ (m:Nat) {i k t:Nat},i < S.length→k < S.length→((iter (stepD S) m S).getD i 0).testBit k=true→comesTo S k t=true→comesTo S i t=true
 | 0,i,k,t,hi,hk,a,h2=>comes_step hi hk a h2
 | m+1,i,k,t,hi,hk,a,h2=>by
   rw [iter,stepD_get _ _ (by rw [iterD_len];exact hi),Nat.testBit_or,Bool.or_eq_true] at a
   rcases a with a | a
   · exact iterD_trans S m hi hk a h2
   · obtain ⟨f,b,c,d⟩:=joinS_mem.1 a
     rw [iterD_len] at b
     exact comes_step hi b c (iterD_trans S m b hk d h2)
theorem comes_trans {S:List Nat} {i k t:Nat} (hi:i < S.length) (c:k < S.length) (a:comesTo S i k=true) (b:comesTo S k t=true):comesTo S i t=true:=iterD_trans S _ hi c a b
theorem comes_least {S:List Nat} (X:Nat→Prop) (a:∀ k,k < S.length→X k→∀ t,(S.getD k 0).testBit t=true→X t) (c:∀ i t,(S.getD i 0).testBit t=true→t < S.length) :
 ∀ (m:Nat) {i t:Nat},i < S.length→(∀ t,(S.getD i 0).testBit t=true→X t)→((iter (stepD S) m S).getD i 0).testBit t=true→X t
 | 0,i,t,hi,h0,h=>h0 t h
 | m+1,i,t,hi,h0,h=>by
   rw [iter,stepD_get _ _ (by rw [iterD_len];exact hi),Nat.testBit_or,Bool.or_eq_true] at h
   rcases h with h | h
   · exact comes_least X a c m hi h0 h
   · obtain ⟨k,b,d,f⟩:=joinS_mem.1 h
     rw [iterD_len] at b
     exact comes_least X a c m b (a k b (h0 k d)) f
theorem comes_in {S:List Nat} (X:Nat→Prop) (c:∀ k,k < S.length→X k→∀ t,(S.getD k 0).testBit t=true→X t) (b:∀ i t,(S.getD i 0).testBit t=true→t < S.length) {i t:Nat} (hi:i < S.length) (a:∀ t,(S.getD i 0).testBit t=true→X t) (h:comesTo S i t=true):X t :=
 comes_least X c b _ hi a h
end Go.Proofs.YtggbjdmpjidhgaaGreatDoor
