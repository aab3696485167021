/- slices.Values over strings, slices.AppendSeq, slices.Collect, slices.Sorted. -/
import Derived.Test.YtggbjdmpjidhgaaGreatDoorVQKit5
import Derived.Test.YtggbjdmpjidhgaaGreatDoorVQGrShelf
import Derived.RangeFuncNested
import Derived.RangeFuncBound
import Derived.RangeFuncCalls
import Derived.RangeFuncLeaves
import Derived.RangeFuncBox
import Derived.Shelf.Abstract
import Derived.Shelf.RegionOpen
import Derived.OwnWalkIn
import Derived.TacticsInMore
import Derived.LoopNIn
import Derived.LoopIn
import Derived.Sort.QuietIn
import Derived.Sort.OwnSorted
import Derived.Test.YtggbjdmpjidhgaaGreatDoorVQKit
import Derived.Deep.QuietTactic
import Derived.BigQuiet
set_option linter.unusedVariables false
set_option linter.unusedSimpArgs false
set_option maxHeartbeats 8000000
set_option maxRecDepth 100000
namespace Go.Proofs.YtggbjdmpjidhgaaGreatDoor
open Go.RowKit
open Go.RowKit Go.Shelf
attribute [local go_sem] Oper.semAt_some
theorem take_snocB (a:List ByteArray) (k:Nat) (s:ByteArray) (h:a[k]? = some s):a.take (k+1)=a.take k++[s]:=by
 rw [List.take_add_one,h];rfl
theorem values1_in (n:Nat) (O:1≤n) (l o m b f cap:Nat) (a:List ByteArray) (P:a.length≤1000) (D:b < m) (J r:List ByteArray→World→Prop)
 (C:∀ c x W,J c W→c.length < a.length→YieldAt Fence.wide (n - 1) Tryz.prog l #[.string x] W fun e d =>
   (e = .returned (.bool true)∧J (c++[x]) d∧Below m W d)∨(e = .returned (.bool false)∧r (c++[x]) d))
 (W:World) (I:W.cell? ⟨o,0,none⟩=some (.slice (some ⟨b,f,none⟩) a.length cap)) (L:a.length≤cap∧cap≤9223372036854775807) (t:∀ j s,a[j]? = some s→W.cell? ⟨b,f+j,none⟩=some (.string s)) (y:J [] W) :
 CallsIn Fence.wide n Tryz.prog 206 #[.func (.yield l) #[] #[], .pointer (some ⟨o,0,none⟩)] W fun e d=>(∃ v,e = .returned v) ∧
  ((∃ ys,ys=a∧J ys d)∨(∃ c,c <+: a∧r c d)):=by
 refine callsIn_of_wp Tryz.func206 rfl trivial ?_ rfl
 simp only [Tryz.ntmps206,List.size_toArray,List.length_cons,List.length_nil,Nat.reduceAdd,Nat.reduceSub,Array.replicate_succ,Array.replicate_zero,List.push_toArray,List.append_toArray,List.nil_append,List.cons_append]
 gi_wp2
 gi_loopw [4,7] (fun _ i wr=>∃ k:Nat,k≤a.length∧i = .int .i64 k∧J (a.take k) wr∧Below m W wr)
  (fun _ i _=>a.length - (intOf i).toNat)
 case atStart=>exact ⟨0,Nat.zero_le _,rfl,by simpa using y,Below.refl _ _⟩
 case round =>
  obtain ⟨k,N,rfl,g,u⟩:=hrel
  by_cases G:k < a.length
  · obtain ⟨s,h⟩:∃ s,a[k]? = some s:=⟨_,List.getElem?_eq_getElem G⟩
    have M:wr.cell? ⟨b,f+k,none⟩=some (.string s):=(u.cell (p:=⟨b,f+k,none⟩) D).trans (t k s h)
    have F:(a.take k).length=k:=by rw [List.length_take];omega
    obtain ⟨H,tmps,assign,body,R,B⟩:=C _ s wr g (by omega)
    have q:=LH (take_snocB a k s h)
    clear t h F
    gi_wp2
    refine B.mono ?_
    rintro e W3 (⟨rfl,z,E⟩ | ⟨rfl,A⟩)
    · gi_wp2
      go_roundw
      case rel=>exact ⟨k+1,by omega,by simp,by rw [q.out];exact z,u.trans E⟩
      case measure=>simp [intOf];omega
    · gi_wp2
      refine bodyPost_ret (results_none rfl _ _ _) rfl ?_
      exact ⟨⟨_,rfl⟩, .inr ⟨_,by rw [← q.out];exact List.take_prefix _ _,A⟩⟩
  · obtain rfl:k=a.length:=by omega
    gi_wp2
    go_end0
    exact ⟨⟨_,rfl⟩, .inl ⟨_,rfl,by rw [List.take_of_length_le (Nat.le_refl _)] at g;exact g⟩⟩
theorem values1_none (n:Nat) (l a cap:Nat) (A:Option Addr) (J:List ByteArray→World→Prop) (W:World) (f:W.cell? ⟨a,0,none⟩=some (.slice A 0 cap)) (c:J [] W) :
 CallsIn Fence.wide n Tryz.prog 206 #[.func (.yield l) #[] #[], .pointer (some ⟨a,0,none⟩)] W fun e b=>(∃ v,e = .returned v)∧J [] b:=by
 refine callsIn_of_wp Tryz.func206 rfl trivial ?_ rfl
 simp only [Tryz.ntmps206,List.size_toArray,List.length_cons,List.length_nil,Nat.reduceAdd,Nat.reduceSub,Array.replicate_succ,Array.replicate_zero,List.push_toArray,List.append_toArray,List.nil_append,List.cons_append]
 gi_wp2
 gi_loopw [7] (fun i wr=>i = .int .i64 0∧J [] wr) (fun _ _=>0)
 case atStart=>exact ⟨rfl,c⟩
 case round =>
  obtain ⟨rfl,d⟩:=hrel
  gi_wp2
  go_end0
  exact ⟨⟨_,rfl⟩,d⟩
theorem values_in (A:Option Addr) (L cap:Nat) (w:World) :
 Calls Tryz.prog 162 #[.slice A L cap] w fun e w' =>
  e = .returned (.func (.func 206) #[] #[.pointer (some ⟨w.heap.size,0,none⟩)]) ∧
  w'=w.alloc (.cells #[.slice A L cap] 23):=by
 go_enter Tryz.func162,Tryz.ntmps162
 go_wp2
 go_ret
 exact ⟨rfl,rfl⟩
theorem values_stops (n:Nat) (H:1≤n) (d k L cap:Nat) (A:Option Addr) (c:List ByteArray) (I:c.length≤1000) (w:World) (y:d < w.heap.size) (S:k≤w.heap.size)
 (C:w.cell? ⟨d,0,none⟩=some (.slice A L cap)) (g:Strs w A L cap c) (v:0 < L→∀ a,A=some a→a.block < k) :
 SeqStopsK Fence.wide n Tryz.prog 206 #[.pointer (some ⟨d,0,none⟩)] (fun x:ByteArray=>#[Value.string x]) (Below k) (fun ys=>ys=c) (fun N=>N <+: c) c.length w:=fun l J u W o _ _ B m=>by
 have q:=(o.cell (p:=⟨d,0,none⟩) y).trans C
 obtain rfl:=g.len
 rcases Nat.eq_zero_or_pos c.length with h | h
 · have M:=List.eq_nil_of_length_eq_zero h
   subst M
   exact (values1_none n l d cap A J W q m).mono fun e O ⟨F,G⟩=>⟨F, .inl ⟨_,rfl,G⟩⟩
 · obtain ⟨b,r,s,rfl,R,_,_⟩:=g.get h
   have z:=g.below o
   have E:∀ j s,c[j]? = some s→W.cell? ⟨b,r+j,none⟩=some (.string s):=fun j s f=>by
    obtain ⟨P,T,U,e,_,t,D⟩:=z.get (List.getElem?_eq_some_iff.1 f).1
    injection e with e
    injection e with e1 e2
    subst e1;subst e2
    rw [t.out] at f
    injection f with f
    rw [D,f]
   exact values1_in n H l d k b r cap c I (v h _ rfl) J u B W q g.cap E m
theorem appendSeq_in (n:Nat) (hn:3≤n) (f L cap:Nat) (A:Option Addr) (m:List ByteArray) (Y:m.length≤1000) (w:World) (O:f < w.heap.size) (T:w.cell? ⟨f,0,none⟩=some (.slice A L cap)) (u:Strs w A L cap m) :
 CallsIn Fence.wide n Tryz.prog 230 #[.slice none 0 0, .func (.func 206) #[] #[.pointer (some ⟨f,0,none⟩)]] w fun e w' =>
  ∃ v,e = .returned v∧w'.ownsRow w.heap.size 9 1 v m.length (m.map Value.string)∧Below w.heap.size w w':=by
 have J:1≤n:=by omega
 have V:(Tryz.prog.info? 9).map (fun i=>(i.zero,i.size,i.bytes))=some (some (.string ⟨#[]⟩),1,16):=by kernel_rfl
 obtain ⟨i0,hi,ab,ad,ae⟩:=info_parts V
 refine callsIn_of_wp_marks Tryz.func230 rfl trivial ?_ rfl
 simp only [Tryz.ntmps230,List.size_toArray,List.length_cons,List.length_nil,Nat.reduceAdd,Nat.reduceSub,Array.replicate_succ,Array.replicate_zero,List.push_toArray,List.append_toArray,List.nil_append,List.cons_append]
 gi_wp2
 have E:=Boxed.new w 23 (.slice none 0 0)
 have t:Below w.heap.size w (w.alloc (.cells #[.slice none 0 0] 23)):=(Below.refl _ w).alloc (Nat.le_refl _) _
 have M:0 < L→∀ a,A=some a→a.block < w.heap.size:=fun h a R=>by
  obtain ⟨b,ao,s,e,S,_⟩:=u.get h
  rw [R] at e
  injection e with e
  rw [e];exact S
 have aa:=values_stops (n - 1) (by omega) f w.heap.size L cap A m Y w O (Nat.le_refl _) T u M
 refine wpIn_rangeFunc_ownG (F:=Fence.wide) (n:=n) rfl J (gf:=206) (lb:=#[.pointer (some ⟨f,0,none⟩)]) rfl trivial (enters_of Tryz.func206 (by kernel_rfl) rfl)
  aa belowK_t (belowK_b (by simp)) t (fun _=>rfl)
  (fun d W=>(∃ v,Boxed W w.heap.size 23 v∧W.ownsRow w.heap.size 9 1 v d.length (d.map Value.string)∧True)∧Below w.heap.size w W)
  (fun _ _ _=>False)
  (OwnFrom.and (Own.from (holdsRow_own w.heap.size w.heap.size 23 9 1 (fun d:List ByteArray=>d.length) (fun d=>d.map Value.string) (fun _ _=>True)) _) (ownFrom_below (Nat.le_refl _) (by simp)))
  (fun _ _ _ _ _ Z _ _=>Z)
  ⟨⟨_,E,⟨rfl, .inl ⟨rfl,rfl⟩⟩,trivial⟩,t⟩
  (fun x=>{ tmps:=#[.slice none 0 0, .func (.func 206) #[] #[.pointer (some ⟨f,0,none⟩)], .pointer (some ⟨w.heap.size,0,none⟩),undef, .slice none 0 0, .string x, .func (.func 206) #[] #[.pointer (some ⟨f,0,none⟩)], .string x,undef,undef,undef,undef,undef],defers:=[] }) ?assign ?body ?done ?stop
 case assign =>
  intro l x W K j
  gi_wp2
  exact j
 case body =>
  rintro l d x W ⟨⟨v,g,k,_⟩,o⟩ al
  have y:=g.cell
  have U:=g.frozen
  have N:=o.size
  have an:=g.lt
  gi_wp2_with (gi_at_builtin;refine wpListIn_append_own _ rfl _ _ 23 rfl w.heap.size 9 i0 (.string ⟨#[]⟩) 1 16 Tryz.underlying23 hi ab ad ae rfl (by decide) _ _ _ rfl (k.alloc _) ⟨W.heap.size,0,none⟩ 1 1 [.string x] rfl rfl (cell_one_new _ _ _) (by simp [Value.oneCell']) (by simp [maxLen];omega) (by omega) (by simp;omega) ?_;intro v' w3 q z X;have B:(W.alloc (.cells #[.string x] 9)).grownBy w3 v.ownBlock:=z;obtain ⟨g',ah,rfl⟩:=ownsRow_succ q;have p:=g.appended (by decide) k N (Nat.le_refl _) q B;have aj:=p.1.cell;have ak:=p.1.frozen;have C:=LH p;clear p z B q X k y U;go_frame)
  obtain ⟨_,G,H,I,r⟩:=C.out
  exact ⟨I.from _,r,⟨_,G,by simpa using H,trivial⟩,o.trans r⟩
 case done =>
  rintro D ys W P rfl ⟨⟨v,g,k,_⟩,o⟩ j
  have y:=g.cell
  gi_wp2
  refine ⟨by simp, .inl ⟨_,_,rfl,run_takeDeferred j,?_⟩⟩
  exact ⟨_,results_tmp rfl _ _ _,v,rfl,ownsRow_putObj k _ j rfl,o.trans (belowK_b (w:=w) (Nat.le_refl _) W D _ _ (by simp at P;omega) j rfl rfl)⟩
 case stop =>
  rintro D c d W _ _ h _
  exact h.elim
open Go.RowKit Go.Shelf Go.Sort
theorem compact_len (l:List (List UInt8)) (v:l.Pairwise (fun x y=>x≤y)):(Lib.compact l).length=l.length ↔ l.Nodup:=by
 unfold Lib.compact Lib.compactUpTo
 rw [List.length_map]
 have s:(List.filter (Lib.keeps l.toArray) (List.range l.length)).length=l.length ↔ ∀ j ∈ List.range l.length,Lib.keeps l.toArray j=true:=by
  have:=List.length_filter_eq_length_iff (p:=Lib.keeps l.toArray) (l:=List.range l.length)
  rwa [List.length_range] at this
 rw [s]
 have q:∀ j,0 < j→j < l.length→(Lib.keeps l.toArray j=true ↔ l[j]? ≠ l[j - 1]?):=by
  intro j f c
  have g:l.toArray[j]! = l[j]'c:=by simp [c]
  have k:l.toArray[j - 1]! = l[j - 1]'(by omega):=by simp [show j - 1 < l.length by omega]
  rw [List.getElem?_eq_getElem c,List.getElem?_eq_getElem (show j - 1 < l.length by omega)]
  constructor
  · intro h d
    injection d with d
    rw [Lib.keeps_neg f (by rw [g,k];exact d)] at h
    cases h
  · intro h
    exact Lib.keeps_pos (by rw [g,k];intro d;exact h (by rw [d]))
 constructor
 · intro h
   rw [List.nodup_iff_pairwise_ne,List.pairwise_iff_getElem]
   intro i j hi c A d
   have r:∀ a b (n:a < l.length) (o:b < l.length),a≤b→l[a]≤l[b]:=by
    intro a b n o z
    rcases Nat.lt_or_ge a b with h | h
    · exact List.pairwise_iff_getElem.1 v a b n o h
    · obtain rfl:a=b:=by omega
      exact List.le_refl _
   have m:=r i (j - 1) hi (by omega) (by omega)
   have t:=r (j - 1) j (by omega) c (by omega)
   rw [d] at m
   have:=List.le_antisymm t m
   have u:=(q j (by omega) c).1 (h j (by rw [List.mem_range];exact c))
   apply u
   rw [List.getElem?_eq_getElem c,List.getElem?_eq_getElem (show j - 1 < l.length by omega),this]
 · intro h j c
   rw [List.mem_range] at c
   rcases Nat.eq_zero_or_pos j with f | f
   · subst f;simp [Lib.keeps]
   · rw [q j f c,List.getElem?_eq_getElem c,List.getElem?_eq_getElem (show j - 1 < l.length by omega)]
     intro d
     injection d with d
     rw [List.nodup_iff_pairwise_ne,List.pairwise_iff_getElem] at h
     exact h (j - 1) j (by omega) c (by omega) d.symm
theorem sorted_len (ss:List (List UInt8)):(Lib.compact (ss.mergeSort fun x y=>decide (x≤y))).length=ss.length ↔ ss.Nodup:=by
 have d:=List.mergeSort_perm ss (fun x y=>decide (x≤y))
 have j:(ss.mergeSort fun x y=>decide (x≤y)).Pairwise (fun x y=>x≤y):=by
  have:=List.pairwise_mergeSort (le:=fun x y:List UInt8=>decide (x≤y)) (fun a b c f g=>by
   simp only [decide_eq_true_eq] at *;exact List.le_trans f g) (fun a b=>by
   simp only [Bool.or_eq_true,decide_eq_true_eq];exact List.le_total _ _) ss
  exact this.imp fun h=>by simpa using h
 rw [← d.nodup_iff,← d.length_eq]
 exact compact_len _ j
def byL (a:List ByteArray):List (List UInt8):=a.map fun z=>z.data.toList
theorem byL_nodup (f:List ByteArray):(byL f).Nodup ↔ f.Nodup:=by
 unfold byL
 rw [List.nodup_iff_pairwise_ne,List.nodup_iff_pairwise_ne,List.pairwise_map]
 constructor
 · intro h
   exact h.imp fun d c=>d (by rw [c])
 · intro h
   refine h.imp fun {a b} d c=>d ?_
   cases a;cases b
   simp only [ByteArray.mk.injEq]
   exact Array.toList_inj.1 c
theorem encStr_byL (a:List ByteArray):(byL a).map encStr=a.map Value.string:=by
 unfold byL
 rw [List.map_map]
 refine List.map_congr_left fun z _=>?_
 cases z
 simp [encStr]
theorem collect_s (b L cap:Nat) (A:Option Addr) (a:List ByteArray) (k:a.length≤1000) (w:World) (g:b < w.heap.size) (d:w.cell? ⟨b,0,none⟩=some (.slice A L cap)) (c:Strs w A L cap a) :
 Calls Tryz.prog 204 #[.func (.func 206) #[] #[.pointer (some ⟨b,0,none⟩)]] w fun e w' =>
  ∃ v,e = .returned v∧w'.ownsRow w.heap.size 9 1 v a.length (a.map Value.string)∧Below w.heap.size w w':=by
 have f:=(callsIn_wide (n:=3)).1 (appendSeq_in 3 (by decide) b L cap A a k w g d c)
 have H:=LH f
 clear f d c
 go_enter Tryz.func204,Tryz.ntmps204
 go_wp2_with (go_at_call 230;(with_reducible refine H.out.mono ?_);rintro e l ⟨v,rfl,j,h⟩)
 go_ret
 exact ⟨v,rfl,j,h⟩
def RetSorted (w:World) (a:List ByteArray) (e:Ending) (w':World):Prop :=
 Below w.heap.size w w'∧((a=[]∧e = .returned (.slice none 0 0)) ∨
  ∃ g cap,e = .returned (.slice (some ⟨g,0,none⟩) a.length cap)∧w.heap.size≤g∧g < w'.heap.size∧a.length≤cap∧Holds encStr w' g 0 ((byL a).mergeSort fun x y=>decide (x≤y)).toArray)
theorem sorted_s (b L cap:Nat) (A:Option Addr) (a:List ByteArray) (G:a.length≤1000) (w:World) (B:b < w.heap.size) (q:w.cell? ⟨b,0,none⟩=some (.slice A L cap)) (p:Strs w A L cap a) :
 Calls Tryz.prog 161 #[.func (.func 206) #[] #[.pointer (some ⟨b,0,none⟩)]] w (RetSorted w a):=by
 have H:=LH (collect_s b L cap A a G w B q p)
 clear q p
 go_enter Tryz.func161,Tryz.ntmps161
 go_wp2_with (go_at_call 204;(with_reducible refine H.out.mono ?_);rintro e W ⟨v,rfl,I,g⟩)
 have s:(byL a).length=a.length:=by simp [byL]
 rcases I.2 with ⟨rfl,J⟩ | ⟨c,m,U,rfl,h,k,O,P,R,S⟩
 · have M:=List.eq_nil_of_length_eq_zero J
   subst M
   have z:=LH (Tryz.slices_Sort_string_none none 0 W)
   go_wp2_with (go_at_call 205;(with_reducible refine z.out.mono ?_);rintro e w' ⟨rfl,rfl⟩)
   go_ret
   exact ⟨g, .inl ⟨rfl,rfl⟩⟩
 · have r:c < W.heap.size:=(Array.getElem?_eq_some_iff.1 k).1
   have o:Holds encStr W c 0 (byL a).toArray:=holds_of_block k (by rw [s,encStr_byL];simpa using S)
   have d:=Tryz.slices_Sort_string c 0 m (byL a) W o r (by omega)
   rw [s] at d
   have u:=LH d
   clear d o
   go_wp2_with (go_at_call 205;(with_reducible refine u.out.mono ?_);rintro e w' ⟨rfl,l,os,rfl⟩)
   go_ret
   have t:((byL a).mergeSort fun x y=>decide (x≤y)).length=(byL a).length:=by simp
   have F:=ownsRow_sorted (n:=l) (os:=os) t h k (by omega) P R
   have C:=g.grown (grownBy_sorted (n:=l) (os:=os) ((byL a).mergeSort fun x y=>decide (x≤y)).toArray) g.size (fun j E=>by cases E;exact h)
   refine ⟨C, .inr ⟨c,m,rfl,h,?_,O,?_⟩⟩
   · exact Nat.lt_of_lt_of_le r (grownBy_sorted (n:=l) (os:=os) _).size
   · rcases F.2 with ⟨f,_⟩ | ⟨X,T,V,f,_,D,_,_,_,N⟩
     · cases f
     · injection f with e1 _ _
       injection e1 with e1
       injection e1 with e1
       subst e1
       exact holds_of_block D (by rw [t];simpa using N)
structure Ext (w:World) where
 to:World
 below:Below w.heap.size w to
instance instExt (w:World):Inhabited (Ext w):=⟨⟨w,Below.refl _ _⟩⟩
def bl (w:World) (x:Ext w):World:=x.to
theorem bl_below (w:World) (x:Ext w):Below w.heap.size w (bl w x):=x.below
theorem bl_cell (w:World) (x:Ext w) (b o:Nat) (h:b < w.heap.size):(bl w x).cell? ⟨b,o,none⟩=w.cell? ⟨b,o,none⟩:=x.below.cell (p:=⟨b,o,none⟩) h
theorem bl_frozen (w:World) (x:Ext w) (b o:Nat) (h:b < w.heap.size):(bl w x).frozen? ⟨b,o,none⟩=w.frozen? ⟨b,o,none⟩:=x.below.frozen (p:=⟨b,o,none⟩) h
theorem bl_size (w:World) (x:Ext w):w.heap.size≤(bl w x).heap.size:=x.below.size
theorem wp_region_below {P:Program} {id:Nat} {Q:Exit→Act→World→Prop} {a:Act} {w:World} {l:List Oper} (d:P.follows .mixedOrders=true) (c:Region.lexB .any l.toArray=true)
 (h:wpQuiet P l.toArray (fun w'=>∃ x,w'=bl w x) (fun b=>∀ w',(∃ x,w'=bl w x)→Q .normal b w') l a):(Code.region id l.toArray true).wp P Q a w :=
 wp_region_quiet (C:=fun w'=>∃ x,w'=bl w x) d c ⟨⟨_,(Below.refl w.heap.size w).drew⟩,rfl⟩ (by simpa using h)
theorem bl_of {P:Program} {f:FuncId} {args:Array Value} {w:World} {x:Ext w} {v:Value}
 (h:Calls P f args (bl w x) fun e w'=>e = .returned v∧Below (bl w x).heap.size (bl w x) w'):Calls P f args (bl w x) fun e a=>e = .returned v∧∃ y,a=bl w y :=
 h.mono fun _ a ⟨c,b⟩=>⟨c,⟨a,below_tail (bl_below w x) b⟩,rfl⟩
theorem bl_of_same {P:Program} {f:FuncId} {args:Array Value} {w:World} {x:Ext w} {v:Value}
 (h:Calls P f args (bl w x) fun e w'=>e = .returned v∧bl w x=w'):Calls P f args (bl w x) fun e a=>e = .returned v∧∃ y,a=bl w y :=
 h.mono fun _ a ⟨c,b⟩=>⟨c,x,b.symm⟩
theorem alloc_cell (w:World) (t:TypeId) (cs:Array Value) (j:Nat):(w.alloc (.cells cs t)).cell? ⟨w.heap.size,j,none⟩=cs[j]? := by
 rw [World.cell?_alloc_mark]
theorem alloc_size (w:World) (o:Obj):(w.alloc o).heap.size=w.heap.size+1:=by simp
theorem toList_beq (a b:ByteArray):(a.toList == b.toList)=decide (a=b):=by
 rw [Bool.eq_iff_iff,beq_iff_eq,decide_eq_true_iff]
 constructor
 · intro h
   rw [ByteArray.toList_eq,ByteArray.toList_eq] at h
   cases a;cases b
   simp only [ByteArray.mk.injEq]
   exact Array.toList_inj.1 h
 · intro h;rw [h]
theorem next_none {α:Type} {p:α→Bool} {l:List α} {k:Nat} {x:α} (h:∀ j,j < k→∀ y,l[j]? = some y→p y=false) (d:l[k]? = some x) (c:p x=false):∀ j,j < k+1→∀ y,l[j]? = some y→p y=false:=by
 intro j g y a
 rcases Nat.lt_or_ge j k with b | f
 · exact h j b y a
 · obtain rfl:j=k:=by omega
   rw [d] at a
   injection a with a
   rw [← a];exact c
theorem drop_get {α:Type} {l:List α} {k:Nat} {x:α} (h:l[k]? = some x):l.drop k=x::l.drop (k+1):=by
 obtain ⟨a,rfl⟩:=List.getElem?_eq_some_iff.1 h
 exact List.drop_eq_getElem_cons a
theorem rf_has (h:GH) (G:Gr) (s:Int) (w:World) (a:GrAt w h G) (k:InI64 s) (g:h.n1≤1000) (j:h.n2≤1000) :
 Calls Tryz.prog 51 #[GV h G.start, .int .i64 s] w fun e w'=>e = .returned (.bool (G.has s))∧Below w.heap.size w w':=by
 obtain ⟨a1,n1,c1,a2,n2,c2,a3,n3,c3⟩:=h
 have b:G.terms.length=n1:=a.terms.len
 have c:G.nons.length=n2:=a.nons.len
 have f:G.has s=if 0≤s then decide (s < (n1:Int)) else decide (-1 - s < (n2:Int)):=by unfold Gr.has;rw [b,c]
 rw [f]
 obtain ⟨l,m⟩:=k
 simp only [] at g j
 clear f b c a
 by_cases d:0≤s
 · rw [if_pos d]
   go_enter Tryz.func51,Tryz.ntmps51
   go_wp2_with fail
   go_ret
   exact ⟨by simp,alloc_below _ _⟩
 · rw [if_neg d]
   go_enter Tryz.func51,Tryz.ntmps51
   go_wp2_with fail
   go_ret
   exact ⟨by simp,alloc_below _ _⟩
theorem rf_term (h:GH) (G:Gr) (s:ByteArray) (w:World) (l:GrAt w h G) (o:h.n1≤1000) :
 Calls Tryz.prog 117 #[GV h G.start, .string s] w fun e w'=>e = .returned (.int .i64 (G.term s))∧Below w.heap.size w w':=by
 obtain ⟨a1,n1,c1,a2,n2,c2,a3,n3,c3⟩:=h
 have f:Trms w a1 n1 c1 G.terms:=l.terms
 have u:=f.cap
 simp only [] at o
 clear l
 unfold Gr.term
 go_enter Tryz.func117,Tryz.ntmps117
 go_wp2_with fail
 go_loop [5] (fun i=>∃ k:Nat,k≤n1∧i = .int .i64 (k:Int)∧Hid (∀ j,j < k→∀ y,G.terms[j]? = some y→decide (y.name=s)=false)) (fun i=>n1 - (intOf i).toNat)
 case atStart=>exact ⟨0,Nat.zero_le _,rfl,LH fun j v=>by omega⟩
 case round =>
  obtain ⟨k,x,rfl,d⟩:=hrel
  by_cases p:k < n1
  · obtain ⟨b,A,t,rfl,r,g,B,C,D⟩:=f.get p
    by_cases a:t.name=s
    · have c:Hid (findI (fun t=>decide (t.name=s)) G.terms=(k:Int)):=LH (findI_at g.out (by simp [a]) d.out)
      have q:(t.name.toList == s.toList)=true:=by rw [toList_beq];simp [a]
      clear a
      go_wp2_with fail
      go_ret
      exact ⟨by rw [c.out];rfl,alloc_below _ _⟩
    · have q:(t.name.toList == s.toList)=false:=by rw [toList_beq];simp [a]
      have n:=LH a
      clear a
      go_wp2_with fail
      go_round
      case rel=>exact ⟨k+1,by omega,by go_num,LH (next_none d.out g.out (by simp [n.out]))⟩
      case measure=>simp [intOf];omega
  · obtain rfl:k=n1:=by omega
    have z:=f.len
    have c:Hid (findI (fun t=>decide (t.name=s)) G.terms=-1):=LH (findI_none fun j y m=>d.out j (by have:=(List.getElem?_eq_some_iff.1 m).1;omega) y m)
    go_wp2_with fail
    go_ret
    exact ⟨by rw [c.out];rfl,alloc_below _ _⟩
theorem rf_non (h:GH) (G:Gr) (s:ByteArray) (w:World) (l:GrAt w h G) (o:h.n2≤1000) :
 Calls Tryz.prog 120 #[GV h G.start, .string s] w fun e w'=>e = .returned (.int .i64 (G.non s))∧Below w.heap.size w w':=by
 obtain ⟨a1,n1,c1,a2,n2,c2,a3,n3,c3⟩:=h
 have f:Strs w a2 n2 c2 G.nons:=l.nons
 have u:=f.cap
 simp only [] at o
 clear l
 unfold Gr.non
 go_enter Tryz.func120,Tryz.ntmps120
 go_wp2_with fail
 go_loop [5] (fun i=>∃ k:Nat,k≤n2∧i = .int .i64 (k:Int)∧Hid (∀ j,j < k→∀ y,G.nons[j]? = some y→decide (y=s)=false)) (fun i=>n2 - (intOf i).toNat)
 case atStart=>exact ⟨0,Nat.zero_le _,rfl,LH fun j v=>by omega⟩
 case round =>
  obtain ⟨k,x,rfl,d⟩:=hrel
  by_cases p:k < n2
  · obtain ⟨b,A,t,rfl,r,g,B⟩:=f.get p
    by_cases a:t=s
    · have c:Hid (findI (fun t=>decide (t=s)) G.nons=(k:Int)):=LH (findI_at g.out (by simp [a]) d.out)
      have q:(t.toList == s.toList)=true:=by rw [toList_beq];simp [a]
      clear a
      go_wp2_with fail
      go_ret
      exact ⟨by rw [c.out];rfl,alloc_below _ _⟩
    · have q:(t.toList == s.toList)=false:=by rw [toList_beq];simp [a]
      have n:=LH a
      clear a
      go_wp2_with fail
      go_round
      case rel=>exact ⟨k+1,by omega,by go_num,LH (next_none d.out g.out (by simp [n.out]))⟩
      case measure=>simp [intOf];omega
  · obtain rfl:k=n2:=by omega
    have z:=f.len
    have c:Hid (findI (fun t=>decide (t=s)) G.nons=-1):=LH (findI_none fun j y m=>d.out j (by have:=(List.getElem?_eq_some_iff.1 m).1;omega) y m)
    go_wp2_with fail
    go_ret
    exact ⟨by rw [c.out];rfl,alloc_below _ _⟩
theorem rf_named (s:ByteArray) (w:World) :
 Calls Tryz.prog 116 #[.string s] w fun e w'=>e = .returned (.bool (namedB s))∧w=w':=by
 have c1:=ref_name s w
 have c2:=ref_Literal s w
 unfold namedB
 generalize nameB (bytesOf s)=p at *
 generalize litB (bytesOf s)=q at *
 have a:=LH c1
 have b:=LH c2
 clear c1 c2
 cases p
 all_goals
  go_enter Tryz.func116,Tryz.ntmps116
  go_wp2_with (first
   | (go_at_call 119;(with_reducible refine a.out.mono ?_);rintro e w' ⟨rfl,rfl⟩)
   | (go_at_call 172;(with_reducible refine b.out.mono ?_);rintro e w' ⟨rfl,rfl⟩))
  go_ret
  exact ⟨rfl,rfl⟩
theorem rf_great (h:GH) (G:Gr) (w:World) (c:GrAt w h G) :
 Calls Tryz.prog 14 #[GV h G.start] w fun e w'=>e = .returned (.bool G.great)∧Below w.heap.size w w':=by
 obtain ⟨a1,n1,c1,a2,n2,c2,a3,n3,c3⟩:=h
 have E:Ruls w a3 n3 c3 G.rules:=c.rules
 have p:G.terms.length=n1:=c.terms.len
 have q:G.nons.length=n2:=c.nons.len
 have z:G.rules.length=n3:=c.rules.len
 have L:n1≤c1∧c1≤9223372036854775807:=c.terms.cap
 have M:n2≤c2∧c2≤9223372036854775807:=c.nons.cap
 have N:n3≤c3∧c3≤9223372036854775807:=c.rules.cap
 have d:Hid (G.great=(decide (40 < n1) || decide (40 < n2) || decide (60 < n3) || G.rules.any fun r=>decide (20 < r.right.length))):=LH (by unfold Gr.great;rw [p,q,z])
 clear c p q
 by_cases g:n1≤40
 case neg =>
  have a:G.great=true:=by rw [d.out];simp;omega
  have t:decide ((40:Int) < (n1:Int))=true:=by simp;omega
  rw [a]
  clear g a
  go_enter Tryz.func14,Tryz.ntmps14
  go_wp2_with fail
  go_ret
  exact ⟨rfl,alloc_below _ _⟩
 have t:decide ((40:Int) < (n1:Int))=false:=by simp;omega
 by_cases s:n2≤40
 case neg =>
  have a:G.great=true:=by rw [d.out];simp;omega
  have u:decide ((40:Int) < (n2:Int))=true:=by simp;omega
  rw [a]
  clear g s a
  go_enter Tryz.func14,Tryz.ntmps14
  go_wp2_with fail
  go_ret
  exact ⟨rfl,alloc_below _ _⟩
 have u:decide ((40:Int) < (n2:Int))=false:=by simp;omega
 by_cases A:n3≤60
 case neg =>
  have a:G.great=true:=by rw [d.out];simp;omega
  have v:decide ((60:Int) < (n3:Int))=true:=by simp;omega
  rw [a]
  clear g s A a
  go_enter Tryz.func14,Tryz.ntmps14
  go_wp2_with fail
  go_ret
  exact ⟨rfl,alloc_below _ _⟩
 have v:decide ((60:Int) < (n3:Int))=false:=by simp;omega
 have m:Hid (G.great=G.rules.any fun r=>decide (20 < r.right.length)):=LH (by rw [d.out];simp;omega)
 clear d
 go_enter Tryz.func14,Tryz.ntmps14
 go_wp2_with fail
 go_loop [3] (fun i=>∃ k:Nat,k≤n3∧i = .int .i64 (k:Int)∧Hid (∀ j,j < k→∀ y,G.rules[j]? = some y→decide (20 < y.right.length)=false)) (fun i=>n3 - (intOf i).toNat)
 case atStart=>exact ⟨0,Nat.zero_le _,rfl,LH fun j l=>by omega⟩
 case round =>
  obtain ⟨k,J,rfl,n⟩:=hrel
  by_cases B:k < n3
  · obtain ⟨b,O,r,Ar,cr,rfl,H,o,P,R,S,hi⟩:=E.get B
    have I:=hi.cap
    by_cases D:20 < r.right.length
    · have f:Hid (G.great=true):=LH (by rw [m.out,List.any_eq_true];exact ⟨r,List.mem_of_getElem? o.out,by simp [D]⟩)
      have C:decide ((20:Int) < (r.right.length:Int))=true:=by simp;omega
      go_wp2_with fail
      go_ret
      exact ⟨by rw [f.out];rfl,alloc_below _ _⟩
    · have C:decide ((20:Int) < (r.right.length:Int))=false:=by simp;omega
      go_wp2_with fail
      go_round
      case rel=>exact ⟨k+1,by omega,by go_num,LH (next_none n.out o.out (by simp;omega))⟩
      case measure=>simp [intOf];omega
  · obtain rfl:k=n3:=by omega
    have f:Hid (G.great=false):=LH (by
     rw [m.out,List.any_eq_false]
     intro x F
     obtain ⟨j,l⟩:=List.getElem?_of_mem F
     have:=n.out j (by have:=(List.getElem?_eq_some_iff.1 l).1;omega) x l
     simpa using this)
    go_wp2_with fail
    go_ret
    exact ⟨by rw [f.out];rfl,alloc_below _ _⟩
theorem rf_level (h:GH) (G:Gr) (n:Int) (w:World) (A:GrAt w h G) (H:h.n1≤1000) :
 Calls Tryz.prog 118 #[GV h G.start, .int .i64 n] w fun e w'=>e = .returned (.bool (levelB G.terms n))∧Below w.heap.size w w':=by
 obtain ⟨a1,n1,c1,a2,n2,c2,a3,n3,c3⟩:=h
 have s:Trms w a1 n1 c1 G.terms:=A.terms
 have S:=s.cap
 have U:G.terms.length=n1:=s.len
 simp only [] at H
 clear A
 go_enter Tryz.func118,Tryz.ntmps118
 go_wp2_with fail
 go_loopw [5,6,7] (fun P i t wr=>∃ (k:Nat) (a:Int),k≤n1∧i = .int .i64 (k:Int)∧P = .int .i64 a∧Below w.heap.size w wr∧wr.cell? ⟨w.heap.size,0,none⟩=some (.slice a1 n1 c1)∧w.heap.size < wr.heap.size∧Hid (levelB G.terms n=levelGo n (G.terms.drop k) a)) (fun _ i _ _=>n1 - (intOf i).toNat)
 case atStart=>exact ⟨0,0,Nat.zero_le _,rfl,rfl,alloc_below _ _,by simp,by simp,LH rfl⟩
 case round =>
  obtain ⟨k,a,T,rfl,rfl,r,R,B,f⟩:=hrel
  by_cases J:k < n1
  · obtain ⟨b,L,t,rfl,I,E,M,N,O⟩:=s.get J
    rw [← r.cell (by exact I)] at M N O
    have hd:G.terms.drop k=t::G.terms.drop (k+1):=drop_get E.out
    have z:∀ o,Below w.heap.size w (wr.alloc o):=fun o=>r.alloc (Nat.le_of_lt B) o
    have C:∀ o,(wr.alloc o).cell? ⟨w.heap.size,0,none⟩=some (.slice (some ⟨b,L,none⟩) n1 c1):=fun o=>by rw [(alloc_below wr o).cell (p:=⟨w.heap.size,0,none⟩) B];exact R
    have l:=LH (⟨z,C⟩:_∧_)
    clear z C
    by_cases g:t.level=n
    · by_cases j:a ≠ 0∧a ≠ t.assoc
      · have m:Hid (levelB G.terms n=false):=LH (by rw [f.out,hd,levelGo,if_pos g,if_pos j])
        have v:(t.level != n)=false:=by rw [bne_eq_false_iff_eq];exact g
        have x:(a != 0)=true:=by rw [bne_iff_ne];exact j.1
        have F:(a != t.assoc)=true:=by rw [bne_iff_ne];exact j.2
        clear g j hd f
        go_wp2_with fail
        go_ret
        exact ⟨by rw [m.out];rfl,l.out.1 _⟩
      · have q:Hid (levelB G.terms n=levelGo n (G.terms.drop (k+1)) t.assoc):=LH (by rw [f.out,hd,levelGo,if_pos g,if_neg j])
        have v:(t.level != n)=false:=by rw [bne_eq_false_iff_eq];exact g
        have u:(a != 0)=false∨((a != 0)=true∧(a != t.assoc)=false):=by
         rw [bne_eq_false_iff_eq,bne_eq_false_iff_eq,bne_iff_ne]
         by_cases c:a=0
         · exact .inl c
         · exact .inr ⟨c,by by_cases y:a=t.assoc;exact y;exact absurd ⟨c,y⟩ j⟩
        clear g j hd f
        rcases u with x | ⟨x,F⟩
        all_goals
         go_wp2_with fail
         go_roundw
         case rel=>exact ⟨k+1,t.assoc,by omega,by go_num,rfl,l.out.1 _,l.out.2 _,by simp;omega,q⟩
         case measure=>simp [intOf];omega
    · have q:Hid (levelB G.terms n=levelGo n (G.terms.drop (k+1)) a):=LH (by rw [f.out,hd,levelGo,if_neg g])
      have v:(t.level != n)=true:=by rw [bne_iff_ne];exact g
      clear g hd f
      go_wp2_with fail
      go_roundw
      case rel=>exact ⟨k+1,a,by omega,by go_num,rfl,l.out.1 _,l.out.2 _,by simp;omega,q⟩
      case measure=>simp [intOf];omega
  · obtain rfl:k=n1:=by omega
    have m:Hid (levelB G.terms n=decide (a ≠ 0)):=LH (by rw [f.out,List.drop_of_length_le (by omega)];rfl)
    have u:((a != 0)=true∧a ≠ 0)∨((a != 0)=false∧a=0):=by
     rw [bne_eq_false_iff_eq,bne_iff_ne]
     by_cases c:a=0
     · exact .inr ⟨c,c⟩
     · exact .inl ⟨c,c⟩
    rcases u with ⟨d,c⟩ | ⟨d,c⟩
    all_goals
     have D:=LH c
     clear c
     go_wp2_with fail
     go_ret
     exact ⟨by rw [m.out];simp [D.out],r⟩
theorem bcell {W w1:World} (a:Below W.heap.size W w1):(∀ b o,b < W.heap.size→w1.cell? ⟨b,o,none⟩=W.cell? ⟨b,o,none⟩)∧(∀ b o,b < W.heap.size→w1.frozen? ⟨b,o,none⟩=W.frozen? ⟨b,o,none⟩) :=
 ⟨fun b o h=>a.cell (p:=⟨b,o,none⟩) h,fun b o h=>a.frozen (p:=⟨b,o,none⟩) h⟩
theorem next_noneI {α:Type} {p:Nat→α→Bool} {l:List α} {k:Nat} {x:α} (h:∀ j,j < k→∀ y,l[j]? = some y→(!p j y)=false) (d:l[k]? = some x) (c:(!p k x)=false):∀ j,j < k+1→∀ y,l[j]? = some y→(!p j y)=false:=by
 intro j g y a
 rcases Nat.lt_or_ge j k with b | f
 · exact h j b y a
 · obtain rfl:j=k:=by omega
   rw [d] at a
   injection a with a
   rw [← a];exact c
def GBox (w:World) (g:Nat) (h:GH) (a:Int):Prop :=
 g < w.heap.size∧w.cell? ⟨g,0,none⟩=some (.slice h.a1 h.n1 h.c1)∧w.cell? ⟨g,1,none⟩=some (.slice h.a2 h.n2 h.c2)∧w.cell? ⟨g,2,none⟩=some (.slice h.a3 h.n3 h.c3)∧w.cell? ⟨g,3,none⟩=some (.int .i64 a)
theorem GBox.new (w:World) (t:TypeId) (h:GH) (a:Int):GBox (w.alloc (.cells #[.slice h.a1 h.n1 h.c1, .slice h.a2 h.n2 h.c2, .slice h.a3 h.n3 h.c3, .int .i64 a] t)) w.heap.size h a:=by
 refine ⟨by simp,?_,?_,?_,?_⟩ <;> (rw [alloc_cell];rfl)
theorem GBox.below {w w':World} {g:Nat} {h:GH} {c:Int} (l:GBox w g h c) (b:Below w.heap.size w w'):GBox w' g h c:=by
 obtain ⟨a,d,f,j,k⟩:=l
 refine ⟨Nat.lt_of_lt_of_le a b.size,?_,?_,?_,?_⟩
 · rw [b.cell (p:=⟨g,0,none⟩) a];exact d
 · rw [b.cell (p:=⟨g,1,none⟩) a];exact f
 · rw [b.cell (p:=⟨g,2,none⟩) a];exact j
 · rw [b.cell (p:=⟨g,3,none⟩) a];exact k
theorem rf_terms (h:GH) (G:Gr) (w:World) (R:GrAt w h G) :
 Calls Tryz.prog 64 #[GV h G.start] w fun e w'=>e = .returned (.bool G.termsOK)∧Below w.heap.size w w':=by
 obtain ⟨a1,n1,c1,a2,n2,c2,a3,n3,c3⟩:=h
 have ht:Trms w a1 n1 c1 G.terms:=R.terms
 have hl:G.terms.length=n1:=ht.len
 have bw:=ht.cap
 have V:Hid (G.termsOK=(decide (n1≤24) && allI G.termOK G.terms)):=LH (by unfold Gr.termsOK;rw [hl])
 by_cases h1:n1≤24
 case neg =>
  have X:Hid (G.termsOK=false):=LH (by rw [V.out];simp;omega)
  have d1:decide ((24:Int) < (n1:Int))=true:=by simp;omega
  clear R h1
  go_enter Tryz.func64,Tryz.ntmps64
  go_wp2_with fail
  go_ret
  exact ⟨by rw [X.out];rfl,alloc_below _ _⟩
 have W:Hid (G.termsOK=allI G.termOK G.terms):=LH (by rw [V.out];simp;omega)
 have d1:decide ((24:Int) < (n1:Int))=false:=by simp;omega
 have Hg:=LH R
 clear V R
 go_enter Tryz.func64,Tryz.ntmps64
 have ay:=GBox.new w 26 ⟨a1,n1,c1,a2,n2,c2,a3,n3,c3⟩ G.start
 go_wp2_with fail
 go_loopw [3,4,5] (fun i t n wr=>∃ (k:Nat),k≤n1∧i = .int .i64 (k:Int)∧Below w.heap.size w wr∧GBox wr w.heap.size ⟨a1,n1,c1,a2,n2,c2,a3,n3,c3⟩ G.start∧Hid (∀ j,j < k→∀ y,G.terms[j]? = some y→(!G.termOK j y)=false)) (fun i _ _ _=>n1 - (intOf i).toNat)
 case atStart=>exact ⟨0,Nat.zero_le _,rfl,alloc_below _ _,ay,LH fun j S=>by omega⟩
 case round =>
  clear ay
  obtain ⟨v,rfl⟩:∃ v:World,v=wr:=⟨_,rfl⟩
  obtain ⟨k,hk,rfl,hB,ad,Hk⟩:=hrel
  have ⟨z5,z0,z1,z2,z3⟩:=ad
  simp only [] at z0 z1 z2 z3
  by_cases az:k < n1
  · obtain ⟨b,T,t,rfl,hb,Y,q0,q1,q2⟩:=ht.get az
    rw [← hB.cell (by exact hb)] at q0 q1 q2
    have J:=hB.alloc (Nat.le_of_lt z5) (.cells #[.string t.name, .int .i64 t.level, .int .i64 t.assoc] 91)
    have ai:=ad.below (alloc_below v (.cells #[.string t.name, .int .i64 t.level, .int .i64 t.assoc] 91))
    have p0:=alloc_cell v 91 #[.string t.name, .int .i64 t.level, .int .i64 t.assoc] 0
    have p1:=alloc_cell v 91 #[.string t.name, .int .i64 t.level, .int .i64 t.assoc] 1
    have p2:=alloc_cell v 91 #[.string t.name, .int .i64 t.level, .int .i64 t.assoc] 2
    have p5:=alloc_size v (.cells #[.string t.name, .int .i64 t.level, .int .i64 t.assoc] 91)
    simp only [List.getElem?_toArray,List.getElem?_cons_zero,List.getElem?_cons_succ] at p0 p1 p2
    go_wp2_with fail
    generalize v.alloc (.cells #[.string t.name, .int .i64 t.level, .int .i64 t.assoc] 91)=q at *
    have af:=Hg.out.below J
    have a0:v.heap.size < q.heap.size:=by omega
    clear p5 q0 q1 q2 z0 z1 z2 z3 ad
    generalize v.heap.size=gt at *
    have ⟨z5',z0,z1,z2,z3⟩:=ai
    simp only [] at z0 z1 z2 z3
    have cN:=rf_named t.name q
    have N:=fun hh=>rf_term ⟨some ⟨b,T,none⟩,n1,c1,a2,n2,c2,a3,n3,c3⟩ G t.name q af hh
    have N:=N (by simp only [];omega)
    have ae:G.termOK k t=(decide (G.term t.name=(k:Int)) && basicT t && levelsT G.terms t):=rfl
    unfold basicT at ae
    have an:=LH ae
    clear ae
    generalize namedB t.name=s at *
    generalize G.term t.name=u at *
    have C:=LH cN
    have CT:=LH N
    clear cN N
    have br:(s=false∨(s=true∧u ≠ k)∨(s=true∧u=k∧t.level < 0)∨(s=true∧u=k∧0≤t.level∧24 < t.level)∨(s=true∧u=k∧0≤t.level∧t.level≤24∧t.assoc < 0)∨(s=true∧u=k∧0≤t.level∧t.level≤24∧0≤t.assoc∧3 < t.assoc) ∨
     (s=true∧u=k∧0≤t.level∧t.level≤24∧0≤t.assoc∧t.assoc≤3∧t.level=0∧t.assoc ≠ 0)∨(s=true∧u=k∧0≤t.level∧t.level≤24∧0≤t.assoc∧t.assoc≤3∧t.level ≠ 0∧t.assoc=0)) ∨
     (s=true∧u=k∧0≤t.level∧t.level≤24∧0≤t.assoc∧t.assoc≤3∧(t.level=0∧t.assoc=0∨t.level ≠ 0∧t.assoc ≠ 0)):=by
     cases s
     · simp
     · simp only [Bool.true_eq_false,false_or,true_and]
       omega
    rcases br with ax | bq
    · have A:Hid (G.termsOK=false):=LH (by
       rw [W.out]
       refine allI_false Y.out ?_
       rw [an.out]
       rcases ax with rfl | ⟨rfl,g⟩ | ⟨rfl,g,c⟩ | ⟨rfl,g,c,r⟩ | ⟨rfl,g,c,r,x⟩ | ⟨rfl,g,c,r,x,B⟩ | ⟨rfl,g,c,r,x,B,a,f⟩ | ⟨rfl,g,c,r,x,B,a,f⟩
       · simp
       · simp [g]
       · simp;omega
       · simp;omega
       · simp;omega
       · simp;omega
       · simp [a,f]
       · simp [a,f])
      have E:=LH J
      clear J
      have D:Hid (Calls Tryz.prog 117 #[GV ⟨some ⟨b,T,none⟩,n1,c1,a2,n2,c2,a3,n3,c3⟩ G.start, .string t.name] q fun e w'=>e = .returned (.int .i64 u)∧(∀ b o,b < q.heap.size→w'.cell? ⟨b,o,none⟩=q.cell? ⟨b,o,none⟩)∧Hid (Below w.heap.size w w')):=LH (CT.out.mono fun e w' h=>⟨h.1,(bcell h.2).1,LH (E.out.trans (h.2.mono E.out.size))⟩)
      clear CT hk az
      rcases ax with rfl | ⟨rfl,g⟩ | ⟨rfl,rfl,c⟩ | ⟨rfl,rfl,c,r⟩ | ⟨rfl,rfl,c,r,x⟩ | ⟨rfl,rfl,c,r,x,B⟩ | ⟨rfl,rfl,c,r,x,B,a,f⟩ | ⟨rfl,rfl,c,r,x,B,a,f⟩
      · go_wp2_with (go_at_call 116;(with_reducible refine C.out.mono ?_);rintro e M ⟨rfl,rfl⟩)
        go_ret
        exact ⟨by rw [A.out];rfl,E.out⟩
      · have d:(u != (k:Int))=true:=by rw [bne_iff_ne];exact g
        clear g
        go_wp2_with (first
         | (go_at_call 116;(with_reducible refine C.out.mono ?_);rintro e M ⟨rfl,rfl⟩)
         | (go_at_call 117;(with_reducible refine D.out.mono ?_);rintro e z ⟨rfl,H,p⟩))
        go_ret
        exact ⟨by rw [A.out];rfl,p.out⟩
      iterate 4
       · go_wp2_with (first
         | (go_at_call 116;(with_reducible refine C.out.mono ?_);rintro e M ⟨rfl,rfl⟩)
         | (go_at_call 117;(with_reducible refine D.out.mono ?_);rintro e z ⟨rfl,H,p⟩))
         go_ret
         exact ⟨by rw [A.out];rfl,p.out⟩
      · have Z:(t.level == 0)=true:=by rw [beq_iff_eq];exact a
        have e2:(t.assoc == 0)=false:=by rw [beq_eq_false_iff_ne];exact f
        clear a f
        go_wp2_with (first
         | (go_at_call 116;(with_reducible refine C.out.mono ?_);rintro e M ⟨rfl,rfl⟩)
         | (go_at_call 117;(with_reducible refine D.out.mono ?_);rintro e z ⟨rfl,H,p⟩))
        go_ret
        exact ⟨by rw [A.out];rfl,p.out⟩
      · have Z:(t.level == 0)=false:=by rw [beq_eq_false_iff_ne];exact a
        have e2:(t.assoc == 0)=true:=by rw [beq_iff_eq];exact f
        clear a f
        go_wp2_with (first
         | (go_at_call 116;(with_reducible refine C.out.mono ?_);rintro e M ⟨rfl,rfl⟩)
         | (go_at_call 117;(with_reducible refine D.out.mono ?_);rintro e z ⟨rfl,H,p⟩))
        go_ret
        exact ⟨by rw [A.out];rfl,p.out⟩
    · obtain ⟨rfl,rfl,c,r,x,B,a⟩:=bq
      have E:=LH J
      have bv:=LH af
      have bd:=LH ai
      have D:Hid (Calls Tryz.prog 117 #[GV ⟨some ⟨b,T,none⟩,n1,c1,a2,n2,c2,a3,n3,c3⟩ G.start, .string t.name] q fun e w'=>e = .returned (.int .i64 (k:Int))∧(∀ b o,b < q.heap.size→w'.cell? ⟨b,o,none⟩=q.cell? ⟨b,o,none⟩)∧Hid (Below q.heap.size q w')):=LH (CT.out.mono fun e w' h=>⟨h.1,(bcell h.2).1,LH h.2⟩)
      have ar:Hid (G.termOK k t=levelsT G.terms t):=LH (by
       rw [an.out]
       rcases a with ⟨a,f⟩ | ⟨a,f⟩
       · simp [a,f]
       · have h9:0≤t.level∧t.level≤24∧0≤t.assoc∧t.assoc≤3:=⟨c,r,x,B⟩
         simp [a,f,h9])
      have bk:((t.level == 0)=true∧(t.assoc == 0)=true)∨((t.level == 0)=false∧(t.assoc == 0)=false):=by
       rw [beq_iff_eq,beq_iff_eq,beq_eq_false_iff_ne,beq_eq_false_iff_ne];exact a
      clear CT J af ai a
      rcases bk with ⟨Z,e2⟩ | ⟨Z,e2⟩
      all_goals
       go_wp2_with (first
        | (go_at_call 116;(with_reducible refine C.out.mono ?_);rintro e M ⟨rfl,rfl⟩)
        | (go_at_call 117;(with_reducible refine D.out.mono ?_);rintro e z ⟨rfl,H,p⟩))
       have aw:=E.out.trans (p.out.mono E.out.size)
       have a4:=bd.out.below p.out
       have r1:z.cell? ⟨gt,1,none⟩=some (.int .i64 t.level):=by rw [H _ _ a0];exact p1
       have bo:gt < z.heap.size:=Nat.lt_of_lt_of_le a0 p.out.size
       have be:=LH a4
       clear H p p0 p1 p2 z0 z1 z2 z3 a4
       go_loopw [5] (fun n wr=>∃ m:Nat,(m:Int)≤t.level∧n = .int .i64 ((m:Int)+1)∧Below z.heap.size z wr∧Hid (∀ j:Nat,j < m→levelB G.terms ((j:Int)+1)=true)) (fun n _=>t.level.toNat+1 - (intOf n).toNat)
       case atStart=>exact ⟨0,c,rfl,Below.refl _ _,LH fun j S=>by omega⟩
       case round =>
        obtain ⟨m,hm,rfl,L,Hm⟩:=hrel
        rw [← L.cell (by exact bo)] at r1
        have aj:=be.out.below L
        have ⟨z5',z0,z1,z2,z3⟩:=aj
        simp only [] at z0 z1 z2 z3
        have O:=aw.trans (L.mono aw.size)
        have ag:=Hg.out.below O
        have am:=LH O
        have bf:=LH aj
        have bp:w.heap.size≤wr.heap.size:=O.size
        have al:=LH L
        clear O aj L
        by_cases bz:(m:Int)+1≤t.level
        · have F:=rf_level ⟨some ⟨b,T,none⟩,n1,c1,a2,n2,c2,a3,n3,c3⟩ G ((m:Int)+1) wr ag (by simp only [];omega)
          cases I:levelB G.terms ((m:Int)+1)
          · have A:Hid (G.termsOK=false):=LH (by
             rw [W.out]
             refine allI_false Y.out ?_
             rw [ar.out]
             exact all_false (l:=List.range t.level.toNat) (j:=m) (y:=m) (by rw [List.getElem?_range];omega) I)
            rw [I] at F
            have U:=LH F
            clear F I ag
            go_wp2_with (go_at_call 118;(with_reducible refine U.out.mono ?_);rintro e w6 ⟨rfl,P⟩)
            go_ret
            exact ⟨by rw [A.out];rfl,am.out.trans (P.mono bp)⟩
          · rw [I] at F
            have U:=LH F
            have bb:=LH I
            clear F I ag
            go_wp2_with (go_at_call 118;(with_reducible refine U.out.mono ?_);rintro e w6 ⟨rfl,P⟩)
            have ba:=LH (al.out.trans (P.mono al.out.size))
            clear P
            go_roundw
            case rel=>exact ⟨m+1,by omega,by go_num,ba.out,LH fun j S=>by
             rcases Nat.lt_or_ge j m with h | h
             · exact Hm.out j h
             · obtain rfl:j=m:=by omega
               exact bb.out⟩
            case measure=>simp [intOf];omega
        · have bc:Hid ((!G.termOK k t)=false):=LH (by
           rw [ar.out]
           have:levelsT G.terms t=true:=by
            unfold levelsT
            rw [List.all_eq_true]
            intro j S
            rw [List.mem_range] at S
            exact Hm.out j (by omega)
           rw [this];rfl)
          go_wp2_with fail
          go_roundw
          case rel=>exact ⟨k+1,by omega,by go_num,am.out,bf.out,LH (next_noneI Hk.out Y.out bc.out)⟩
          case measure=>simp [intOf];omega
  · obtain rfl:k=n1:=by omega
    have X:Hid (G.termsOK=true):=LH (by
     rw [W.out]
     refine allI_true fun j y hy=>?_
     have:=Hk.out j (by have:=(List.getElem?_eq_some_iff.1 hy).1;omega) y hy
     simpa using this)
    go_wp2_with fail
    go_ret
    exact ⟨by rw [X.out];rfl,hB⟩
end Go.Proofs.YtggbjdmpjidhgaaGreatDoor
