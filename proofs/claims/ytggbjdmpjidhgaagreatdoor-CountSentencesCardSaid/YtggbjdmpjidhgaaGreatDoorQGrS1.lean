/- slices.Values over strings, slices.AppendSeq, slices.Collect, slices.Sorted. -/
import Derived.Test.YtggbjdmpjidhgaaGreatDoorQKit5
import Derived.Test.YtggbjdmpjidhgaaGreatDoorQGrShelf
import Derived.RangeFuncNested
import Derived.RangeFuncBound
import Derived.RangeFuncCalls
import Derived.RangeFuncLeaves
import Derived.RangeFuncBox
import Derived.Shelf.Abstract
import Derived.Shelf.RegionOpen
import Derived.OwnWalkIn
import Derived.TacticsInMore
import Derived.LoopNIn
import Derived.LoopIn
import Derived.Sort.QuietIn
import Derived.Sort.OwnSorted
import Derived.Test.YtggbjdmpjidhgaaGreatDoorQKit
import Derived.Deep.QuietTactic
import Derived.BigQuiet
set_option linter.unusedVariables false
set_option linter.unusedSimpArgs false
set_option maxHeartbeats 8000000
set_option maxRecDepth 100000
namespace Go.Proofs.YtggbjdmpjidhgaaGreatDoor
open Go.RowKit
open Go.RowKit Go.Shelf
attribute [local go_sem] Oper.semAt_some
theorem take_snocB (zs:List ByteArray) (k:Nat) (s:ByteArray) (h:zs[k]? = some s):zs.take (k+1)=zs.take k++[s]:=by
 rw [List.take_add_one,h];rfl
theorem values1_in (n:Nat) (hn:1≤n) (l Bs n₀ b off cap:Nat) (zs:List ByteArray) (hreach:zs.length≤1000) (hb:b < n₀) (J Jx:List ByteArray→World→Prop)
 (hY:∀ pre x W,J pre W→pre.length < zs.length→YieldAt Fence.wide (n - 1) Tryz.prog l #[.string x] W fun e W' =>
   (e = .returned (.bool true)∧J (pre++[x]) W'∧Below n₀ W W')∨(e = .returned (.bool false)∧Jx (pre++[x]) W'))
 (W:World) (hBs:W.cell? ⟨Bs,0,none⟩=some (.slice (some ⟨b,off,none⟩) zs.length cap)) (hcap:zs.length≤cap∧cap≤9223372036854775807) (hc:∀ j s,zs[j]? = some s→W.cell? ⟨b,off+j,none⟩=some (.string s)) (h0:J [] W) :
 CallsIn Fence.wide n Tryz.prog 206 #[.func (.yield l) #[] #[], .pointer (some ⟨Bs,0,none⟩)] W fun e W'=>(∃ v,e = .returned v) ∧
  ((∃ ys,ys=zs∧J ys W')∨(∃ pre,pre <+: zs∧Jx pre W')):=by
 refine callsIn_of_wp Tryz.func206 rfl trivial ?_ rfl
 simp only [Tryz.ntmps206,List.size_toArray,List.length_cons,List.length_nil,Nat.reduceAdd,Nat.reduceSub,Array.replicate_succ,Array.replicate_zero,List.push_toArray,List.append_toArray,List.nil_append,List.cons_append]
 gi_wp2
 gi_loopw [4,7] (fun _ i wr=>∃ k:Nat,k≤zs.length∧i = .int .i64 k∧J (zs.take k) wr∧Below n₀ W wr)
  (fun _ i _=>zs.length - (intOf i).toNat)
 case atStart=>exact ⟨0,Nat.zero_le _,rfl,by simpa using h0,Below.refl _ _⟩
 case round =>
  obtain ⟨k,hk,rfl,hJs,hnx⟩:=hrel
  by_cases hlt:k < zs.length
  · obtain ⟨s,hs⟩:∃ s,zs[k]? = some s:=⟨_,List.getElem?_eq_getElem hlt⟩
    have hcx:wr.cell? ⟨b,off+k,none⟩=some (.string s):=(hnx.cell (p:=⟨b,off+k,none⟩) hb).trans (hc k s hs)
    have hl:(zs.take k).length=k:=by rw [List.length_take];omega
    obtain ⟨fn,tmps,assign,body,hy,hR⟩:=hY _ s wr hJs (by omega)
    have Hs:=LH (take_snocB zs k s hs)
    clear hc hs hl
    gi_wp2
    refine hR.mono ?_
    rintro e W3 (⟨rfl,hJ3,hk3⟩ | ⟨rfl,hJx3⟩)
    · gi_wp2
      go_roundw
      case rel=>exact ⟨k+1,by omega,by simp,by rw [Hs.out];exact hJ3,hnx.trans hk3⟩
      case measure=>simp [intOf];omega
    · gi_wp2
      refine bodyPost_ret (results_none rfl _ _ _) rfl ?_
      exact ⟨⟨_,rfl⟩, .inr ⟨_,by rw [← Hs.out];exact List.take_prefix _ _,hJx3⟩⟩
  · obtain rfl:k=zs.length:=by omega
    gi_wp2
    go_end0
    exact ⟨⟨_,rfl⟩, .inl ⟨_,rfl,by rw [List.take_of_length_le (Nat.le_refl _)] at hJs;exact hJs⟩⟩
theorem values1_none (n:Nat) (l Bs cap:Nat) (A:Option Addr) (J:List ByteArray→World→Prop) (W:World) (hBs:W.cell? ⟨Bs,0,none⟩=some (.slice A 0 cap)) (h0:J [] W) :
 CallsIn Fence.wide n Tryz.prog 206 #[.func (.yield l) #[] #[], .pointer (some ⟨Bs,0,none⟩)] W fun e W'=>(∃ v,e = .returned v)∧J [] W':=by
 refine callsIn_of_wp Tryz.func206 rfl trivial ?_ rfl
 simp only [Tryz.ntmps206,List.size_toArray,List.length_cons,List.length_nil,Nat.reduceAdd,Nat.reduceSub,Array.replicate_succ,Array.replicate_zero,List.push_toArray,List.append_toArray,List.nil_append,List.cons_append]
 gi_wp2
 gi_loopw [7] (fun i wr=>i = .int .i64 0∧J [] wr) (fun _ _=>0)
 case atStart=>exact ⟨rfl,h0⟩
 case round =>
  obtain ⟨rfl,hJs⟩:=hrel
  gi_wp2
  go_end0
  exact ⟨⟨_,rfl⟩,hJs⟩
theorem values_in (A:Option Addr) (L cap:Nat) (w:World) :
 Calls Tryz.prog 162 #[.slice A L cap] w fun e w' =>
  e = .returned (.func (.func 206) #[] #[.pointer (some ⟨w.heap.size,0,none⟩)]) ∧
  w'=w.alloc (.cells #[.slice A L cap] 23):=by
 go_enter Tryz.func162,Tryz.ntmps162
 go_wp2
 go_ret
 exact ⟨rfl,rfl⟩
theorem values_stops (n:Nat) (hn:1≤n) (Bs n₀ L cap:Nat) (A:Option Addr) (zs:List ByteArray) (hreach:zs.length≤1000) (w:World) (hBs:Bs < w.heap.size) (hn₀:n₀≤w.heap.size)
 (hc:w.cell? ⟨Bs,0,none⟩=some (.slice A L cap)) (hI:Strs w A L cap zs) (hA:0 < L→∀ a,A=some a→a.block < n₀) :
 SeqStopsK Fence.wide n Tryz.prog 206 #[.pointer (some ⟨Bs,0,none⟩)] (fun x:ByteArray=>#[Value.string x]) (Below n₀) (fun ys=>ys=zs) (fun pre=>pre <+: zs) zs.length w:=fun l J Jx W hW _ _ hY h0=>by
 have hc':=(hW.cell (p:=⟨Bs,0,none⟩) hBs).trans hc
 obtain rfl:=hI.len
 rcases Nat.eq_zero_or_pos zs.length with h | h
 · have hz:=List.eq_nil_of_length_eq_zero h
   subst hz
   exact (values1_none n l Bs cap A J W hc' h0).mono fun e W' ⟨he,hj⟩=>⟨he, .inl ⟨_,rfl,hj⟩⟩
 · obtain ⟨b,off,s,rfl,hb,_,_⟩:=hI.get h
   have hI':=hI.below hW
   have hcs:∀ j s,zs[j]? = some s→W.cell? ⟨b,off+j,none⟩=some (.string s):=fun j s hs=>by
    obtain ⟨b',off',s',e,_,Hs,hcell⟩:=hI'.get (List.getElem?_eq_some_iff.1 hs).1
    injection e with e
    injection e with e1 e2
    subst e1;subst e2
    rw [Hs.out] at hs
    injection hs with hs
    rw [hcell,hs]
   exact values1_in n hn l Bs n₀ b off cap zs hreach (hA h _ rfl) J Jx hY W hc' hI.cap hcs h0
theorem appendSeq_in (n:Nat) (hn:3≤n) (Bs L cap:Nat) (A:Option Addr) (zs:List ByteArray) (hreach:zs.length≤1000) (w:World) (hBs:Bs < w.heap.size) (hc:w.cell? ⟨Bs,0,none⟩=some (.slice A L cap)) (hI:Strs w A L cap zs) :
 CallsIn Fence.wide n Tryz.prog 230 #[.slice none 0 0, .func (.func 206) #[] #[.pointer (some ⟨Bs,0,none⟩)]] w fun e w' =>
  ∃ v,e = .returned v∧w'.ownsRow w.heap.size 9 1 v zs.length (zs.map Value.string)∧Below w.heap.size w w':=by
 have h1:1≤n:=by omega
 have hi9:(Tryz.prog.info? 9).map (fun i=>(i.zero,i.size,i.bytes))=some (some (.string ⟨#[]⟩),1,16):=by kernel_rfl
 obtain ⟨i0,hi,hz0,hz1,hz2⟩:=info_parts hi9
 refine callsIn_of_wp_marks Tryz.func230 rfl trivial ?_ rfl
 simp only [Tryz.ntmps230,List.size_toArray,List.length_cons,List.length_nil,Nat.reduceAdd,Nat.reduceSub,Array.replicate_succ,Array.replicate_zero,List.push_toArray,List.append_toArray,List.nil_append,List.cons_append]
 gi_wp2
 have bS:=Boxed.new w 23 (.slice none 0 0)
 have hB0:Below w.heap.size w (w.alloc (.cells #[.slice none 0 0] 23)):=(Below.refl _ w).alloc (Nat.le_refl _) _
 have hA:0 < L→∀ a,A=some a→a.block < w.heap.size:=fun h a ha=>by
  obtain ⟨b,off,s,e,hb,_⟩:=hI.get h
  rw [ha] at e
  injection e with e
  rw [e];exact hb
 have hst:=values_stops (n - 1) (by omega) Bs w.heap.size L cap A zs hreach w hBs (Nat.le_refl _) hc hI hA
 refine wpIn_rangeFunc_ownG (F:=Fence.wide) (n:=n) rfl h1 (gf:=206) (lb:=#[.pointer (some ⟨Bs,0,none⟩)]) rfl trivial (enters_of Tryz.func206 (by kernel_rfl) rfl)
  hst belowK_t (belowK_b (by simp)) hB0 (fun _=>rfl)
  (fun pre W=>(∃ v,Boxed W w.heap.size 23 v∧W.ownsRow w.heap.size 9 1 v pre.length (pre.map Value.string)∧True)∧Below w.heap.size w W)
  (fun _ _ _=>False)
  (OwnFrom.and (Own.from (holdsRow_own w.heap.size w.heap.size 23 9 1 (fun pre:List ByteArray=>pre.length) (fun pre=>pre.map Value.string) (fun _ _=>True)) _) (ownFrom_below (Nat.le_refl _) (by simp)))
  (fun _ _ _ _ _ hs _ _=>hs)
  ⟨⟨_,bS,⟨rfl, .inl ⟨rfl,rfl⟩⟩,trivial⟩,hB0⟩
  (fun x=>{ tmps:=#[.slice none 0 0, .func (.func 206) #[] #[.pointer (some ⟨Bs,0,none⟩)], .pointer (some ⟨w.heap.size,0,none⟩),undef, .slice none 0 0, .string x, .func (.func 206) #[] #[.pointer (some ⟨Bs,0,none⟩)], .string x,undef,undef,undef,undef,undef],defers:=[] }) ?assign ?body ?done ?stop
 case assign =>
  intro l x W K hK
  gi_wp2
  exact hK
 case body =>
  rintro l pre x W ⟨⟨v,hv,hrow,_⟩,hB⟩ hlen
  have hc1:=hv.cell
  have hf1:=hv.frozen
  have hB':=hB.size
  have hvlt:=hv.lt
  gi_wp2_with (gi_at_builtin;refine wpListIn_append_own _ rfl _ _ 23 rfl w.heap.size 9 i0 (.string ⟨#[]⟩) 1 16 Tryz.underlying23 hi hz0 hz1 hz2 rfl (by decide) _ _ _ rfl (hrow.alloc _) ⟨W.heap.size,0,none⟩ 1 1 [.string x] rfl rfl (cell_one_new _ _ _) (by simp [Value.oneCell']) (by simp [maxLen];omega) (by omega) (by simp;omega) ?_;intro v' w3 hown' hg3 hnil3;have hg3':(W.alloc (.cells #[.string x] 9)).grownBy w3 v.ownBlock:=hg3;obtain ⟨g',cap',rfl⟩:=ownsRow_succ hown';have hap:=hv.appended (by decide) hrow hB' (Nat.le_refl _) hown' hg3';have hc3:=hap.1.cell;have hf3:=hap.1.frozen;have Hap:=LH hap;clear hap hg3 hg3' hown' hnil3 hrow hc1 hf1;go_frame)
  obtain ⟨_,e2,e3,e4,e5⟩:=Hap.out
  exact ⟨e4.from _,e5,⟨_,e2,by simpa using e3,trivial⟩,hB.trans e5⟩
 case done =>
  rintro D ys W hD rfl ⟨⟨v,hv,hrow,_⟩,hB⟩ hK
  have hc1:=hv.cell
  gi_wp2
  refine ⟨by simp, .inl ⟨_,_,rfl,run_takeDeferred hK,?_⟩⟩
  exact ⟨_,results_tmp rfl _ _ _,v,rfl,ownsRow_putObj hrow _ hK rfl,hB.trans (belowK_b (w:=w) (Nat.le_refl _) W D _ _ (by simp at hD;omega) hK rfl rfl)⟩
 case stop =>
  rintro D c pre W _ _ h _
  exact h.elim
open Go.RowKit Go.Shelf Go.Sort
theorem compact_len (l:List (List UInt8)) (hs:l.Pairwise (fun x y=>x≤y)):(Lib.compact l).length=l.length ↔ l.Nodup:=by
 unfold Lib.compact Lib.compactUpTo
 rw [List.length_map]
 have h1:(List.filter (Lib.keeps l.toArray) (List.range l.length)).length=l.length ↔ ∀ j ∈ List.range l.length,Lib.keeps l.toArray j=true:=by
  have:=List.length_filter_eq_length_iff (p:=Lib.keeps l.toArray) (l:=List.range l.length)
  rwa [List.length_range] at this
 rw [h1]
 have hk:∀ j,0 < j→j < l.length→(Lib.keeps l.toArray j=true ↔ l[j]? ≠ l[j - 1]?):=by
  intro j h0 hj
  have e1:l.toArray[j]! = l[j]'hj:=by simp [hj]
  have e2:l.toArray[j - 1]! = l[j - 1]'(by omega):=by simp [show j - 1 < l.length by omega]
  rw [List.getElem?_eq_getElem hj,List.getElem?_eq_getElem (show j - 1 < l.length by omega)]
  constructor
  · intro h he
    injection he with he
    rw [Lib.keeps_neg h0 (by rw [e1,e2];exact he)] at h
    cases h
  · intro h
    exact Lib.keeps_pos (by rw [e1,e2];intro he;exact h (by rw [he]))
 constructor
 · intro h
   rw [List.nodup_iff_pairwise_ne,List.pairwise_iff_getElem]
   intro i j hi hj hij he
   have hle:∀ a b (ha:a < l.length) (hb:b < l.length),a≤b→l[a]≤l[b]:=by
    intro a b ha hb hab
    rcases Nat.lt_or_ge a b with h | h
    · exact List.pairwise_iff_getElem.1 hs a b ha hb h
    · obtain rfl:a=b:=by omega
      exact List.le_refl _
   have h2:=hle i (j - 1) hi (by omega) (by omega)
   have h3:=hle (j - 1) j (by omega) hj (by omega)
   rw [he] at h2
   have:=List.le_antisymm h3 h2
   have hkj:=(hk j (by omega) hj).1 (h j (by rw [List.mem_range];exact hj))
   apply hkj
   rw [List.getElem?_eq_getElem hj,List.getElem?_eq_getElem (show j - 1 < l.length by omega),this]
 · intro h j hj
   rw [List.mem_range] at hj
   rcases Nat.eq_zero_or_pos j with h0 | h0
   · subst h0;simp [Lib.keeps]
   · rw [hk j h0 hj,List.getElem?_eq_getElem hj,List.getElem?_eq_getElem (show j - 1 < l.length by omega)]
     intro he
     injection he with he
     rw [List.nodup_iff_pairwise_ne,List.pairwise_iff_getElem] at h
     exact h (j - 1) j (by omega) hj (by omega) he.symm
theorem sorted_len (ss:List (List UInt8)):(Lib.compact (ss.mergeSort fun x y=>decide (x≤y))).length=ss.length ↔ ss.Nodup:=by
 have hp:=List.mergeSort_perm ss (fun x y=>decide (x≤y))
 have hs:(ss.mergeSort fun x y=>decide (x≤y)).Pairwise (fun x y=>x≤y):=by
  have:=List.pairwise_mergeSort (le:=fun x y:List UInt8=>decide (x≤y)) (fun a b c h1 h2=>by
   simp only [decide_eq_true_eq] at *;exact List.le_trans h1 h2) (fun a b=>by
   simp only [Bool.or_eq_true,decide_eq_true_eq];exact List.le_total _ _) ss
  exact this.imp fun h=>by simpa using h
 rw [← hp.nodup_iff,← hp.length_eq]
 exact compact_len _ hs
def byL (zs:List ByteArray):List (List UInt8):=zs.map fun z=>z.data.toList
theorem byL_nodup (zs:List ByteArray):(byL zs).Nodup ↔ zs.Nodup:=by
 unfold byL
 rw [List.nodup_iff_pairwise_ne,List.nodup_iff_pairwise_ne,List.pairwise_map]
 constructor
 · intro h
   exact h.imp fun hne he=>hne (by rw [he])
 · intro h
   refine h.imp fun {a b} hne he=>hne ?_
   cases a;cases b
   simp only [ByteArray.mk.injEq]
   exact Array.toList_inj.1 he
theorem encStr_byL (zs:List ByteArray):(byL zs).map encStr=zs.map Value.string:=by
 unfold byL
 rw [List.map_map]
 refine List.map_congr_left fun z _=>?_
 cases z
 simp [encStr]
theorem collect_s (Bs L cap:Nat) (A:Option Addr) (zs:List ByteArray) (hreach:zs.length≤1000) (w:World) (hBs:Bs < w.heap.size) (hc:w.cell? ⟨Bs,0,none⟩=some (.slice A L cap)) (hI:Strs w A L cap zs) :
 Calls Tryz.prog 204 #[.func (.func 206) #[] #[.pointer (some ⟨Bs,0,none⟩)]] w fun e w' =>
  ∃ v,e = .returned v∧w'.ownsRow w.heap.size 9 1 v zs.length (zs.map Value.string)∧Below w.heap.size w w':=by
 have hc1:=(callsIn_wide (n:=3)).1 (appendSeq_in 3 (by decide) Bs L cap A zs hreach w hBs hc hI)
 have H:=LH hc1
 clear hc1 hc hI
 go_enter Tryz.func204,Tryz.ntmps204
 go_wp2_with (go_at_call 230;(with_reducible refine H.out.mono ?_);rintro e w2 ⟨v,rfl,ho,hb⟩)
 go_ret
 exact ⟨v,rfl,ho,hb⟩
def RetSorted (w:World) (zs:List ByteArray) (e:Ending) (w':World):Prop :=
 Below w.heap.size w w'∧((zs=[]∧e = .returned (.slice none 0 0)) ∨
  ∃ g cap,e = .returned (.slice (some ⟨g,0,none⟩) zs.length cap)∧w.heap.size≤g∧g < w'.heap.size∧zs.length≤cap∧Holds encStr w' g 0 ((byL zs).mergeSort fun x y=>decide (x≤y)).toArray)
theorem sorted_s (Bs L cap:Nat) (A:Option Addr) (zs:List ByteArray) (hreach:zs.length≤1000) (w:World) (hBs:Bs < w.heap.size) (hc:w.cell? ⟨Bs,0,none⟩=some (.slice A L cap)) (hI:Strs w A L cap zs) :
 Calls Tryz.prog 161 #[.func (.func 206) #[] #[.pointer (some ⟨Bs,0,none⟩)]] w (RetSorted w zs):=by
 have H:=LH (collect_s Bs L cap A zs hreach w hBs hc hI)
 clear hc hI
 go_enter Tryz.func161,Tryz.ntmps161
 go_wp2_with (go_at_call 204;(with_reducible refine H.out.mono ?_);rintro e W ⟨v,rfl,hrow,hb⟩)
 have hlen:(byL zs).length=zs.length:=by simp [byL]
 rcases hrow.2 with ⟨rfl,hz⟩ | ⟨gb,cap',cur,rfl,hbase,hgb,r1,r2,r3,r4⟩
 · have hz':=List.eq_nil_of_length_eq_zero hz
   subst hz'
   have Hs:=LH (Tryz.slices_Sort_string_none none 0 W)
   go_wp2_with (go_at_call 205;(with_reducible refine Hs.out.mono ?_);rintro e w' ⟨rfl,rfl⟩)
   go_ret
   exact ⟨hb, .inl ⟨rfl,rfl⟩⟩
 · have hgl:gb < W.heap.size:=(Array.getElem?_eq_some_iff.1 hgb).1
   have hH:Holds encStr W gb 0 (byL zs).toArray:=holds_of_block hgb (by rw [hlen,encStr_byL];simpa using r4)
   have cS:=Tryz.slices_Sort_string gb 0 cap' (byL zs) W hH hgl (by omega)
   rw [hlen] at cS
   have CS:=LH cS
   clear cS hH
   go_wp2_with (go_at_call 205;(with_reducible refine CS.out.mono ?_);rintro e w' ⟨rfl,nn,os,rfl⟩)
   go_ret
   have hsl:((byL zs).mergeSort fun x y=>decide (x≤y)).length=(byL zs).length:=by simp
   have ho:=ownsRow_sorted (n:=nn) (os:=os) hsl hbase hgb (by omega) r2 r3
   have hbel:=hb.grown (grownBy_sorted (n:=nn) (os:=os) ((byL zs).mergeSort fun x y=>decide (x≤y)).toArray) hb.size (fun j hj=>by cases hj;exact hbase)
   refine ⟨hbel, .inr ⟨gb,cap',rfl,hbase,?_,r1,?_⟩⟩
   · exact Nat.lt_of_lt_of_le hgl (grownBy_sorted (n:=nn) (os:=os) _).size
   · rcases ho.2 with ⟨h0,_⟩ | ⟨g2,cap2,cur2,h0,_,hg2,_,_,_,q4⟩
     · cases h0
     · injection h0 with e1 _ _
       injection e1 with e1
       injection e1 with e1
       subst e1
       exact holds_of_block hg2 (by rw [hsl];simpa using q4)
structure Ext (w:World) where
 to:World
 below:Below w.heap.size w to
instance instExt (w:World):Inhabited (Ext w):=⟨⟨w,Below.refl _ _⟩⟩
def bl (w:World) (x:Ext w):World:=x.to
theorem bl_below (w:World) (x:Ext w):Below w.heap.size w (bl w x):=x.below
theorem bl_cell (w:World) (x:Ext w) (b o:Nat) (h:b < w.heap.size):(bl w x).cell? ⟨b,o,none⟩=w.cell? ⟨b,o,none⟩:=x.below.cell (p:=⟨b,o,none⟩) h
theorem bl_frozen (w:World) (x:Ext w) (b o:Nat) (h:b < w.heap.size):(bl w x).frozen? ⟨b,o,none⟩=w.frozen? ⟨b,o,none⟩:=x.below.frozen (p:=⟨b,o,none⟩) h
theorem bl_size (w:World) (x:Ext w):w.heap.size≤(bl w x).heap.size:=x.below.size
theorem wp_region_below {P:Program} {id:Nat} {Q:Exit→Act→World→Prop} {a:Act} {w:World} {l:List Oper} (hm:P.follows .mixedOrders=true) (hB:Region.lexB .any l.toArray=true)
 (h:wpQuiet P l.toArray (fun w'=>∃ x,w'=bl w x) (fun a'=>∀ w',(∃ x,w'=bl w x)→Q .normal a' w') l a):(Code.region id l.toArray true).wp P Q a w :=
 wp_region_quiet (C:=fun w'=>∃ x,w'=bl w x) hm hB ⟨⟨_,(Below.refl w.heap.size w).drew⟩,rfl⟩ (by simpa using h)
theorem bl_of {P:Program} {f:FuncId} {args:Array Value} {w:World} {x:Ext w} {v:Value}
 (h:Calls P f args (bl w x) fun e w'=>e = .returned v∧Below (bl w x).heap.size (bl w x) w'):Calls P f args (bl w x) fun e w''=>e = .returned v∧∃ y,w''=bl w y :=
 h.mono fun _ w'' ⟨he,hb⟩=>⟨he,⟨w'',below_tail (bl_below w x) hb⟩,rfl⟩
theorem bl_of_same {P:Program} {f:FuncId} {args:Array Value} {w:World} {x:Ext w} {v:Value}
 (h:Calls P f args (bl w x) fun e w'=>e = .returned v∧bl w x=w'):Calls P f args (bl w x) fun e w''=>e = .returned v∧∃ y,w''=bl w y :=
 h.mono fun _ w'' ⟨he,hb⟩=>⟨he,x,hb.symm⟩
theorem alloc_cell (w:World) (t:TypeId) (cs:Array Value) (j:Nat):(w.alloc (.cells cs t)).cell? ⟨w.heap.size,j,none⟩=cs[j]? := by
 rw [World.cell?_alloc_mark]
theorem alloc_size (w:World) (o:Obj):(w.alloc o).heap.size=w.heap.size+1:=by simp
theorem toList_beq (a b:ByteArray):(a.toList == b.toList)=decide (a=b):=by
 rw [Bool.eq_iff_iff,beq_iff_eq,decide_eq_true_iff]
 constructor
 · intro h
   rw [ByteArray.toList_eq,ByteArray.toList_eq] at h
   cases a;cases b
   simp only [ByteArray.mk.injEq]
   exact Array.toList_inj.1 h
 · intro h;rw [h]
theorem next_none {α:Type} {p:α→Bool} {l:List α} {k:Nat} {x:α} (h:∀ j,j < k→∀ y,l[j]? = some y→p y=false) (hx:l[k]? = some x) (hp:p x=false):∀ j,j < k+1→∀ y,l[j]? = some y→p y=false:=by
 intro j hj y hy
 rcases Nat.lt_or_ge j k with hlt | hge
 · exact h j hlt y hy
 · obtain rfl:j=k:=by omega
   rw [hx] at hy
   injection hy with hy
   rw [← hy];exact hp
theorem drop_get {α:Type} {l:List α} {k:Nat} {x:α} (h:l[k]? = some x):l.drop k=x::l.drop (k+1):=by
 obtain ⟨hk,rfl⟩:=List.getElem?_eq_some_iff.1 h
 exact List.drop_eq_getElem_cons hk
theorem rf_has (h:GH) (G:Gr) (s:Int) (w:World) (hg:GrAt w h G) (hs:InI64 s) (h1:h.n1≤1000) (h2:h.n2≤1000) :
 Calls Tryz.prog 51 #[GV h G.start, .int .i64 s] w fun e w'=>e = .returned (.bool (G.has s))∧Below w.heap.size w w':=by
 obtain ⟨a1,n1,c1,a2,n2,c2,a3,n3,c3⟩:=h
 have e1:G.terms.length=n1:=hg.terms.len
 have e2:G.nons.length=n2:=hg.nons.len
 have hf:G.has s=if 0≤s then decide (s < (n1:Int)) else decide (-1 - s < (n2:Int)):=by unfold Gr.has;rw [e1,e2]
 rw [hf]
 obtain ⟨s1,s2⟩:=hs
 simp only [] at h1 h2
 clear hf e1 e2 hg
 by_cases h0:0≤s
 · rw [if_pos h0]
   go_enter Tryz.func51,Tryz.ntmps51
   go_wp2_with fail
   go_ret
   exact ⟨by simp,alloc_below _ _⟩
 · rw [if_neg h0]
   go_enter Tryz.func51,Tryz.ntmps51
   go_wp2_with fail
   go_ret
   exact ⟨by simp,alloc_below _ _⟩
theorem rf_term (h:GH) (G:Gr) (s:ByteArray) (w:World) (hg:GrAt w h G) (h1:h.n1≤1000) :
 Calls Tryz.prog 117 #[GV h G.start, .string s] w fun e w'=>e = .returned (.int .i64 (G.term s))∧Below w.heap.size w w':=by
 obtain ⟨a1,n1,c1,a2,n2,c2,a3,n3,c3⟩:=h
 have ht:Trms w a1 n1 c1 G.terms:=hg.terms
 have hcap:=ht.cap
 simp only [] at h1
 clear hg
 unfold Gr.term
 go_enter Tryz.func117,Tryz.ntmps117
 go_wp2_with fail
 go_loop [5] (fun i=>∃ k:Nat,k≤n1∧i = .int .i64 (k:Int)∧Hid (∀ j,j < k→∀ y,G.terms[j]? = some y→decide (y.name=s)=false)) (fun i=>n1 - (intOf i).toNat)
 case atStart=>exact ⟨0,Nat.zero_le _,rfl,LH fun j hj=>by omega⟩
 case round =>
  obtain ⟨k,hk,rfl,Hk⟩:=hrel
  by_cases hkk:k < n1
  · obtain ⟨b,off,t,rfl,hb,Ht,q0,q1,q2⟩:=ht.get hkk
    by_cases hs:t.name=s
    · have Hf:Hid (findI (fun t=>decide (t.name=s)) G.terms=(k:Int)):=LH (findI_at Ht.out (by simp [hs]) Hk.out)
      have hq:(t.name.toList == s.toList)=true:=by rw [toList_beq];simp [hs]
      clear hs
      go_wp2_with fail
      go_ret
      exact ⟨by rw [Hf.out];rfl,alloc_below _ _⟩
    · have hq:(t.name.toList == s.toList)=false:=by rw [toList_beq];simp [hs]
      have Hs:=LH hs
      clear hs
      go_wp2_with fail
      go_round
      case rel=>exact ⟨k+1,by omega,by go_num,LH (next_none Hk.out Ht.out (by simp [Hs.out]))⟩
      case measure=>simp [intOf];omega
  · obtain rfl:k=n1:=by omega
    have hl:=ht.len
    have Hf:Hid (findI (fun t=>decide (t.name=s)) G.terms=-1):=LH (findI_none fun j y hy=>Hk.out j (by have:=(List.getElem?_eq_some_iff.1 hy).1;omega) y hy)
    go_wp2_with fail
    go_ret
    exact ⟨by rw [Hf.out];rfl,alloc_below _ _⟩
theorem rf_non (h:GH) (G:Gr) (s:ByteArray) (w:World) (hg:GrAt w h G) (h1:h.n2≤1000) :
 Calls Tryz.prog 120 #[GV h G.start, .string s] w fun e w'=>e = .returned (.int .i64 (G.non s))∧Below w.heap.size w w':=by
 obtain ⟨a1,n1,c1,a2,n2,c2,a3,n3,c3⟩:=h
 have ht:Strs w a2 n2 c2 G.nons:=hg.nons
 have hcap:=ht.cap
 simp only [] at h1
 clear hg
 unfold Gr.non
 go_enter Tryz.func120,Tryz.ntmps120
 go_wp2_with fail
 go_loop [5] (fun i=>∃ k:Nat,k≤n2∧i = .int .i64 (k:Int)∧Hid (∀ j,j < k→∀ y,G.nons[j]? = some y→decide (y=s)=false)) (fun i=>n2 - (intOf i).toNat)
 case atStart=>exact ⟨0,Nat.zero_le _,rfl,LH fun j hj=>by omega⟩
 case round =>
  obtain ⟨k,hk,rfl,Hk⟩:=hrel
  by_cases hkk:k < n2
  · obtain ⟨b,off,t,rfl,hb,Ht,q0⟩:=ht.get hkk
    by_cases hs:t=s
    · have Hf:Hid (findI (fun t=>decide (t=s)) G.nons=(k:Int)):=LH (findI_at Ht.out (by simp [hs]) Hk.out)
      have hq:(t.toList == s.toList)=true:=by rw [toList_beq];simp [hs]
      clear hs
      go_wp2_with fail
      go_ret
      exact ⟨by rw [Hf.out];rfl,alloc_below _ _⟩
    · have hq:(t.toList == s.toList)=false:=by rw [toList_beq];simp [hs]
      have Hs:=LH hs
      clear hs
      go_wp2_with fail
      go_round
      case rel=>exact ⟨k+1,by omega,by go_num,LH (next_none Hk.out Ht.out (by simp [Hs.out]))⟩
      case measure=>simp [intOf];omega
  · obtain rfl:k=n2:=by omega
    have hl:=ht.len
    have Hf:Hid (findI (fun t=>decide (t=s)) G.nons=-1):=LH (findI_none fun j y hy=>Hk.out j (by have:=(List.getElem?_eq_some_iff.1 hy).1;omega) y hy)
    go_wp2_with fail
    go_ret
    exact ⟨by rw [Hf.out];rfl,alloc_below _ _⟩
theorem rf_named (s:ByteArray) (w:World) :
 Calls Tryz.prog 116 #[.string s] w fun e w'=>e = .returned (.bool (namedB s))∧w=w':=by
 have c1:=ref_name s w
 have c2:=ref_Literal s w
 unfold namedB
 generalize nameB (bytesOf s)=p at *
 generalize litB (bytesOf s)=q at *
 have C1:=LH c1
 have C2:=LH c2
 clear c1 c2
 cases p
 all_goals
  go_enter Tryz.func116,Tryz.ntmps116
  go_wp2_with (first
   | (go_at_call 119;(with_reducible refine C1.out.mono ?_);rintro e w' ⟨rfl,rfl⟩)
   | (go_at_call 172;(with_reducible refine C2.out.mono ?_);rintro e w' ⟨rfl,rfl⟩))
  go_ret
  exact ⟨rfl,rfl⟩
theorem rf_great (h:GH) (G:Gr) (w:World) (hg:GrAt w h G) :
 Calls Tryz.prog 14 #[GV h G.start] w fun e w'=>e = .returned (.bool G.great)∧Below w.heap.size w w':=by
 obtain ⟨a1,n1,c1,a2,n2,c2,a3,n3,c3⟩:=h
 have ht:Ruls w a3 n3 c3 G.rules:=hg.rules
 have e1:G.terms.length=n1:=hg.terms.len
 have e2:G.nons.length=n2:=hg.nons.len
 have e3:G.rules.length=n3:=hg.rules.len
 have k1:n1≤c1∧c1≤9223372036854775807:=hg.terms.cap
 have k2:n2≤c2∧c2≤9223372036854775807:=hg.nons.cap
 have k3:n3≤c3∧c3≤9223372036854775807:=hg.rules.cap
 have Hf:Hid (G.great=(decide (40 < n1) || decide (40 < n2) || decide (60 < n3) || G.rules.any fun r=>decide (20 < r.right.length))):=LH (by unfold Gr.great;rw [e1,e2,e3])
 clear hg e1 e2
 by_cases g1:n1≤40
 case neg =>
  have hfin:G.great=true:=by rw [Hf.out];simp;omega
  have d1:decide ((40:Int) < (n1:Int))=true:=by simp;omega
  rw [hfin]
  clear g1 hfin
  go_enter Tryz.func14,Tryz.ntmps14
  go_wp2_with fail
  go_ret
  exact ⟨rfl,alloc_below _ _⟩
 have d1:decide ((40:Int) < (n1:Int))=false:=by simp;omega
 by_cases g2:n2≤40
 case neg =>
  have hfin:G.great=true:=by rw [Hf.out];simp;omega
  have d2:decide ((40:Int) < (n2:Int))=true:=by simp;omega
  rw [hfin]
  clear g1 g2 hfin
  go_enter Tryz.func14,Tryz.ntmps14
  go_wp2_with fail
  go_ret
  exact ⟨rfl,alloc_below _ _⟩
 have d2:decide ((40:Int) < (n2:Int))=false:=by simp;omega
 by_cases g3:n3≤60
 case neg =>
  have hfin:G.great=true:=by rw [Hf.out];simp;omega
  have d3:decide ((60:Int) < (n3:Int))=true:=by simp;omega
  rw [hfin]
  clear g1 g2 g3 hfin
  go_enter Tryz.func14,Tryz.ntmps14
  go_wp2_with fail
  go_ret
  exact ⟨rfl,alloc_below _ _⟩
 have d3:decide ((60:Int) < (n3:Int))=false:=by simp;omega
 have Hf2:Hid (G.great=G.rules.any fun r=>decide (20 < r.right.length)):=LH (by rw [Hf.out];simp;omega)
 clear Hf
 go_enter Tryz.func14,Tryz.ntmps14
 go_wp2_with fail
 go_loop [3] (fun i=>∃ k:Nat,k≤n3∧i = .int .i64 (k:Int)∧Hid (∀ j,j < k→∀ y,G.rules[j]? = some y→decide (20 < y.right.length)=false)) (fun i=>n3 - (intOf i).toNat)
 case atStart=>exact ⟨0,Nat.zero_le _,rfl,LH fun j hj=>by omega⟩
 case round =>
  obtain ⟨k,hk,rfl,Hk⟩:=hrel
  by_cases hkk:k < n3
  · obtain ⟨b,off,r,Ar,cr,rfl,hb,Hr,q0,q1,q2,hi⟩:=ht.get hkk
    have hic:=hi.cap
    by_cases hs:20 < r.right.length
    · have Hfin:Hid (G.great=true):=LH (by rw [Hf2.out,List.any_eq_true];exact ⟨r,List.mem_of_getElem? Hr.out,by simp [hs]⟩)
      have hq:decide ((20:Int) < (r.right.length:Int))=true:=by simp;omega
      go_wp2_with fail
      go_ret
      exact ⟨by rw [Hfin.out];rfl,alloc_below _ _⟩
    · have hq:decide ((20:Int) < (r.right.length:Int))=false:=by simp;omega
      go_wp2_with fail
      go_round
      case rel=>exact ⟨k+1,by omega,by go_num,LH (next_none Hk.out Hr.out (by simp;omega))⟩
      case measure=>simp [intOf];omega
  · obtain rfl:k=n3:=by omega
    have Hfin:Hid (G.great=false):=LH (by
     rw [Hf2.out,List.any_eq_false]
     intro x hx
     obtain ⟨j,hj⟩:=List.getElem?_of_mem hx
     have:=Hk.out j (by have:=(List.getElem?_eq_some_iff.1 hj).1;omega) x hj
     simpa using this)
    go_wp2_with fail
    go_ret
    exact ⟨by rw [Hfin.out];rfl,alloc_below _ _⟩
theorem rf_level (h:GH) (G:Gr) (n:Int) (w:World) (hg:GrAt w h G) (h1:h.n1≤1000) :
 Calls Tryz.prog 118 #[GV h G.start, .int .i64 n] w fun e w'=>e = .returned (.bool (levelB G.terms n))∧Below w.heap.size w w':=by
 obtain ⟨a1,n1,c1,a2,n2,c2,a3,n3,c3⟩:=h
 have ht:Trms w a1 n1 c1 G.terms:=hg.terms
 have hcap:=ht.cap
 have hl:G.terms.length=n1:=ht.len
 simp only [] at h1
 clear hg
 go_enter Tryz.func118,Tryz.ntmps118
 go_wp2_with fail
 go_loopw [5,6,7] (fun way i t wr=>∃ (k:Nat) (wy:Int),k≤n1∧i = .int .i64 (k:Int)∧way = .int .i64 wy∧Below w.heap.size w wr∧wr.cell? ⟨w.heap.size,0,none⟩=some (.slice a1 n1 c1)∧w.heap.size < wr.heap.size∧Hid (levelB G.terms n=levelGo n (G.terms.drop k) wy)) (fun _ i _ _=>n1 - (intOf i).toNat)
 case atStart=>exact ⟨0,0,Nat.zero_le _,rfl,rfl,alloc_below _ _,by simp,by simp,LH rfl⟩
 case round =>
  obtain ⟨k,wy,hk,rfl,rfl,hB,z0,hsz,Hk⟩:=hrel
  by_cases hkk:k < n1
  · obtain ⟨b,off,t,rfl,hb,Ht,q0,q1,q2⟩:=ht.get hkk
    rw [← hB.cell (by exact hb)] at q0 q1 q2
    have hd:G.terms.drop k=t::G.terms.drop (k+1):=drop_get Ht.out
    have hB':∀ o,Below w.heap.size w (wr.alloc o):=fun o=>hB.alloc (Nat.le_of_lt hsz) o
    have z0':∀ o,(wr.alloc o).cell? ⟨w.heap.size,0,none⟩=some (.slice (some ⟨b,off,none⟩) n1 c1):=fun o=>by rw [(alloc_below wr o).cell (p:=⟨w.heap.size,0,none⟩) hsz];exact z0
    have Hend:=LH (⟨hB',z0'⟩:_∧_)
    clear hB' z0'
    by_cases g:t.level=n
    · by_cases g2:wy ≠ 0∧wy ≠ t.assoc
      · have Hfin:Hid (levelB G.terms n=false):=LH (by rw [Hk.out,hd,levelGo,if_pos g,if_pos g2])
        have d1:(t.level != n)=false:=by rw [bne_eq_false_iff_eq];exact g
        have d2:(wy != 0)=true:=by rw [bne_iff_ne];exact g2.1
        have d3:(wy != t.assoc)=true:=by rw [bne_iff_ne];exact g2.2
        clear g g2 hd Hk
        go_wp2_with fail
        go_ret
        exact ⟨by rw [Hfin.out];rfl,Hend.out.1 _⟩
      · have Hnx:Hid (levelB G.terms n=levelGo n (G.terms.drop (k+1)) t.assoc):=LH (by rw [Hk.out,hd,levelGo,if_pos g,if_neg g2])
        have d1:(t.level != n)=false:=by rw [bne_eq_false_iff_eq];exact g
        have hw:(wy != 0)=false∨((wy != 0)=true∧(wy != t.assoc)=false):=by
         rw [bne_eq_false_iff_eq,bne_eq_false_iff_eq,bne_iff_ne]
         by_cases h0:wy=0
         · exact .inl h0
         · exact .inr ⟨h0,by by_cases h9:wy=t.assoc;exact h9;exact absurd ⟨h0,h9⟩ g2⟩
        clear g g2 hd Hk
        rcases hw with d2 | ⟨d2,d3⟩
        all_goals
         go_wp2_with fail
         go_roundw
         case rel=>exact ⟨k+1,t.assoc,by omega,by go_num,rfl,Hend.out.1 _,Hend.out.2 _,by simp;omega,Hnx⟩
         case measure=>simp [intOf];omega
    · have Hnx:Hid (levelB G.terms n=levelGo n (G.terms.drop (k+1)) wy):=LH (by rw [Hk.out,hd,levelGo,if_neg g])
      have d1:(t.level != n)=true:=by rw [bne_iff_ne];exact g
      clear g hd Hk
      go_wp2_with fail
      go_roundw
      case rel=>exact ⟨k+1,wy,by omega,by go_num,rfl,Hend.out.1 _,Hend.out.2 _,by simp;omega,Hnx⟩
      case measure=>simp [intOf];omega
  · obtain rfl:k=n1:=by omega
    have Hfin:Hid (levelB G.terms n=decide (wy ≠ 0)):=LH (by rw [Hk.out,List.drop_of_length_le (by omega)];rfl)
    have hw:((wy != 0)=true∧wy ≠ 0)∨((wy != 0)=false∧wy=0):=by
     rw [bne_eq_false_iff_eq,bne_iff_ne]
     by_cases h0:wy=0
     · exact .inr ⟨h0,h0⟩
     · exact .inl ⟨h0,h0⟩
    rcases hw with ⟨d,h0⟩ | ⟨d,h0⟩
    all_goals
     have H0:=LH h0
     clear h0
     go_wp2_with fail
     go_ret
     exact ⟨by rw [Hfin.out];simp [H0.out],hB⟩
theorem bcell {W w1:World} (hb:Below W.heap.size W w1):(∀ b o,b < W.heap.size→w1.cell? ⟨b,o,none⟩=W.cell? ⟨b,o,none⟩)∧(∀ b o,b < W.heap.size→w1.frozen? ⟨b,o,none⟩=W.frozen? ⟨b,o,none⟩) :=
 ⟨fun b o h=>hb.cell (p:=⟨b,o,none⟩) h,fun b o h=>hb.frozen (p:=⟨b,o,none⟩) h⟩
theorem next_noneI {α:Type} {p:Nat→α→Bool} {l:List α} {k:Nat} {x:α} (h:∀ j,j < k→∀ y,l[j]? = some y→(!p j y)=false) (hx:l[k]? = some x) (hp:(!p k x)=false):∀ j,j < k+1→∀ y,l[j]? = some y→(!p j y)=false:=by
 intro j hj y hy
 rcases Nat.lt_or_ge j k with hlt | hge
 · exact h j hlt y hy
 · obtain rfl:j=k:=by omega
   rw [hx] at hy
   injection hy with hy
   rw [← hy];exact hp
def GBox (w:World) (g:Nat) (h:GH) (st:Int):Prop :=
 g < w.heap.size∧w.cell? ⟨g,0,none⟩=some (.slice h.a1 h.n1 h.c1)∧w.cell? ⟨g,1,none⟩=some (.slice h.a2 h.n2 h.c2)∧w.cell? ⟨g,2,none⟩=some (.slice h.a3 h.n3 h.c3)∧w.cell? ⟨g,3,none⟩=some (.int .i64 st)
theorem GBox.new (w:World) (t:TypeId) (h:GH) (st:Int):GBox (w.alloc (.cells #[.slice h.a1 h.n1 h.c1, .slice h.a2 h.n2 h.c2, .slice h.a3 h.n3 h.c3, .int .i64 st] t)) w.heap.size h st:=by
 refine ⟨by simp,?_,?_,?_,?_⟩ <;> (rw [alloc_cell];rfl)
theorem GBox.below {w w':World} {g:Nat} {h:GH} {st:Int} (hg:GBox w g h st) (hb:Below w.heap.size w w'):GBox w' g h st:=by
 obtain ⟨h0,h1,h2,h3,h4⟩:=hg
 refine ⟨Nat.lt_of_lt_of_le h0 hb.size,?_,?_,?_,?_⟩
 · rw [hb.cell (p:=⟨g,0,none⟩) h0];exact h1
 · rw [hb.cell (p:=⟨g,1,none⟩) h0];exact h2
 · rw [hb.cell (p:=⟨g,2,none⟩) h0];exact h3
 · rw [hb.cell (p:=⟨g,3,none⟩) h0];exact h4
theorem rf_terms (h:GH) (G:Gr) (w:World) (hg:GrAt w h G) :
 Calls Tryz.prog 64 #[GV h G.start] w fun e w'=>e = .returned (.bool G.termsOK)∧Below w.heap.size w w':=by
 obtain ⟨a1,n1,c1,a2,n2,c2,a3,n3,c3⟩:=h
 have ht:Trms w a1 n1 c1 G.terms:=hg.terms
 have hl:G.terms.length=n1:=ht.len
 have hcap:=ht.cap
 have Hf:Hid (G.termsOK=(decide (n1≤24) && allI G.termOK G.terms)):=LH (by unfold Gr.termsOK;rw [hl])
 by_cases h1:n1≤24
 case neg =>
  have Hfin:Hid (G.termsOK=false):=LH (by rw [Hf.out];simp;omega)
  have d1:decide ((24:Int) < (n1:Int))=true:=by simp;omega
  clear hg h1
  go_enter Tryz.func64,Tryz.ntmps64
  go_wp2_with fail
  go_ret
  exact ⟨by rw [Hfin.out];rfl,alloc_below _ _⟩
 have Hf2:Hid (G.termsOK=allI G.termOK G.terms):=LH (by rw [Hf.out];simp;omega)
 have d1:decide ((24:Int) < (n1:Int))=false:=by simp;omega
 have Hg:=LH hg
 clear Hf hg
 go_enter Tryz.func64,Tryz.ntmps64
 have hbox:=GBox.new w 26 ⟨a1,n1,c1,a2,n2,c2,a3,n3,c3⟩ G.start
 go_wp2_with fail
 go_loopw [3,4,5] (fun i t n wr=>∃ (k:Nat),k≤n1∧i = .int .i64 (k:Int)∧Below w.heap.size w wr∧GBox wr w.heap.size ⟨a1,n1,c1,a2,n2,c2,a3,n3,c3⟩ G.start∧Hid (∀ j,j < k→∀ y,G.terms[j]? = some y→(!G.termOK j y)=false)) (fun i _ _ _=>n1 - (intOf i).toNat)
 case atStart=>exact ⟨0,Nat.zero_le _,rfl,alloc_below _ _,hbox,LH fun j hj=>by omega⟩
 case round =>
  clear hbox
  obtain ⟨wo,rfl⟩:∃ wo:World,wo=wr:=⟨_,rfl⟩
  obtain ⟨k,hk,rfl,hB,hbx,Hk⟩:=hrel
  have ⟨z5,z0,z1,z2,z3⟩:=hbx
  simp only [] at z0 z1 z2 z3
  by_cases hkk:k < n1
  · obtain ⟨b,off,t,rfl,hb,Ht,q0,q1,q2⟩:=ht.get hkk
    rw [← hB.cell (by exact hb)] at q0 q1 q2
    have hB1:=hB.alloc (Nat.le_of_lt z5) (.cells #[.string t.name, .int .i64 t.level, .int .i64 t.assoc] 91)
    have hx1:=hbx.below (alloc_below wo (.cells #[.string t.name, .int .i64 t.level, .int .i64 t.assoc] 91))
    have p0:=alloc_cell wo 91 #[.string t.name, .int .i64 t.level, .int .i64 t.assoc] 0
    have p1:=alloc_cell wo 91 #[.string t.name, .int .i64 t.level, .int .i64 t.assoc] 1
    have p2:=alloc_cell wo 91 #[.string t.name, .int .i64 t.level, .int .i64 t.assoc] 2
    have p5:=alloc_size wo (.cells #[.string t.name, .int .i64 t.level, .int .i64 t.assoc] 91)
    simp only [List.getElem?_toArray,List.getElem?_cons_zero,List.getElem?_cons_succ] at p0 p1 p2
    go_wp2_with fail
    generalize wo.alloc (.cells #[.string t.name, .int .i64 t.level, .int .i64 t.assoc] 91)=W1 at *
    have hg1:=Hg.out.below hB1
    have hlt1:wo.heap.size < W1.heap.size:=by omega
    clear p5 q0 q1 q2 z0 z1 z2 z3 hbx
    generalize wo.heap.size=gt at *
    have ⟨z5',z0,z1,z2,z3⟩:=hx1
    simp only [] at z0 z1 z2 z3
    have cN:=rf_named t.name W1
    have cT:=fun hh=>rf_term ⟨some ⟨b,off,none⟩,n1,c1,a2,n2,c2,a3,n3,c3⟩ G t.name W1 hg1 hh
    have cT:=cT (by simp only [];omega)
    have hdef:G.termOK k t=(decide (G.term t.name=(k:Int)) && basicT t && levelsT G.terms t):=rfl
    unfold basicT at hdef
    have Hdef:=LH hdef
    clear hdef
    generalize namedB t.name=b1 at *
    generalize G.term t.name=tm at *
    have CN:=LH cN
    have CT:=LH cT
    clear cN cT
    have hways:(b1=false∨(b1=true∧tm ≠ k)∨(b1=true∧tm=k∧t.level < 0)∨(b1=true∧tm=k∧0≤t.level∧24 < t.level)∨(b1=true∧tm=k∧0≤t.level∧t.level≤24∧t.assoc < 0)∨(b1=true∧tm=k∧0≤t.level∧t.level≤24∧0≤t.assoc∧3 < t.assoc) ∨
     (b1=true∧tm=k∧0≤t.level∧t.level≤24∧0≤t.assoc∧t.assoc≤3∧t.level=0∧t.assoc ≠ 0)∨(b1=true∧tm=k∧0≤t.level∧t.level≤24∧0≤t.assoc∧t.assoc≤3∧t.level ≠ 0∧t.assoc=0)) ∨
     (b1=true∧tm=k∧0≤t.level∧t.level≤24∧0≤t.assoc∧t.assoc≤3∧(t.level=0∧t.assoc=0∨t.level ≠ 0∧t.assoc ≠ 0)):=by
     cases b1
     · simp
     · simp only [Bool.true_eq_false,false_or,true_and]
       omega
    rcases hways with hbad | hok
    · have Hbad:Hid (G.termsOK=false):=LH (by
       rw [Hf2.out]
       refine allI_false Ht.out ?_
       rw [Hdef.out]
       rcases hbad with rfl | ⟨rfl,g⟩ | ⟨rfl,g,g2⟩ | ⟨rfl,g,g2,g3⟩ | ⟨rfl,g,g2,g3,g4⟩ | ⟨rfl,g,g2,g3,g4,g5⟩ | ⟨rfl,g,g2,g3,g4,g5,g6,g7⟩ | ⟨rfl,g,g2,g3,g4,g5,g6,g7⟩
       · simp
       · simp [g]
       · simp;omega
       · simp;omega
       · simp;omega
       · simp;omega
       · simp [g6,g7]
       · simp [g6,g7])
      have HB1:=LH hB1
      clear hB1
      have CT2:Hid (Calls Tryz.prog 117 #[GV ⟨some ⟨b,off,none⟩,n1,c1,a2,n2,c2,a3,n3,c3⟩ G.start, .string t.name] W1 fun e w'=>e = .returned (.int .i64 tm)∧(∀ b o,b < W1.heap.size→w'.cell? ⟨b,o,none⟩=W1.cell? ⟨b,o,none⟩)∧Hid (Below w.heap.size w w')):=LH (CT.out.mono fun e w' h=>⟨h.1,(bcell h.2).1,LH (HB1.out.trans (h.2.mono HB1.out.size))⟩)
      clear CT hk hkk
      rcases hbad with rfl | ⟨rfl,g⟩ | ⟨rfl,rfl,g2⟩ | ⟨rfl,rfl,g2,g3⟩ | ⟨rfl,rfl,g2,g3,g4⟩ | ⟨rfl,rfl,g2,g3,g4,g5⟩ | ⟨rfl,rfl,g2,g3,g4,g5,g6,g7⟩ | ⟨rfl,rfl,g2,g3,g4,g5,g6,g7⟩
      · go_wp2_with (go_at_call 116;(with_reducible refine CN.out.mono ?_);rintro e w2 ⟨rfl,rfl⟩)
        go_ret
        exact ⟨by rw [Hbad.out];rfl,HB1.out⟩
      · have d:(tm != (k:Int))=true:=by rw [bne_iff_ne];exact g
        clear g
        go_wp2_with (first
         | (go_at_call 116;(with_reducible refine CN.out.mono ?_);rintro e w2 ⟨rfl,rfl⟩)
         | (go_at_call 117;(with_reducible refine CT2.out.mono ?_);rintro e w3 ⟨rfl,hc3,Hb3⟩))
        go_ret
        exact ⟨by rw [Hbad.out];rfl,Hb3.out⟩
      iterate 4
       · go_wp2_with (first
         | (go_at_call 116;(with_reducible refine CN.out.mono ?_);rintro e w2 ⟨rfl,rfl⟩)
         | (go_at_call 117;(with_reducible refine CT2.out.mono ?_);rintro e w3 ⟨rfl,hc3,Hb3⟩))
         go_ret
         exact ⟨by rw [Hbad.out];rfl,Hb3.out⟩
      · have e1:(t.level == 0)=true:=by rw [beq_iff_eq];exact g6
        have e2:(t.assoc == 0)=false:=by rw [beq_eq_false_iff_ne];exact g7
        clear g6 g7
        go_wp2_with (first
         | (go_at_call 116;(with_reducible refine CN.out.mono ?_);rintro e w2 ⟨rfl,rfl⟩)
         | (go_at_call 117;(with_reducible refine CT2.out.mono ?_);rintro e w3 ⟨rfl,hc3,Hb3⟩))
        go_ret
        exact ⟨by rw [Hbad.out];rfl,Hb3.out⟩
      · have e1:(t.level == 0)=false:=by rw [beq_eq_false_iff_ne];exact g6
        have e2:(t.assoc == 0)=true:=by rw [beq_iff_eq];exact g7
        clear g6 g7
        go_wp2_with (first
         | (go_at_call 116;(with_reducible refine CN.out.mono ?_);rintro e w2 ⟨rfl,rfl⟩)
         | (go_at_call 117;(with_reducible refine CT2.out.mono ?_);rintro e w3 ⟨rfl,hc3,Hb3⟩))
        go_ret
        exact ⟨by rw [Hbad.out];rfl,Hb3.out⟩
    · obtain ⟨rfl,rfl,g2,g3,g4,g5,g6⟩:=hok
      have HB1:=LH hB1
      have Hg1:=LH hg1
      have Hx1:=LH hx1
      have CT2:Hid (Calls Tryz.prog 117 #[GV ⟨some ⟨b,off,none⟩,n1,c1,a2,n2,c2,a3,n3,c3⟩ G.start, .string t.name] W1 fun e w'=>e = .returned (.int .i64 (k:Int))∧(∀ b o,b < W1.heap.size→w'.cell? ⟨b,o,none⟩=W1.cell? ⟨b,o,none⟩)∧Hid (Below W1.heap.size W1 w')):=LH (CT.out.mono fun e w' h=>⟨h.1,(bcell h.2).1,LH h.2⟩)
      have Hok2:Hid (G.termOK k t=levelsT G.terms t):=LH (by
       rw [Hdef.out]
       rcases g6 with ⟨g6,g7⟩ | ⟨g6,g7⟩
       · simp [g6,g7]
       · have h9:0≤t.level∧t.level≤24∧0≤t.assoc∧t.assoc≤3:=⟨g2,g3,g4,g5⟩
         simp [g6,g7,h9])
      have hee:((t.level == 0)=true∧(t.assoc == 0)=true)∨((t.level == 0)=false∧(t.assoc == 0)=false):=by
       rw [beq_iff_eq,beq_iff_eq,beq_eq_false_iff_ne,beq_eq_false_iff_ne];exact g6
      clear CT hB1 hg1 hx1 g6
      rcases hee with ⟨e1,e2⟩ | ⟨e1,e2⟩
      all_goals
       go_wp2_with (first
        | (go_at_call 116;(with_reducible refine CN.out.mono ?_);rintro e w2 ⟨rfl,rfl⟩)
        | (go_at_call 117;(with_reducible refine CT2.out.mono ?_);rintro e w3 ⟨rfl,hc3,Hb3⟩))
       have hB3:=HB1.out.trans (Hb3.out.mono HB1.out.size)
       have hx3:=Hx1.out.below Hb3.out
       have r1:w3.cell? ⟨gt,1,none⟩=some (.int .i64 t.level):=by rw [hc3 _ _ hlt1];exact p1
       have hlt3:gt < w3.heap.size:=Nat.lt_of_lt_of_le hlt1 Hb3.out.size
       have Hx3:=LH hx3
       clear hc3 Hb3 p0 p1 p2 z0 z1 z2 z3 hx3
       go_loopw [5] (fun n wr=>∃ m:Nat,(m:Int)≤t.level∧n = .int .i64 ((m:Int)+1)∧Below w3.heap.size w3 wr∧Hid (∀ j:Nat,j < m→levelB G.terms ((j:Int)+1)=true)) (fun n _=>t.level.toNat+1 - (intOf n).toNat)
       case atStart=>exact ⟨0,g2,rfl,Below.refl _ _,LH fun j hj=>by omega⟩
       case round =>
        obtain ⟨m,hm,rfl,hB4,Hm⟩:=hrel
        rw [← hB4.cell (by exact hlt3)] at r1
        have hx4:=Hx3.out.below hB4
        have ⟨z5',z0,z1,z2,z3⟩:=hx4
        simp only [] at z0 z1 z2 z3
        have hB5:=hB3.trans (hB4.mono hB3.size)
        have hg5:=Hg.out.below hB5
        have HB5:=LH hB5
        have Hx4:=LH hx4
        have hlt5:w.heap.size≤wr.heap.size:=hB5.size
        have HB4:=LH hB4
        clear hB5 hx4 hB4
        by_cases hml:(m:Int)+1≤t.level
        · have cL:=rf_level ⟨some ⟨b,off,none⟩,n1,c1,a2,n2,c2,a3,n3,c3⟩ G ((m:Int)+1) wr hg5 (by simp only [];omega)
          cases hlv:levelB G.terms ((m:Int)+1)
          · have Hbad:Hid (G.termsOK=false):=LH (by
             rw [Hf2.out]
             refine allI_false Ht.out ?_
             rw [Hok2.out]
             exact all_false (l:=List.range t.level.toNat) (j:=m) (y:=m) (by rw [List.getElem?_range];omega) hlv)
            rw [hlv] at cL
            have CL:=LH cL
            clear cL hlv hg5
            go_wp2_with (go_at_call 118;(with_reducible refine CL.out.mono ?_);rintro e w6 ⟨rfl,hb6⟩)
            go_ret
            exact ⟨by rw [Hbad.out];rfl,HB5.out.trans (hb6.mono hlt5)⟩
          · rw [hlv] at cL
            have CL:=LH cL
            have Hlv:=LH hlv
            clear cL hlv hg5
            go_wp2_with (go_at_call 118;(with_reducible refine CL.out.mono ?_);rintro e w6 ⟨rfl,hb6⟩)
            have Hb6:=LH (HB4.out.trans (hb6.mono HB4.out.size))
            clear hb6
            go_roundw
            case rel=>exact ⟨m+1,by omega,by go_num,Hb6.out,LH fun j hj=>by
             rcases Nat.lt_or_ge j m with h | h
             · exact Hm.out j h
             · obtain rfl:j=m:=by omega
               exact Hlv.out⟩
            case measure=>simp [intOf];omega
        · have Hnext:Hid ((!G.termOK k t)=false):=LH (by
           rw [Hok2.out]
           have:levelsT G.terms t=true:=by
            unfold levelsT
            rw [List.all_eq_true]
            intro j hj
            rw [List.mem_range] at hj
            exact Hm.out j (by omega)
           rw [this];rfl)
          go_wp2_with fail
          go_roundw
          case rel=>exact ⟨k+1,by omega,by go_num,HB5.out,Hx4.out,LH (next_noneI Hk.out Ht.out Hnext.out)⟩
          case measure=>simp [intOf];omega
  · obtain rfl:k=n1:=by omega
    have Hfin:Hid (G.termsOK=true):=LH (by
     rw [Hf2.out]
     refine allI_true fun j y hy=>?_
     have:=Hk.out j (by have:=(List.getElem?_eq_some_iff.1 hy).1;omega) y hy
     simpa using this)
    go_wp2_with fail
    go_ret
    exact ⟨by rw [Hfin.out];rfl,hB⟩
end Go.Proofs.YtggbjdmpjidhgaaGreatDoor
