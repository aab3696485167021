/- A region that draws its order: quiet in a class of worlds but for its last operations, which stand in one order: one walk serves. -/
import Derived.Test.YtggbjdmpjidhgaaGreatDoorQGrS1
import Derived.StillTail
import Derived.Test.YtggbjdmpjidhgaaGreatDoorQGrW3
import Derived.Test.YtggbjdmpjidhgaaGreatDoorQGrC3
import Derived.Deep.RegionWith
set_option linter.unusedVariables false
set_option linter.unusedSimpArgs false
set_option maxHeartbeats 8000000
set_option maxRecDepth 100000
namespace Go.Proofs.YtggbjdmpjidhgaaGreatDoor
open Go.RowKit
section
variable {P:Program} {ops:Array Oper} {md:Region.Mode} {C:World→Prop}
def headQ (P:Program) (md:Region.Mode) (ops:Array Oper) (C:World→Prop) (n:Nat) (L:Array Bool→Act→Prop):Nat→Array Bool→Act→Prop
 | 0,listed,a=>L listed a
 | f+1,listed,a=>Region.ready md ops listed ≠ []∧∀ i ∈ Region.ready md ops listed,i < n∧qOp P ops C i (headQ P md ops C n L f (listed.setIfInBounds i true)) a
theorem any_of_headQ {n g:Nat} {L:Array Bool→Act→Prop} {Q':Exit→Act→World→Prop} (hL:∀ listed a w,C w→L listed a→wpAny P md ops Q' g listed a w) :
 ∀ (f:Nat) (listed:Array Bool) (a:Act) (w:World),C w→headQ P md ops C n L f listed a→wpAny P md ops Q' (f+g) listed a w
 | 0,listed,a,w,hw,h=>by rw [Nat.zero_add];exact hL _ _ _ hw h
 | f+1,listed,a,w,hw,h=>by
   rw [show f+1+g=(f+g)+1 by omega]
   exact ⟨fun h0=>absurd h0 h.1,fun i hi=>wpOp_of_qOp hw (fun a' w' hw' h'=>any_of_headQ hL f _ a' w' hw' h') (h.2 i hi).2⟩
theorem headQ_first {n i:Nat} {oi:Oper} {v:Value} {L:Array Bool→Act→Prop} (hi:ops[i]? = some oi) (hsel:∀ (j:Nat) (o:Oper) cs b,ops[j]? = some o→o.op ≠ .select cs b)
 (hs:Region.sinkB md ops n=true) (hc:Region.chainB md ops n=true) (hin:i < n)
 (hdone:∀ listed a,L listed a→∀ j ∈ Region.ready md ops listed,n≤j) :
 ∀ (f:Nat) (listed:Array Bool) (a:Act),HeadInv md ops n listed →
   (∀ j oj,ops[j]? = some oj→j ≠ i→listed.getD j true=false→(∀ e ∈ oj.after,Region.binds md e=true→e.on ≠ i)→oi.apart ops oj=true) →
   i ∈ Region.ready md ops listed→YieldsIn P ops C oi v a →
   headQ P md ops C n L f (listed.setIfInBounds i true) (a.put oi.dst v)→headQ P md ops C n L (f+1) listed a:=by
 intro f
 induction f with
 | zero =>
   intro listed a inv hfree hr hy H
   have hun:=(mem_ready.1 hr).1
   have hn:n≤ops.size:=by
    rcases Nat.lt_or_ge ops.size n with h | h
    · exfalso
      have h1:=List.all_eq_true.1 hs (ops.size) (List.mem_range.2 h)
      obtain ⟨j,hj,hj2⟩:=List.any_eq_true.1 h1
      simp only [Bool.and_eq_true,decide_eq_true_eq] at hj2
      obtain ⟨oj,hoj,_⟩:=Region.waitsFor_spec hj2.2
      have:=(Array.getElem?_eq_some_iff.1 hoj).1
      omega
    · exact h
   refine ⟨fun h=>(by rw [h] at hr;cases hr),fun j hj=>?_⟩
   have hjn:j < n:=by
    rcases Nat.lt_or_ge j n with h | h
    · exact h
    · have hlt:j < ops.size:=by
       obtain ⟨_,oj,hoj,_⟩:=mem_ready.1 hj
       exact (Array.getElem?_eq_some_iff.1 hoj).1
      exact absurd hj (tail_waits hs hc (by omega) inv _ i rfl hin hun j h)
   refine ⟨hjn,?_⟩
   by_cases hji:j=i
   · subst hji;exact hy.qOp hi H
   · have:=hdone _ _ H j (ready_mono hj hji)
     omega
 | succ f ih =>
   intro listed a inv hfree hr hy H
   have hun:=(mem_ready.1 hr).1
   refine ⟨fun h=>(by rw [h] at hr;cases hr),fun j hj=>?_⟩
   have hjn:j < n:=by
    rcases Nat.lt_or_ge j n with h | h
    · exact h
    · have hlt:j < ops.size:=by
       obtain ⟨_,oj,hoj,_⟩:=mem_ready.1 hj
       exact (Array.getElem?_eq_some_iff.1 hoj).1
      exact absurd hj (tail_waits hs hc (by omega) inv _ i rfl hin hun j h)
   refine ⟨hjn,?_⟩
   by_cases hji:j=i
   · subst hji;exact hy.qOp hi H
   · have h1:=(H.2 j (ready_mono hj hji)).2
     obtain ⟨hjun,oj,hoj,hall⟩:=mem_ready.1 hj
     have hnot:∀ e ∈ oj.after,Region.binds md e=true→e.on ≠ i:=fun e he hb heq=>by
      have h1:=hall e he hb
      rw [heq,getD_both hun] at h1
      cases h1
     have h2:=qOp_put hoj (hfree j oj hoj hji hjun hnot) (fun cs b=>hsel i oi cs b hi) (fun cs b=>hsel j oj cs b hoj) hy h1
     have hfree':∀ k ok,ops[k]? = some ok→k ≠ i→(listed.setIfInBounds j true).getD k true=false →
      (∀ e ∈ ok.after,Region.binds md e=true→e.on ≠ i)→oi.apart ops ok=true:=fun k ok hk hki hun hno=>by
      refine hfree k ok hk hki ?_ hno
      by_cases hjk:j=k
      · subst hjk;exact hjun
      · rw [getD_set_ne true hjk] at hun;exact hun
     refine qOp_mono (fun a' h3=>ih (listed.setIfInBounds j true) a' (inv.set hj hjn) hfree' (ready_mono hr (Ne.symm hji)) h3.1 ?_) h2
     rw [Array.setIfInBounds_comm _ _ hji]
     exact h3.2
theorem headQ_lex {n g:Nat} {Lq:Act→Prop} (hsel:Region.noSelect ops=true) (hs:Region.sinkB md ops n=true) (hc:Region.chainB md ops n=true) :
 ∀ (l:List Oper) (k:Nat) (listed:Array Bool) (a:Act),(∀ j,j < l.length→l[j]? = ops[k+j]?)→k+l.length=n→HeadInv md ops n listed →
 Region.lexHead md ops g l.length k listed=true→wpQuiet P ops C Lq l a →
 headQ P md ops C n (fun listed' a'=>Region.seqB md ops g n listed'=true∧Lq a') l.length listed a
 | [],k,listed,a,_,hk,_,hB,h=>by
   have:k=n:=by simpa using hk
   subst this
   exact ⟨by simpa [Region.lexHead] using hB,h⟩
 | o::l,k,listed,a,hl,hk,inv,hB,h=>by
   have h0:ops[k]? = some o:=by simpa using (hl 0 (by simp)).symm
   simp only [List.length_cons,Region.lexHead,Bool.and_eq_true] at hB
   obtain ⟨⟨hr,hf⟩,hB'⟩:=hB
   have hkn:k < n:=by simp only [List.length_cons] at hk;omega
   have hr':k ∈ Region.ready md ops listed:=by simpa using hr
   have hst:qOp P ops C k (wpQuiet P ops C Lq l) a:=by unfold qOp;simp only [h0];exact h
   obtain ⟨v,hy,hK⟩:=yieldsIn_of_qOp h0 hst
   exact headQ_first h0 (Region.noSelect_spec hsel) hs hc hkn (fun listed' a' hL=>seqB_ready hL.1) l.length listed a inv (Region.free_spec h0 hf) hr' hy
    (headQ_lex hsel hs hc l (k+1) _ _ (fun j hj=>by have:=hl (j+1) (by simp;omega);simpa [Nat.add_assoc,Nat.add_comm 1 j] using this) (by simp only [List.length_cons] at hk;omega) (inv.set hr' hkn) hB' hK)
theorem wp_region_quiet_tail {id:Nat} {Q:Exit→Act→World→Prop} {a:Act} {w:World} {l:List Oper} (n:Nat) (hm:P.follows .mixedOrders=true) (hB:Region.lexTailB .any l.toArray n=true) (hC:C { w with drawn:=w.drawn+1 })
 (h:wpQuiet P l.toArray C (fun a'=>∀ w',C w'→wpList P l.toArray Q (l.drop n) a' w') (l.take n) a):(Code.region id l.toArray true).wp P Q a w:=by
 simp only [Region.lexTailB,Bool.and_eq_true,decide_eq_true_eq] at hB
 obtain ⟨⟨⟨⟨hsel,hn⟩,hs⟩,hc⟩,hlex⟩:=hB
 have hn':n < l.length:=by simpa using hn
 have htl:(l.take n).length=n:=by simp;omega
 have hdl:(l.drop n).length=l.toArray.size - n:=by simp
 have inv0:HeadInv .any l.toArray n (Array.replicate l.toArray.size false) :=
  ⟨by simp,fun j oj _ hl=>(by rw [getD_replicate_false] at hl;cases hl),fun t _ ht=>getD_in (by simpa using ht) (getD_replicate_false _ _)⟩
 have H:=headQ_lex (md := .any) (g:=l.toArray.size - n) hsel hs hc (l.take n) 0 _ a (fun j hj=>by
  have hj':j < n:=by rw [htl] at hj;exact hj
  simp [hj']) (by simpa using htl) inv0 (by rw [htl];exact hlex) h
 refine wp_region_any hm ?_
 have:=any_of_headQ (Q':=Q) (g:=l.toArray.size - n) (fun listed a' w' hw' hL=>by
  have:=wpAny_of_seq (md := .any) (Q':=Q) (l.drop n) n listed a' w' (fun j=>by simp [List.getElem?_drop]) (by rw [hdl];exact hL.1) (hL.2 w' hw')
  rwa [hdl] at this) _ _ _ _ hC H
 rw [htl,show n+(l.toArray.size - n)=l.toArray.size by omega] at this
 exact this
theorem wp_region_below_tail {id:Nat} {Q:Exit→Act→World→Prop} {a:Act} {w:World} {l:List Oper} (n:Nat) (hm:P.follows .mixedOrders=true) (hB:Region.lexTailB .any l.toArray n=true)
 (h:wpQuiet P l.toArray (fun w'=>∃ x,w'=bl w x) (fun a'=>∀ w',(∃ x,w'=bl w x)→wpList P l.toArray Q (l.drop n) a' w') (l.take n) a):(Code.region id l.toArray true).wp P Q a w :=
 wp_region_quiet_tail (C:=fun w'=>∃ x,w'=bl w x) n hm hB ⟨⟨_,(Below.refl w.heap.size w).drew⟩,rfl⟩ h
end
theorem Nums.part {k:IntKind} {w:World} {b off n c:Nat} {xs:List Nat} (h:Nums k w (some ⟨b,off,none⟩) n c xs) (i m c':Nat) (hm:i+m≤n) (hc:m≤c') (hc':c'≤9223372036854775807) :
 Nums k w (some ⟨b,off+i,none⟩) m c' ((xs.drop i).take m):=by
 have hl:=h.len
 refine ⟨by simp [nums];omega,hc,hc',fun hn=>?_⟩
 simp [nums] at hn
 obtain ⟨b',off',e,hb,hcell⟩:=h.2.2.2 (by rw [nums_length];omega)
 injection e with e
 injection e with e1 e2
 subst e1;subst e2
 refine ⟨b,off+i,rfl,hb,fun j hj=>?_⟩
 simp [nums] at hj
 rw [Nat.add_assoc,hcell (i+j) (by rw [nums_length];omega)]
 simp [nums,List.getElem?_take,List.getElem?_drop]
 intro;omega
def hasP (xs:List Nat) (i:Nat) (pat:List Nat):Bool:=decide (i+pat.length≤xs.length) && decide ((xs.drop i).take pat.length=pat)
theorem rf_has7 (A:Option Addr) (n c i:Nat) (xs pat:List Nat) (w:World) (h:Nums .u8 w A n c xs) (hb:∀ x ∈ xs,x < 256) (hp:∀ x ∈ pat,x < 256) (hn:n≤100000) (hi:i≤100000) (hpl:1≤pat.length∧pat.length≤100) :
 Calls Tryz.prog 216 #[.slice A n c, .int .i64 (i:Int), .string (str pat)] w fun e w'=>e = .returned (.bool (hasP xs i pat))∧w=w':=by
 obtain rfl:=h.len
 have hcap:=h.cap
 have hsz:=str_size pat
 by_cases h1:i+pat.length≤xs.length
 · obtain ⟨b,off,rfl,hbl,hc0⟩:=h.at_ (by omega)
   have hpart:=h.part i pat.length (c - i) (by omega) (by omega) (by omega)
   have hl:((xs.drop i).take pat.length).length=pat.length:=by rw [List.length_take,List.length_drop];omega
   have hf:hasP xs i pat=((str ((xs.drop i).take pat.length)).toList == (str pat).toList):=by
    unfold hasP
    rw [decide_eq_true h1,Bool.true_and,Bool.eq_iff_iff,decide_eq_true_iff,beq_iff_eq]
    constructor
    · intro h;rw [h]
    · intro h
      have h2:str ((xs.drop i).take pat.length)=str pat:=by
       have:=toList_beq (str ((xs.drop i).take pat.length)) (str pat)
       rw [h,beq_self_eq_true] at this
       simpa using this.symm
      have h3:=congrArg bytesOf h2
      rwa [bytesOf_str _ fun y hy=>hb y (List.mem_of_mem_drop (List.mem_of_mem_take hy)),bytesOf_str _ hp] at h3
   generalize (xs.drop i).take pat.length=sub at *
   rw [← hl] at hpart
   have hconv:=run_bytes_str (P:=Tryz.prog) w 72 5 9 Tryz.underlying72 Tryz.underlying5 Tryz.underlying9 _ _ sub hpart
   rw [hl] at hconv
   have Hf:=LH hf
   have s2:IntKind.i64.wrap ((i:Int)+(pat.length:Int))=((i+pat.length:Nat):Int):=by rw [IntWalk.i64_in _ (by omega)];omega
   have s3:((i+pat.length:Nat):Int)≤(xs.length:Int):=by omega
   clear hf hpart hc0 h hb hp
   go_enter Tryz.func216,Tryz.ntmps216
   go_wp2_with fail
   go_ret
   exact ⟨by rw [Hf.out];rfl,rfl⟩
 · have hf:hasP xs i pat=false:=by unfold hasP;rw [decide_eq_false h1];rfl
   have s2:IntKind.i64.wrap ((i:Int)+(pat.length:Int))=((i+pat.length:Nat):Int):=by rw [IntWalk.i64_in _ (by omega)];omega
   have Hf:=LH hf
   have d1:decide (((i+pat.length:Nat):Int)≤(xs.length:Int))=false:=by rw [decide_eq_false_iff_not];omega
   clear hf h hb hp
   go_enter Tryz.func216,Tryz.ntmps216
   go_wp2_with fail
   go_ret
   exact ⟨by rw [Hf.out];rfl,rfl⟩
def blankB (x:Nat):Bool:=x == 32 || x == 9 || x == 10 || x == 13
def plainAt (xs:List Nat) (i:Nat):Bool:=!hasP xs i [47,42] && !hasP xs i [47,47] && !hasP xs i [37,123] && (xs.getD i 0 != 60) && (xs.getD i 0 != 123)
theorem rf_skip7 (A:Option Addr) (n c i:Nat) (xs:List Nat) (w:World) (h:Nums .u8 w A n c xs) (hb:∀ x ∈ xs,x < 256) (hn:n≤100000) (hi:i < n) (hp:plainAt xs i=true) :
 Calls Tryz.prog 185 #[.slice A n c, .int .i64 (i:Int)] w fun e w'=>e = .returned (.tuple #[.int .i64 ((if blankB (xs.getD i 0) then i+1 else i:Nat):Int), .bool (blankB (xs.getD i 0))])∧w=w':=by
 obtain rfl:=h.len
 have hcap:=h.cap
 unfold plainAt at hp
 simp only [Bool.and_eq_true,Bool.not_eq_true',bne_iff_ne,ne_eq] at hp
 obtain ⟨⟨⟨⟨h1,h2⟩,h3⟩,h4⟩,h5⟩:=hp
 have c1:=rf_has7 A xs.length c i xs [47,42] w h hb (by decide) hn (by omega) (by decide)
 have c2:=rf_has7 A xs.length c i xs [47,47] w h hb (by decide) hn (by omega) (by decide)
 have c3:=rf_has7 A xs.length c i xs [37,123] w h hb (by decide) hn (by omega) (by decide)
 rw [h1] at c1
 rw [h2] at c2
 rw [h3] at c3
 rw [show str [47,42]=⟨#[47,42]⟩ from rfl] at c1
 rw [show str [47,47]=⟨#[47,47]⟩ from rfl] at c2
 rw [show str [37,123]=⟨#[37,123]⟩ from rfl] at c3
 obtain ⟨b,off,x,rfl,hbl,Hx,hc⟩:=h.get hi
 have hx:xs.getD i 0=x:=by rw [List.getD_eq_getElem?_getD,Hx.out];rfl
 rw [hx] at h4 h5 ⊢
 have C1:=LH c1
 have C2:=LH c2
 have C3:=LH c3
 clear c1 c2 c3 h1 h2 h3 h hb hx
 have d4:((x:Int) == 60)=false:=by rw [beq_eq_false_iff_ne];omega
 have d5:((x:Int) == 123)=false:=by rw [beq_eq_false_iff_ne];omega
 have hways:x=32∨x=9∨x=10∨x=13∨(((x:Int) == 32)=false∧((x:Int) == 9)=false∧((x:Int) == 10)=false∧((x:Int) == 13)=false∧blankB x=false):=by
  by_cases g1:x=32
  · exact .inl g1
  · by_cases g2:x=9
    · exact .inr (.inl g2)
    · by_cases g3:x=10
      · exact .inr (.inr (.inl g3))
      · by_cases g4:x=13
        · exact .inr (.inr (.inr (.inl g4)))
        · refine .inr (.inr (.inr (.inr ⟨?_,?_,?_,?_,by simp [blankB,g1,g2,g3,g4]⟩))) <;> (rw [beq_eq_false_iff_ne];omega)
 rcases hways with rfl | rfl | rfl | rfl | ⟨g1,g2,g3,g4,g5⟩
 all_goals
  first
   | rw [g5,if_neg Bool.false_ne_true]
   | rw [show blankB 32=true from rfl,if_pos rfl]
   | rw [show blankB 9=true from rfl,if_pos rfl]
   | rw [show blankB 10=true from rfl,if_pos rfl]
   | rw [show blankB 13=true from rfl,if_pos rfl]
  go_enter Tryz.func185,Tryz.ntmps185
  go_wp2_with (first
   | (go_at_call 216;(with_reducible refine C1.out.mono ?_);rintro e w2 ⟨rfl,rfl⟩)
   | (go_at_call 216;(with_reducible refine C2.out.mono ?_);rintro e w3 ⟨rfl,rfl⟩)
   | (go_at_call 216;(with_reducible refine C3.out.mono ?_);rintro e w4 ⟨rfl,rfl⟩))
  refine bodyPost_ret (results_tmp2 rfl _ _ _) rfl ?_
  exact ⟨by first | rfl | (simp [blankB];done) | (simp [g5];done),rfl⟩
def markP (x:Nat):Int:=if x=58 then 10 else if x=124 then 11 else if x=59 then 12 else 0
theorem rf_mark7 (x:Nat) (w:World):Calls Tryz.prog 223 #[.int .u8 (x:Int)] w fun e w'=>e = .returned (.int .i64 (markP x))∧w=w':=by
 have hways:x=58∨x=124∨x=59∨(((x:Int) == 58)=false∧((x:Int) == 124)=false∧((x:Int) == 59)=false∧markP x=0):=by
  by_cases g1:x=58
  · exact .inl g1
  · by_cases g2:x=124
    · exact .inr (.inl g2)
    · by_cases g3:x=59
      · exact .inr (.inr (.inl g3))
      · refine .inr (.inr (.inr ⟨?_,?_,?_,by simp [markP,g1,g2,g3]⟩)) <;> (rw [beq_eq_false_iff_ne];omega)
 rcases hways with rfl | rfl | rfl | ⟨g1,g2,g3,g5⟩
 all_goals
  first
   | rw [g5]
   | rw [show markP 58=10 from rfl]
   | rw [show markP 124=11 from rfl]
   | rw [show markP 59=12 from rfl]
  go_enter Tryz.func223,Tryz.ntmps223
  go_wp2_with fail
  go_ret
  exact ⟨rfl,rfl⟩
theorem results_cell2 {P:Program} {fn:Func} {p u v:Tmp} {ty:TypeId} (h:fn.results=#[.cell p ty, .tmp u, .tmp v]) (tmps:Array Value) (w:World) (g:Nat) (t:TypeId) (cs:Array Value) (fr:Nat × Nat) (d:TypeDesc)
 (hp:tmps.getD p undef = .pointer (some ⟨g,0,none⟩)) (hg:w.heap[g]? = some (.cells cs t fr))
 (hu:P.underlying ty=some d) (hd:(match d with | .struct _ | .array _ _=>true | _=>false)=true) (hi:(P.info? ty).map (·.size)=some cs.size) :
 (results fn tmps).run P w = .ok (.tuple #[.agg cs,tmps.getD u undef,tmps.getD v undef]) w:=by
 have hp':tmps[p]?.getD undef = .pointer (some ⟨g,0,none⟩):=by simpa using hp
 simp [results,h,hp',asAddr,run_loadVar_row w g t ty cs fr d hg hu hd hi]
abbrev TokV (kd:Int) (tx:List Nat) (at_:Value):Value := .agg #[.int .i64 kd, .string (str tx),at_]
theorem rf_one_mark (A:Option Addr) (n c i:Nat) (xs:List Nat) (w:World) (h:Nums .u8 w A n c xs) (hb:∀ x ∈ xs,x < 256) (hn:n≤100000) (hi:i < n) (h1:letterB (xs.getD i 0)=false) (h2:xs.getD i 0 ≠ 39) (h3:hasP xs i [37,37]=false) (h4:xs.getD i 0 ≠ 37) (h5:markP (xs.getD i 0) ≠ 0) :
 Calls Tryz.prog 187 #[.slice A n c, .int .i64 (i:Int)] w fun e w'=>e = .returned (.tuple #[TokV (markP (xs.getD i 0)) [] (atP xs i), .int .i64 ((i+1:Nat):Int), .int .i64 0])∧Below w.heap.size w w':=by
 obtain rfl:=h.len
 have hcap:=h.cap
 obtain ⟨b,off,x,rfl,hbl,Hx,hc⟩:=h.get hi
 have hx:xs.getD i 0=x:=by rw [List.getD_eq_getElem?_getD,Hx.out];rfl
 rw [hx] at h1 h2 h4 h5 ⊢
 have H:=LH h
 have CT:=LH fun W (hW:Below w.heap.size w W)=>ref_at (some ⟨b,off,none⟩) xs.length c xs (i:Int) W (h.below hW) hn
 have CH:=LH fun W (hW:Below w.heap.size w W)=>(rf_has7 (some ⟨b,off,none⟩) xs.length c i xs [37,37] W (h.below hW) hb (by decide) hn (by omega) (by decide))
 rw [h3,show str [37,37]=⟨#[37,37]⟩ from rfl] at CH
 have hx256:x < 256:=hb x (List.mem_of_getElem? Hx.out)
 have CF:=LH fun W=>lx_first x W hx256
 rw [h1] at CF
 have CM:=LH fun W=>rf_mark7 x W
 obtain ⟨ca,cb,hat⟩:∃ a b,atP xs (i:Int) = .complex .f64 a b:=by
  unfold atP PV
  split
  · exact ⟨_,_,rfl⟩
  · exact ⟨_,_,rfl⟩
 rw [hat] at CT ⊢
 have d2:((x:Int) == 39)=false:=by rw [beq_eq_false_iff_ne];omega
 have d4:((x:Int) == 37)=false:=by rw [beq_eq_false_iff_ne];omega
 have d5:(markP x == 0)=false:=by rw [beq_eq_false_iff_ne];exact h5
 generalize markP x=mk at *
 clear h hb h1 h2 h3 h4 h5 hx hat
 have hB1:=alloc_below w (.cells #[.int .i64 0, .string ⟨#[]⟩, .complex .f64 0 0] 231)
 have ksc:∀ (w:World) (a:Addr) (k:FloatKind) (x y:Nat) (m:Mode),(store a (.complex k x y) m).run Tryz.prog w=stored Tryz.prog w a (.complex k x y) m:=fun w a k x y m=>run_store Tryz.prog w a _ m rfl
 go_enter Tryz.func187,Tryz.ntmps187
 go_wp2_with (first
  | (go_at_call 186;(with_reducible refine (CT.out _ hB1).mono ?_);rintro e w2 ⟨rfl,rfl⟩)
  | (go_at_call 173;(with_reducible refine (CF.out _).mono ?_);rintro e w3 ⟨rfl,rfl⟩)
  | (go_at_call 216;(with_reducible refine (CH.out _ (below_alloc hB1 _)).mono ?_);rintro e w4 ⟨rfl,rfl⟩)
  | (go_at_call 223;(with_reducible refine (CM.out _).mono ?_);rintro e w5 ⟨rfl,rfl⟩))
 refine bodyPost_ret (results_cell2 (p:=4) (u:=5) (v:=6) (by kernel_rfl) _ _ w.heap.size 231 #[.int .i64 mk, .string ⟨#[]⟩, .complex .f64 ca cb] (0,0) _ rfl (Blk.ext (Blk.new w _ _) (alloc_below _ _)) Tryz.underlying231 rfl (by kernel_rfl)) rfl ?_
 exact ⟨rfl,below_alloc (alloc_below _ _) _⟩
theorem rf_one_cut (A:Option Addr) (n c i:Nat) (xs:List Nat) (w:World) (h:Nums .u8 w A n c xs) (hb:∀ x ∈ xs,x < 256) (hn:n≤100000) (hi:i < n) (h1:letterB (xs.getD i 0)=false) (h2:xs.getD i 0 ≠ 39) (h3:hasP xs i [37,37]=true) :
 Calls Tryz.prog 187 #[.slice A n c, .int .i64 (i:Int)] w fun e w'=>e = .returned (.tuple #[TokV 9 [] (atP xs i), .int .i64 ((i+2:Nat):Int), .int .i64 0])∧Below w.heap.size w w':=by
 obtain rfl:=h.len
 have hcap:=h.cap
 obtain ⟨b,off,x,rfl,hbl,Hx,hc⟩:=h.get hi
 have hx:xs.getD i 0=x:=by rw [List.getD_eq_getElem?_getD,Hx.out];rfl
 rw [hx] at h1 h2
 have H:=LH h
 have CT:=LH fun W (hW:Below w.heap.size w W)=>ref_at (some ⟨b,off,none⟩) xs.length c xs (i:Int) W (h.below hW) hn
 have CH:=LH fun W (hW:Below w.heap.size w W)=>(rf_has7 (some ⟨b,off,none⟩) xs.length c i xs [37,37] W (h.below hW) hb (by decide) hn (by omega) (by decide))
 rw [h3,show str [37,37]=⟨#[37,37]⟩ from rfl] at CH
 have hx256:x < 256:=hb x (List.mem_of_getElem? Hx.out)
 have CF:=LH fun W=>lx_first x W hx256
 rw [h1] at CF
 obtain ⟨ca,cb,hat⟩:∃ a b,atP xs (i:Int) = .complex .f64 a b:=by
  unfold atP PV
  split
  · exact ⟨_,_,rfl⟩
  · exact ⟨_,_,rfl⟩
 rw [hat] at CT ⊢
 have d2:((x:Int) == 39)=false:=by rw [beq_eq_false_iff_ne];omega
 clear h hb h1 h2 h3 hx hat
 have hB1:=alloc_below w (.cells #[.int .i64 0, .string ⟨#[]⟩, .complex .f64 0 0] 231)
 have ksc:∀ (w:World) (a:Addr) (k:FloatKind) (x y:Nat) (m:Mode),(store a (.complex k x y) m).run Tryz.prog w=stored Tryz.prog w a (.complex k x y) m:=fun w a k x y m=>run_store Tryz.prog w a _ m rfl
 go_enter Tryz.func187,Tryz.ntmps187
 go_wp2_with (first
  | (go_at_call 186;(with_reducible refine (CT.out _ hB1).mono ?_);rintro e w2 ⟨rfl,rfl⟩)
  | (go_at_call 173;(with_reducible refine (CF.out _).mono ?_);rintro e w3 ⟨rfl,rfl⟩)
  | (go_at_call 216;(with_reducible refine (CH.out _ (below_alloc hB1 _)).mono ?_);rintro e w4 ⟨rfl,rfl⟩))
 refine bodyPost_ret (results_cell2 (p:=4) (u:=5) (v:=6) (by kernel_rfl) _ _ w.heap.size 231 #[.int .i64 9, .string ⟨#[]⟩, .complex .f64 ca cb] (0,0) _ rfl (Blk.ext (Blk.new w _ _) (alloc_below _ _)) Tryz.underlying231 rfl (by kernel_rfl)) rfl ?_
 exact ⟨rfl,below_alloc (alloc_below _ _) _⟩
theorem rf_one_name (A:Option Addr) (n c i f:Nat) (xs:List Nat) (w:World) (h:Nums .u8 w A n c xs) (hb:∀ x ∈ xs,x < 256) (hn:n≤100000) (hi:i < n) (h1:letterB (xs.getD i 0)=true) (hf1:i < f) (hf2:f≤n) (hf3:f≤i+20)
 (hin:∀ k,i < k→k < f→innerB (xs.getD k 0)=true) (hout:f < n→innerB (xs.getD f 0)=false) :
 Calls Tryz.prog 187 #[.slice A n c, .int .i64 (i:Int)] w fun e w'=>e = .returned (.tuple #[TokV 1 ((xs.drop i).take (f - i)) (atP xs i), .int .i64 (f:Int), .int .i64 0])∧Below w.heap.size w w':=by
 obtain rfl:=h.len
 have hcap:=h.cap
 obtain ⟨b,off,x,rfl,hbl,Hx,hc⟩:=h.get hi
 have hx:xs.getD i 0=x:=by rw [List.getD_eq_getElem?_getD,Hx.out];rfl
 rw [hx] at h1
 have H:=LH h
 have CT:=LH fun W (hW:Below w.heap.size w W)=>ref_at (some ⟨b,off,none⟩) xs.length c xs (i:Int) W (h.below hW) hn
 have hx256:x < 256:=hb x (List.mem_of_getElem? Hx.out)
 have CF:=LH fun W=>lx_first x W hx256
 rw [h1] at CF
 obtain ⟨ca,cb,hat⟩:∃ a b,atP xs (i:Int) = .complex .f64 a b:=by
  unfold atP PV
  split
  · exact ⟨_,_,rfl⟩
  · exact ⟨_,_,rfl⟩
 rw [hat] at CT ⊢
 have Hb:=LH hb
 have Hin:=LH hin
 have Hout:=LH hout
 clear h hb h1 hx hat hin hout
 have hB1:=alloc_below w (.cells #[.int .i64 0, .string ⟨#[]⟩, .complex .f64 0 0] 231)
 have ksc:∀ (w:World) (a:Addr) (k:FloatKind) (x y:Nat) (m:Mode),(store a (.complex k x y) m).run Tryz.prog w=stored Tryz.prog w a (.complex k x y) m:=fun w a k x y m=>run_store Tryz.prog w a _ m rfl
 go_enter Tryz.func187,Tryz.ntmps187
 go_wp2_with (first
  | (go_at_call 186;(with_reducible refine (CT.out _ hB1).mono ?_);rintro e w2 ⟨rfl,rfl⟩)
  | (go_at_call 173;(with_reducible refine (CF.out _).mono ?_);rintro e w3 ⟨rfl,rfl⟩))
 go_loop [9] (fun v=>∃ (k:Nat),i < k∧k≤f∧v = .int .i64 (k:Int)) (fun v=>xs.length - (intOf v).toNat)
 case atStart=>exact ⟨i+1,by omega,by omega,by go_num⟩
 case round =>
  obtain ⟨k,hk1,hk2,rfl⟩:=hrel
  by_cases hkf:k < f
  · obtain ⟨b2,off2,y,e2,_,Hy,hcy⟩:=H.out.get (j:=k) (by omega)
    injection e2 with e2
    injection e2 with e2 e3
    subst e2 e3
    have hy:xs.getD k 0=y:=by rw [List.getD_eq_getElem?_getD,Hy.out];rfl
    have hl:=Hin.out k hk1 hkf
    rw [hy] at hl
    have CL:=LH fun W=>lx_later y W (Hb.out y (List.mem_of_getElem? Hy.out))
    rw [hl] at CL
    have hkn:k < xs.length:=by omega
    clear hl hy
    go_wp2_with (go_at_call 174;(with_reducible refine (CL.out _).mono ?_);rintro e w3 ⟨rfl,rfl⟩)
    go_round
    case rel=>exact ⟨k+1,by omega,by omega,by go_num⟩
    case measure=>simp [intOf];omega
  · obtain rfl:k=f:=by omega
    by_cases hkn:k < xs.length
    · obtain ⟨b2,off2,y,e2,_,Hy,hcy⟩:=H.out.get (j:=k) hkn
      injection e2 with e2
      injection e2 with e2 e3
      subst e2 e3
      have hy:xs.getD k 0=y:=by rw [List.getD_eq_getElem?_getD,Hy.out];rfl
      have hl:=Hout.out hkn
      rw [hy] at hl
      have CL:=LH fun W=>lx_later y W (Hb.out y (List.mem_of_getElem? Hy.out))
      rw [hl] at CL
      clear hl hy
      go_wp2_with (go_at_call 174;(with_reducible refine (CL.out _).mono ?_);rintro e w3 ⟨rfl,rfl⟩)
      have hcv:∀ W,Below w.heap.size w W→(convert 72 9 (.slice (some ⟨b,off+i,none⟩) (k - i) (c - i))).run Tryz.prog W = .ok (.string (str ((xs.drop i).take (k - i)))) W:=fun W hW=>by
       have hp:=(H.out.below hW).part i (k - i) (c - i) (by omega) (by omega) (by omega)
       have hl:((xs.drop i).take (k - i)).length=k - i:=by rw [List.length_take,List.length_drop];omega
       have:=run_bytes_str (P:=Tryz.prog) W 72 5 9 Tryz.underlying72 Tryz.underlying5 Tryz.underlying9 (some ⟨b,off+i,none⟩) (c - i) _ (by rw [hl];exact hp)
       rwa [hl] at this
      have hv1:=hcv _ (below_alloc hB1 (.cells #[.int .i64 0, .string ⟨#[]⟩, .complex .f64 ca cb] 231))
      have hv2:=hcv _ (below_alloc hB1 (.cells #[.int .i64 0, .string ⟨#[]⟩, .complex .f64 ca cb] 231)).drew
      have hv3:=hcv _ (below_alloc hB1 (.cells #[.int .i64 1, .string ⟨#[]⟩, .complex .f64 ca cb] 231))
      have hv4:=hcv _ (below_alloc hB1 (.cells #[.int .i64 1, .string ⟨#[]⟩, .complex .f64 ca cb] 231)).drew
      generalize htx:str ((xs.drop i).take (k - i))=tx at *
      have Htx:=LH htx
      clear hcv htx
      go_region_with (fail)
      all_goals
       go_wp2_with fail
       refine bodyPost_ret (results_cell2 (p:=4) (u:=5) (v:=6) (by kernel_rfl) _ _ w.heap.size 231 #[.int .i64 1, .string tx, .complex .f64 ca cb] (0,0) _ rfl (Blk.drew (Blk.ext (Blk.new w _ _) (alloc_below _ _))) Tryz.underlying231 rfl (by kernel_rfl)) rfl ?_
       exact ⟨by unfold TokV;rw [Htx.out];rfl,(below_alloc (alloc_below _ _) _).drew⟩
    · go_wp2_with fail
      have hcv:∀ W,Below w.heap.size w W→(convert 72 9 (.slice (some ⟨b,off+i,none⟩) (k - i) (c - i))).run Tryz.prog W = .ok (.string (str ((xs.drop i).take (k - i)))) W:=fun W hW=>by
       have hp:=(H.out.below hW).part i (k - i) (c - i) (by omega) (by omega) (by omega)
       have hl:((xs.drop i).take (k - i)).length=k - i:=by rw [List.length_take,List.length_drop];omega
       have:=run_bytes_str (P:=Tryz.prog) W 72 5 9 Tryz.underlying72 Tryz.underlying5 Tryz.underlying9 (some ⟨b,off+i,none⟩) (c - i) _ (by rw [hl];exact hp)
       rwa [hl] at this
      have hv1:=hcv _ (below_alloc hB1 (.cells #[.int .i64 0, .string ⟨#[]⟩, .complex .f64 ca cb] 231))
      have hv2:=hcv _ (below_alloc hB1 (.cells #[.int .i64 0, .string ⟨#[]⟩, .complex .f64 ca cb] 231)).drew
      have hv3:=hcv _ (below_alloc hB1 (.cells #[.int .i64 1, .string ⟨#[]⟩, .complex .f64 ca cb] 231))
      have hv4:=hcv _ (below_alloc hB1 (.cells #[.int .i64 1, .string ⟨#[]⟩, .complex .f64 ca cb] 231)).drew
      generalize htx:str ((xs.drop i).take (k - i))=tx at *
      have Htx:=LH htx
      clear hcv htx
      go_region_with (fail)
      all_goals
       go_wp2_with fail
       refine bodyPost_ret (results_cell2 (p:=4) (u:=5) (v:=6) (by kernel_rfl) _ _ w.heap.size 231 #[.int .i64 1, .string tx, .complex .f64 ca cb] (0,0) _ rfl (Blk.drew (Blk.ext (Blk.new w _ _) (alloc_below _ _))) Tryz.underlying231 rfl (by kernel_rfl)) rfl ?_
       exact ⟨by unfold TokV;rw [Htx.out];rfl,(below_alloc (alloc_below _ _) _).drew⟩
theorem rf_one_lit (A:Option Addr) (n c i:Nat) (xs:List Nat) (w:World) (h:Nums .u8 w A n c xs) (hb:∀ x ∈ xs,x < 256) (hn:n≤100000) (hi:i+3≤n) (h2:xs.getD i 0=39) (h3:litB ((xs.drop i).take 3)=true) :
 Calls Tryz.prog 187 #[.slice A n c, .int .i64 (i:Int)] w fun e w'=>e = .returned (.tuple #[TokV 2 ((xs.drop i).take 3) (atP xs i), .int .i64 ((i+3:Nat):Int), .int .i64 0])∧Below w.heap.size w w':=by
 obtain rfl:=h.len
 have hcap:=h.cap
 obtain ⟨b,off,x,rfl,hbl,Hx,hc⟩:=h.get (j:=i) (by omega)
 have hx:xs.getD i 0=x:=by rw [List.getD_eq_getElem?_getD,Hx.out];rfl
 obtain rfl:39=x:=by rw [← hx,h2]
 have h1:letterB 39=false:=by decide
 have H:=LH h
 have CT:=LH fun W (hW:Below w.heap.size w W)=>ref_at (some ⟨b,off,none⟩) xs.length c xs (i:Int) W (h.below hW) hn
 have CF:Hid (∀ W,Calls Tryz.prog 173 #[.int .u8 39] W fun e w'=>e = .returned (.bool false)∧W=w'):=LH fun W=>by
  have:=lx_first 39 W (by decide)
  rwa [h1] at this
 obtain ⟨ca,cb,hat⟩:∃ a b,atP xs (i:Int) = .complex .f64 a b:=by
  unfold atP PV
  split
  · exact ⟨_,_,rfl⟩
  · exact ⟨_,_,rfl⟩
 rw [hat] at CT ⊢
 have Hb:=LH hb
 have hbs:∀ y ∈ (xs.drop i).take 3,y < 256:=fun y hy=>hb y (List.mem_of_mem_drop (List.mem_of_mem_take hy))
 have cL:∀ W,Calls Tryz.prog 172 #[.string (str ((xs.drop i).take 3))] W fun e w'=>e = .returned (.bool true)∧W=w':=fun W=>by
  have:=ref_Literal (str ((xs.drop i).take 3)) W
  rwa [bytesOf_str _ hbs,h3] at this
 have CL:=LH cL
 clear h hb h1 h2 h3 hx hat hbs cL
 have hB1:=alloc_below w (.cells #[.int .i64 0, .string ⟨#[]⟩, .complex .f64 0 0] 231)
 have ksc:∀ (w:World) (a:Addr) (k:FloatKind) (x y:Nat) (m:Mode),(store a (.complex k x y) m).run Tryz.prog w=stored Tryz.prog w a (.complex k x y) m:=fun w a k x y m=>run_store Tryz.prog w a _ m rfl
 go_enter Tryz.func187,Tryz.ntmps187
 go_wp2_with (first
  | (go_at_call 186;(with_reducible refine (CT.out _ hB1).mono ?_);rintro e w2 ⟨rfl,rfl⟩)
  | (go_at_call 173;(with_reducible refine (CF.out _).mono ?_);rintro e w3 ⟨rfl,rfl⟩))
 have hcv:∀ W,Below w.heap.size w W→(convert 72 9 (.slice (some ⟨b,off+i,none⟩) 3 (c - i))).run Tryz.prog W = .ok (.string (str ((xs.drop i).take 3))) W:=fun W hW=>by
  have hp:=(H.out.below hW).part i 3 (c - i) (by omega) (by omega) (by omega)
  have hl:((xs.drop i).take 3).length=3:=by rw [List.length_take,List.length_drop];omega
  have:=run_bytes_str (P:=Tryz.prog) W 72 5 9 Tryz.underlying72 Tryz.underlying5 Tryz.underlying9 (some ⟨b,off+i,none⟩) (c - i) _ (by rw [hl];exact hp)
  rwa [hl] at this
 have hv1:=hcv _ (below_alloc hB1 (.cells #[.int .i64 0, .string ⟨#[]⟩, .complex .f64 ca cb] 231))
 have hv2:=hcv _ (below_alloc hB1 (.cells #[.int .i64 0, .string ⟨#[]⟩, .complex .f64 ca cb] 231)).drew
 have hv3:=hcv _ (below_alloc hB1 (.cells #[.int .i64 2, .string ⟨#[]⟩, .complex .f64 ca cb] 231))
 have hv4:=hcv _ (below_alloc hB1 (.cells #[.int .i64 2, .string ⟨#[]⟩, .complex .f64 ca cb] 231)).drew
 generalize htx:str ((xs.drop i).take 3)=tx at *
 have Htx:=LH htx
 have s2:IntKind.i64.wrap ((i:Int)+3)=(i:Int)+3:=IntWalk.i64_in _ (by omega)
 have s3:(i:Int)+3≤(xs.length:Int):=by omega
 have s4:((i:Int)+3).toNat=i+3:=by omega
 have s5:(0:Int)≤(i:Int)+3:=by omega
 have s6:(i:Int)≤(i:Int)+3:=by omega
 have s7:i+3 - i=3:=by omega
 have s8:(i:Int)+3≤(c:Int):=by omega
 clear hcv htx
 go_loop [10] (fun v=>v = .int .i64 3) (fun _=>0)
 case atStart=>rfl
 case round =>
  subst hrel
  go_wp2_with (go_at_call 172;(with_reducible refine (CL.out _).mono ?_);rintro e w3 ⟨rfl,rfl⟩)
  go_region_with (fail)
  all_goals
   go_wp2_with fail
   refine bodyPost_ret (results_cell2 (p:=4) (u:=5) (v:=6) (by kernel_rfl) _ _ w.heap.size 231 #[.int .i64 2, .string tx, .complex .f64 ca cb] (0,0) _ rfl (Blk.drew (Blk.ext (Blk.new w _ _) (alloc_below _ _))) Tryz.underlying231 rfl (by kernel_rfl)) rfl ?_
   exact ⟨by unfold TokV;rw [Htx.out];rfl,(below_alloc (alloc_below _ _) _).drew⟩
def percentP (xs:List Nat):Int :=
 if xs=[116,111,107,101,110] then 3 else if xs=[108,101,102,116] then 4 else if xs=[114,105,103,104,116] then 5 else if xs=[110,111,110,97,115,115,111,99] then 6
 else if xs=[115,116,97,114,116] then 7 else if xs=[112,114,101,99] then 8 else 0
theorem str_eqB {xs pat:List Nat} (hx:∀ x ∈ xs,x < 256) (hp:∀ x ∈ pat,x < 256):((str xs).toList == (str pat).toList)=decide (xs=pat):=by
 rw [Bool.eq_iff_iff,beq_iff_eq,decide_eq_true_iff]
 constructor
 · intro h
   have h2:str xs=str pat:=by
    have:=toList_beq (str xs) (str pat)
    rw [h,beq_self_eq_true] at this
    simpa using this.symm
   have h3:=congrArg bytesOf h2
   rwa [bytesOf_str _ hx,bytesOf_str _ hp] at h3
 · intro h;rw [h]
theorem rf_percent (xs:List Nat) (w:World) (hx:∀ x ∈ xs,x < 256):Calls Tryz.prog 222 #[.string (str xs)] w fun e w'=>e = .returned (.int .i64 (percentP xs))∧w=w':=by
 have h1:=str_eqB hx (pat:=[116,111,107,101,110]) (by decide)
 have h2:=str_eqB hx (pat:=[108,101,102,116]) (by decide)
 have h3:=str_eqB hx (pat:=[114,105,103,104,116]) (by decide)
 have h4:=str_eqB hx (pat:=[110,111,110,97,115,115,111,99]) (by decide)
 have h5:=str_eqB hx (pat:=[115,116,97,114,116]) (by decide)
 have h6:=str_eqB hx (pat:=[112,114,101,99]) (by decide)
 have e1:(str [116,111,107,101,110]).toList=[116,111,107,101,110]:=by kernel_rfl
 have e2:(str [108,101,102,116]).toList=[108,101,102,116]:=by kernel_rfl
 have e3:(str [114,105,103,104,116]).toList=[114,105,103,104,116]:=by kernel_rfl
 have e4:(str [110,111,110,97,115,115,111,99]).toList=[110,111,110,97,115,115,111,99]:=by kernel_rfl
 have e5:(str [115,116,97,114,116]).toList=[115,116,97,114,116]:=by kernel_rfl
 have e6:(str [112,114,101,99]).toList=[112,114,101,99]:=by kernel_rfl
 rw [e1] at h1
 rw [e2] at h2
 rw [e3] at h3
 rw [e4] at h4
 rw [e5] at h5
 rw [e6] at h6
 have Hf:Hid (percentP xs=if xs=[116,111,107,101,110] then 3 else if xs=[108,101,102,116] then 4 else if xs=[114,105,103,104,116] then 5 else if xs=[110,111,110,97,115,115,111,99] then 6 else if xs=[115,116,97,114,116] then 7 else if xs=[112,114,101,99] then 8 else 0):=LH rfl
 generalize percentP xs=r at *
 clear e1 e2 e3 e4 e5 e6 hx
 generalize (str xs)=sx at *
 rcases (by
  by_cases g1:xs=[116,111,107,101,110]
  · exact .inl ⟨decide_eq_true g1,by rw [Hf.out,if_pos g1]⟩
  by_cases g2:xs=[108,101,102,116]
  · exact .inr (.inl ⟨decide_eq_false g1,decide_eq_true g2,by rw [Hf.out,if_neg g1,if_pos g2]⟩)
  by_cases g3:xs=[114,105,103,104,116]
  · exact .inr (.inr (.inl ⟨decide_eq_false g1,decide_eq_false g2,decide_eq_true g3,by rw [Hf.out,if_neg g1,if_neg g2,if_pos g3]⟩))
  by_cases g4:xs=[110,111,110,97,115,115,111,99]
  · exact .inr (.inr (.inr (.inl ⟨decide_eq_false g1,decide_eq_false g2,decide_eq_false g3,decide_eq_true g4,by rw [Hf.out,if_neg g1,if_neg g2,if_neg g3,if_pos g4]⟩)))
  by_cases g5:xs=[115,116,97,114,116]
  · exact .inr (.inr (.inr (.inr (.inl ⟨decide_eq_false g1,decide_eq_false g2,decide_eq_false g3,decide_eq_false g4,decide_eq_true g5,by rw [Hf.out,if_neg g1,if_neg g2,if_neg g3,if_neg g4,if_pos g5]⟩))))
  by_cases g6:xs=[112,114,101,99]
  · exact .inr (.inr (.inr (.inr (.inr (.inl ⟨decide_eq_false g1,decide_eq_false g2,decide_eq_false g3,decide_eq_false g4,decide_eq_false g5,decide_eq_true g6,by rw [Hf.out,if_neg g1,if_neg g2,if_neg g3,if_neg g4,if_neg g5,if_pos g6]⟩)))))
  · exact .inr (.inr (.inr (.inr (.inr (.inr ⟨decide_eq_false g1,decide_eq_false g2,decide_eq_false g3,decide_eq_false g4,decide_eq_false g5,decide_eq_false g6,by rw [Hf.out,if_neg g1,if_neg g2,if_neg g3,if_neg g4,if_neg g5,if_neg g6]⟩))))) :
  (decide (xs=[116,111,107,101,110])=true∧r=3)∨(decide (xs=[116,111,107,101,110])=false∧decide (xs=[108,101,102,116])=true∧r=4) ∨
  (decide (xs=[116,111,107,101,110])=false∧decide (xs=[108,101,102,116])=false∧decide (xs=[114,105,103,104,116])=true∧r=5) ∨
  (decide (xs=[116,111,107,101,110])=false∧decide (xs=[108,101,102,116])=false∧decide (xs=[114,105,103,104,116])=false∧decide (xs=[110,111,110,97,115,115,111,99])=true∧r=6) ∨
  (decide (xs=[116,111,107,101,110])=false∧decide (xs=[108,101,102,116])=false∧decide (xs=[114,105,103,104,116])=false∧decide (xs=[110,111,110,97,115,115,111,99])=false∧decide (xs=[115,116,97,114,116])=true∧r=7) ∨
  (decide (xs=[116,111,107,101,110])=false∧decide (xs=[108,101,102,116])=false∧decide (xs=[114,105,103,104,116])=false∧decide (xs=[110,111,110,97,115,115,111,99])=false∧decide (xs=[115,116,97,114,116])=false∧decide (xs=[112,114,101,99])=true∧r=8) ∨
  (decide (xs=[116,111,107,101,110])=false∧decide (xs=[108,101,102,116])=false∧decide (xs=[114,105,103,104,116])=false∧decide (xs=[110,111,110,97,115,115,111,99])=false∧decide (xs=[115,116,97,114,116])=false∧decide (xs=[112,114,101,99])=false∧r=0)) with
  ⟨k1,rfl⟩ | ⟨k1,k2,rfl⟩ | ⟨k1,k2,k3,rfl⟩ | ⟨k1,k2,k3,k4,rfl⟩ | ⟨k1,k2,k3,k4,k5,rfl⟩ | ⟨k1,k2,k3,k4,k5,k6,rfl⟩ | ⟨k1,k2,k3,k4,k5,k6,rfl⟩
 all_goals
  (try rw [k1] at h1) <;> (try rw [k2] at h2) <;> (try rw [k3] at h3) <;> (try rw [k4] at h4) <;> (try rw [k5] at h5) <;> (try rw [k6] at h6)
  clear Hf
  go_enter Tryz.func222,Tryz.ntmps222
  go_wp2_with fail
  go_ret
  exact ⟨rfl,rfl⟩
def lowerB (x:Nat):Bool:=decide (97≤x) && decide (x≤122)
theorem lowerB_yes {x:Nat} (h:lowerB x=true):97≤x∧x≤122:=by
 unfold lowerB at h
 rw [Bool.and_eq_true,decide_eq_true_iff,decide_eq_true_iff] at h
 exact h
theorem lowerB_no {x:Nat} (h:lowerB x=false):x < 97∨(97≤x∧122 < x):=by
 unfold lowerB at h
 rw [Bool.and_eq_false_iff,decide_eq_false_iff_not,decide_eq_false_iff_not] at h
 omega
theorem rf_one_word (A:Option Addr) (n c i f:Nat) (xs:List Nat) (w:World) (h:Nums .u8 w A n c xs) (hb:∀ x ∈ xs,x < 256) (hn:n≤100000) (hi:i < n) (h2:xs.getD i 0=37) (h3:hasP xs i [37,37]=false) (hf1:i < f) (hf2:f≤n)
 (hin:∀ k,i < k→k < f→lowerB (xs.getD k 0)=true) (hout:f < n→lowerB (xs.getD f 0)=false) (hk:percentP ((xs.drop (i+1)).take (f - (i+1))) ≠ 0) :
 Calls Tryz.prog 187 #[.slice A n c, .int .i64 (i:Int)] w fun e w'=>e = .returned (.tuple #[TokV (percentP ((xs.drop (i+1)).take (f - (i+1)))) [] (atP xs i), .int .i64 (f:Int), .int .i64 0])∧Below w.heap.size w w':=by
 obtain rfl:=h.len
 have hcap:=h.cap
 obtain ⟨b,off,x,rfl,hbl,Hx,hc⟩:=h.get hi
 have hx:xs.getD i 0=x:=by rw [List.getD_eq_getElem?_getD,Hx.out];rfl
 rw [hx] at h2
 have H:=LH h
 have CT:=LH fun W (hW:Below w.heap.size w W)=>ref_at (some ⟨b,off,none⟩) xs.length c xs (i:Int) W (h.below hW) hn
 have CH:=LH fun W (hW:Below w.heap.size w W)=>(rf_has7 (some ⟨b,off,none⟩) xs.length c i xs [37,37] W (h.below hW) hb (by decide) hn (by omega) (by decide))
 rw [h3,show str [37,37]=⟨#[37,37]⟩ from rfl] at CH
 have hx256:x < 256:=by omega
 have CF:=LH fun W=>lx_first x W hx256
 rw [show letterB x=false by rw [h2];rfl] at CF
 have d2:((x:Int) == 39)=false:=by rw [beq_eq_false_iff_ne];omega
 have d4:((x:Int) == 37)=true:=by rw [beq_iff_eq];omega
 obtain ⟨ca,cb,hat⟩:∃ a b,atP xs (i:Int) = .complex .f64 a b:=by
  unfold atP PV
  split
  · exact ⟨_,_,rfl⟩
  · exact ⟨_,_,rfl⟩
 rw [hat] at CT ⊢
 have hsub:∀ y ∈ (xs.drop (i+1)).take (f - (i+1)),y < 256:=fun y hy=>hb y (List.mem_of_mem_drop (List.mem_of_mem_take hy))
 have CP:=LH fun W=>rf_percent ((xs.drop (i+1)).take (f - (i+1))) W hsub
 obtain ⟨At,hsl,hAt⟩:∃ At:Option Addr,(∀ W:World,(Instr.sliceAt 72 (.slice (some ⟨b,off,none⟩) xs.length c) (some (.int .i64 ((i:Int)+1))) (some (.int .i64 (f:Int))) none).run Tryz.prog W = .ok (.slice At (f - (i+1)) (c - (i+1))) W) ∧
  ∀ W,Below w.heap.size w W→Nums .u8 W At (f - (i+1)) (c - (i+1)) ((xs.drop (i+1)).take (f - (i+1))):=by
  refine ⟨if c=i+1 then some ⟨b,off,none⟩ else some ⟨b,off+(i+1),none⟩,fun W=>?_,fun W hW=>?_⟩
  · have h1:¬ ((f:Int) < (i:Int)+1):=by omega
    have h2:¬ ((c:Int) < (f:Int)):=by omega
    have h3:((i:Int)+1).toNat=i+1:=by omega
    go_simp
    rw [if_pos (by omega),if_pos (by omega)]
  · by_cases hci:c=i+1
    · have hz:f - (i+1)=0:=by omega
      rw [if_pos hci,hz,List.take_zero]
      exact Nums.nil _ _ _ _ (by omega)
    · rw [if_neg hci]
      exact (h.below hW).part (i+1) (f - (i+1)) (c - (i+1)) (by omega) (by omega) (by omega)
 have hcv:∀ W,Below w.heap.size w W→(convert 72 9 (.slice At (f - (i+1)) (c - (i+1)))).run Tryz.prog W = .ok (.string (str ((xs.drop (i+1)).take (f - (i+1))))) W:=fun W hW=>by
  have hl:((xs.drop (i+1)).take (f - (i+1))).length=f - (i+1):=by rw [List.length_take,List.length_drop];omega
  have:=run_bytes_str (P:=Tryz.prog) W 72 5 9 Tryz.underlying72 Tryz.underlying5 Tryz.underlying9 At (c - (i+1)) _ (by rw [hl];exact hAt W hW)
  rwa [hl] at this
 clear hAt
 have d5:(percentP ((xs.drop (i+1)).take (f - (i+1))) == 0)=false:=by rw [beq_eq_false_iff_ne];exact hk
 generalize percentP ((xs.drop (i+1)).take (f - (i+1)))=mk at *
 generalize str ((xs.drop (i+1)).take (f - (i+1)))=tx at *
 have Hb:=LH hb
 have Hin:=LH hin
 have Hout:=LH hout
 have Hcv:=LH hcv
 clear h hb h2 h3 hx hat hin hout hsub hk hcv
 have hB1:=alloc_below w (.cells #[.int .i64 0, .string ⟨#[]⟩, .complex .f64 0 0] 231)
 have ksc:∀ (w:World) (a:Addr) (k:FloatKind) (x y:Nat) (m:Mode),(store a (.complex k x y) m).run Tryz.prog w=stored Tryz.prog w a (.complex k x y) m:=fun w a k x y m=>run_store Tryz.prog w a _ m rfl
 go_enter Tryz.func187,Tryz.ntmps187
 go_wp2_with (first
  | (go_at_call 186;(with_reducible refine (CT.out _ hB1).mono ?_);rintro e w2 ⟨rfl,rfl⟩)
  | (go_at_call 173;(with_reducible refine (CF.out _).mono ?_);rintro e w3 ⟨rfl,rfl⟩)
  | (go_at_call 216;(with_reducible refine (CH.out _ (below_alloc hB1 _)).mono ?_);rintro e w4 ⟨rfl,rfl⟩))
 go_loop [9] (fun v=>∃ (k:Nat),i < k∧k≤f∧v = .int .i64 (k:Int)) (fun v=>xs.length - (intOf v).toNat)
 case atStart=>exact ⟨i+1,by omega,by omega,by go_num⟩
 case round =>
  obtain ⟨k,hk1,hk2,rfl⟩:=hrel
  by_cases hkf:k < f
  · obtain ⟨b2,off2,y,e2,_,Hy,hcy⟩:=H.out.get (j:=k) (by omega)
    injection e2 with e2
    injection e2 with e2 e3
    subst e2 e3
    have hy:xs.getD k 0=y:=by rw [List.getD_eq_getElem?_getD,Hy.out];rfl
    have hl:=Hin.out k hk1 hkf
    rw [hy] at hl
    obtain ⟨y1,y2⟩:=lowerB_yes hl
    have q1:(97:Int)≤(y:Int):=by omega
    have q2:(y:Int)≤122:=by omega
    have hkn:k < xs.length:=by omega
    clear hl hy
    go_wp2_with fail
    go_round
    case rel=>exact ⟨k+1,by omega,by omega,by go_num⟩
    case measure=>simp [intOf];omega
  · obtain rfl:k=f:=by omega
    have hX:=Hcv.out _ (below_alloc hB1 (.cells #[.int .i64 0, .string ⟨#[]⟩, .complex .f64 ca cb] 231))
    by_cases hkn:k < xs.length
    · obtain ⟨b2,off2,y,e2,_,Hy,hcy⟩:=H.out.get (j:=k) hkn
      injection e2 with e2
      injection e2 with e2 e3
      subst e2 e3
      have hy:xs.getD k 0=y:=by rw [List.getD_eq_getElem?_getD,Hy.out];rfl
      have hl:=Hout.out hkn
      rw [hy] at hl
      rcases lowerB_no hl with y1 | ⟨y1,y2⟩
      · have q1:¬ ((97:Int)≤(y:Int)):=by omega
        clear hl hy
        go_wp2_with (go_at_call 222;(with_reducible refine (CP.out _).mono ?_);rintro e w3 ⟨rfl,rfl⟩)
        refine bodyPost_ret (results_cell2 (p:=4) (u:=5) (v:=6) (by kernel_rfl) _ _ w.heap.size 231 #[.int .i64 mk, .string ⟨#[]⟩, .complex .f64 ca cb] (0,0) _ rfl (Blk.ext (Blk.new w _ _) (alloc_below _ _)) Tryz.underlying231 rfl (by kernel_rfl)) rfl ?_
        exact ⟨rfl,below_alloc (alloc_below _ _) _⟩
      · have q1:(97:Int)≤(y:Int):=by omega
        have q2:¬ ((y:Int)≤122):=by omega
        clear hl hy
        go_wp2_with (go_at_call 222;(with_reducible refine (CP.out _).mono ?_);rintro e w3 ⟨rfl,rfl⟩)
        refine bodyPost_ret (results_cell2 (p:=4) (u:=5) (v:=6) (by kernel_rfl) _ _ w.heap.size 231 #[.int .i64 mk, .string ⟨#[]⟩, .complex .f64 ca cb] (0,0) _ rfl (Blk.ext (Blk.new w _ _) (alloc_below _ _)) Tryz.underlying231 rfl (by kernel_rfl)) rfl ?_
        exact ⟨rfl,below_alloc (alloc_below _ _) _⟩
    · go_wp2_with (go_at_call 222;(with_reducible refine (CP.out _).mono ?_);rintro e w3 ⟨rfl,rfl⟩)
      refine bodyPost_ret (results_cell2 (p:=4) (u:=5) (v:=6) (by kernel_rfl) _ _ w.heap.size 231 #[.int .i64 mk, .string ⟨#[]⟩, .complex .f64 ca cb] (0,0) _ rfl (Blk.ext (Blk.new w _ _) (alloc_below _ _)) Tryz.underlying231 rfl (by kernel_rfl)) rfl ?_
      exact ⟨rfl,below_alloc (alloc_below _ _) _⟩
section
variable {P:Program} {w:World}
theorem own_formS {base e size:Nat} {v:Value} {n:Nat} {xs:List Value} (h:w.ownsRow base e size v n xs):∃ A c,v = .slice A n c:=by
 rcases h.2 with ⟨rfl,rfl⟩ | ⟨g,cap,cur,rfl,_⟩
 · exact ⟨_,_,rfl⟩
 · exact ⟨_,_,rfl⟩
end
structure TokP where
 kind:Int
 text:List Nat
 at_:Nat
def nameEnd (xs:List Nat) (i:Nat):Nat:=i+1+((xs.drop (i+1)).takeWhile innerB).length
def wordEnd (xs:List Nat) (i:Nat):Nat:=i+1+((xs.drop (i+1)).takeWhile lowerB).length
def oneP (xs:List Nat) (i:Nat):Option (TokP × Nat) :=
 if letterB (xs.getD i 0) then (if nameEnd xs i≤i+20 then some (⟨1,(xs.drop i).take (nameEnd xs i - i),i⟩,nameEnd xs i) else none)
 else if xs.getD i 0=39 then (if litB ((xs.drop i).take 3) && decide (i+3≤xs.length) then some (⟨2,(xs.drop i).take 3,i⟩,i+3) else none)
 else if hasP xs i [37,37] then some (⟨9,[],i⟩,i+2)
 else if xs.getD i 0=37 then (if percentP ((xs.drop (i+1)).take (wordEnd xs i - (i+1)))=0 then none else some (⟨percentP ((xs.drop (i+1)).take (wordEnd xs i - (i+1))),[],i⟩,wordEnd xs i))
 else if markP (xs.getD i 0)=0 then none else some (⟨markP (xs.getD i 0),[],i⟩,i+1)
def toksP (xs:List Nat):Nat→Nat→Option (List TokP)
 | 0,_=>none
 | q+1,i =>
   if i ≥ xs.length then some []
   else if !plainAt xs i then none
   else if blankB (xs.getD i 0) then toksP xs q (i+1)
   else match oneP xs i with
    | none=>none
    | some (t,j)=>(toksP xs q j).map (t::·)
end Go.Proofs.YtggbjdmpjidhgaaGreatDoor
