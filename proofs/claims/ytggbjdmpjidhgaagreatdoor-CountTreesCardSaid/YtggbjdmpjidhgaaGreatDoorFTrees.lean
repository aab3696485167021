/- words that the packed base lacks. -/
import Derived.Test.YtggbjdmpjidhgaaGreatDoorQCtP4
import Derived.Test.YtggbjdmpjidhgaaGreatDoorQCtW11
import Derived.Test.YtggbjdmpjidhgaaGreatDoorQCtA
import Derived.Test.YtggbjdmpjidhgaaGreatDoorQEntryI
set_option linter.unusedVariables false
set_option linter.unusedSimpArgs false
set_option maxHeartbeats 8000000
set_option maxRecDepth 100000
namespace Go.Proofs.YtggbjdmpjidhgaaGreatDoor
open Go.RowKit
set_option maxHeartbeats 8000000
set_option maxRecDepth 100000
section
variable {G:Gr}
end
theorem lefts_range (G:Gr):∀ (rs:List Rul) (t:Int),G.leftsGo rs (-1)=some t→oldOf rs=List.range (t+1).toNat:=by
 intro rs
 induction rs using snoc_ind with
 | h0=>intro t h;simp [Gr.leftsGo] at h;subst h;rfl
 | h1 rs r ih =>
   intro t h
   rw [Gr.leftsGo_snoc] at h
   cases hg:G.leftsGo rs (-1) with
   | none=>rw [hg] at h;cases h
   | some t0 =>
     rw [hg,Option.bind_some] at h
     have hbd:=G.leftsGo_bd rs (-1) t0 (by omega) hg
     split at h
     · rename_i hc
       have e:max t0 r.left=t:=Option.some.inj h
       rw [oldOf_snoc,ih t0 hg]
       unfold putO
       by_cases hl:r.left≤t0
       · rw [if_pos (by rw [List.mem_range];omega)]
         congr 1
         omega
       · rw [if_neg (by rw [List.mem_range];omega)]
         have e1:r.left=t0+1:=by omega
         have e2:(t+1).toNat=(t0+1).toNat+1:=by omega
         rw [e2,List.range_succ,e1]
     · cases h
theorem toI_range {n i:Nat} (h:i < n):toI (List.range n) i=(i:Int):=toI_get List.nodup_range (List.getElem?_range h)
theorem red_id {G:Gr} (hr:G.right=true) (hU:∀ i,i < G.nons.length→(useS G).testBit i=true):redG G=G:=by
 have hG:=Gr.fits hr
 obtain ⟨_,_,_,hst,hlf⟩:=right_parts.1 hr
 have hUb:∀ i,i < G.nons.length→(prodN G).getD i false=true∧(reachN G).getD i false=true:=fun i hi=>(useS_bit G hG i).1 (hU i hi)
 have hnl:∀ r ∈ G.rules,∀ s ∈ r.right,s < 0→nonI s < G.nons.length:=fun r hr s hs h0=>by
  have:=hG.sym r hr s hs
  unfold nonI
  omega
 have hk:keptR G=G.rules:=by
  unfold keptR
  rw [List.filter_eq_self]
  intro r hr
  have hl:=hG.left r hr
  unfold keepB
  rw [Bool.and_eq_true]
  exact ⟨(hUb _ (by omega)).2,allP_iff.2 fun s hs=>⟨fun _=>rfl,fun h0=>(hUb _ (hnl r hr s hs h0)).1⟩⟩
 have ho:oldN G=List.range G.nons.length:=by
  unfold oldN
  rw [hk,lefts_range G _ _ hlf]
  congr 1
  omega
 have h1:(oldN G).map (nameO G)=G.nons:=by
  rw [ho]
  refine List.ext_getElem? fun j=>?_
  rw [List.getElem?_map]
  by_cases hj:j < G.nons.length
  · rw [List.getElem?_range hj,List.getElem?_eq_getElem hj]
    show some (nameO G j)=_
    unfold nameO
    rw [List.getElem?_eq_getElem hj]
    rfl
  · rw [List.getElem?_eq_none (by simpa using hj),List.getElem?_eq_none (by omega)]
    rfl
 have h2:(keptR G).map (redR (oldN G))=G.rules:=by
  rw [hk,ho]
  conv=>rhs;rw [← List.map_id G.rules]
  refine List.map_congr_left fun r hr=>?_
  have hl:=hG.left r hr
  have e1:toI (List.range G.nons.length) r.left.toNat=r.left:=by rw [toI_range (by omega)];omega
  have e2:r.right.map (redS (List.range G.nons.length))=r.right:=by
   conv=>rhs;rw [← List.map_id r.right]
   refine List.map_congr_left fun s hs=>?_
   unfold redS
   split
   · rename_i h0
     rw [toI_range (hnl r hr s hs h0)]
     show -1 - ((nonI s:Nat):Int)=s
     exact nonI_neg h0
   · rfl
  unfold redR
  rw [e1,e2]
  rfl
 have h3:toI (oldN G) G.start.toNat=G.start:=by rw [ho,toI_range (by omega)];omega
 unfold redG
 rw [h1,h2,h3]
theorem red_twice {G:Gr} (hr:G.right=true) (hp:(prodN G).getD G.start.toNat false=true):redG (redG G)=redG G:=red_id (red_right hr hp) fun i hi=>red_use hr hp hi
set_option maxHeartbeats 8000000
set_option maxRecDepth 100000
open Ieee
def IsN (d:Datum) (n:Nat):Prop:=∃ k:Nat,d = .number false (n * 2 ^ k) (-(k:Int))
theorem IsN.zero (k:Nat):IsN (.number false 0 (-(k:Int))) 0:=⟨k,by rw [Nat.zero_mul]⟩
theorem ints_one (k:IntKind) (xs:List Int):∀ u ∈ ints k xs,u.oneCell'=true:=by
 intro u hu
 simp only [ints,List.mem_map] at hu
 obtain ⟨x,_,rfl⟩:=hu
 rfl
section
variable {P:Program} {w:World}
theorem run_appendS (base:Nat) (t ty e:TypeId) (z:Value) (bytes:Nat) (ht:P.underlying t=some (.slice e))
 (hi:(P.info? e).map (fun i=>(i.zero,i.size,i.bytes))=some (some z,1,bytes)) (hz1:z.cells.size=1)
 (A:Option Addr) (n c:Nat) (xs:List Value) (hown:w.ownsRow base e 1 (.slice A n c) n xs)
 (A2:Option Addr) (m c2:Nat) (news:List Value) (hr:Sl w A2 m c2 news) (h1:∀ u ∈ news,u.oneCell'=true)
 (h63:n+m≤9223372036854775807) (hbytes:(n+m) * bytes≤140737488355328) (hbase:base≤w.heap.size) :
 ∃ A' c' w',(Builtin.append_ #[t,t] ty #[.slice A n c, .slice A2 m c2]).run P w = .ok (.slice A' (n+m) c') w'∧w'.ownsRow base e 1 (.slice A' (n+m) c') (n+m) (xs++news)∧w.grownBy w' (Value.slice A n c).ownBlock ∧
   (∀ b,(Value.slice A' (n+m) c').ownBlock=some b→b < w.heap.size→(Value.slice A n c).ownBlock=some b):=by
 obtain ⟨i,hi',hz,hsz,hby⟩:=info_parts hi
 rcases A2 with _ | ad
 · have hm:m=0:=by
    rcases Nat.eq_zero_or_pos m with h0 | h0
    · exact h0
    · obtain ⟨b,off,he,_⟩:=hr.2.2.2 (by rw [hr.1];exact h0)
      cases he
   subst hm
   have hn:news=[]:=List.eq_nil_of_length_eq_zero hr.1
   subst hn
   exact ⟨A,c,w,run_append_nil' base t ty e i ht hi' A n c xs hown c2,by simpa using hown,⟨rfl,rfl,rfl,Nat.le_refl _,fun _ _ _=>rfl⟩,fun b hb _=>hb⟩
 · have hcells:∀ j u,news[j]? = some u→w.cell? (ad.add j)=some u:=by
    intro j u hu
    have hjl:j < news.length:=(List.getElem?_eq_some_iff.1 hu).1
    obtain ⟨b,off,he,_,hc⟩:=hr.2.2.2 (by omega)
    injection he with he
    subst he
    have:=hc j hjl
    rw [hu] at this
    unfold Addr.add
    split
    · rename_i h0;subst h0;simpa using this
    · exact this
   obtain ⟨v',w',hrun,h3,h4,_,h5⟩:=run_append_own_at (P:=P) w base t ty e i z 1 bytes ht hi' hz hsz hby hz1 (by decide) _ n xs hown ad m c2 news (by rw [hr.1,Nat.mul_one]) hcells h1 (by simpa [maxLen] using h63) hbytes hbase
   obtain ⟨A',c',rfl⟩:=own_form h3
   refine ⟨A',c',w',hrun,h3,h4,fun b hb hlt=>?_⟩
   rcases h5 with h5 | h5
   · rw [← h5];exact hb
   · rw [h5] at hb;injection hb with hb;omega
theorem wpl_appendI {ops:Array Oper} {rest:List Oper} {o:Oper} {a:Act} {Q:Exit→Act→World→Prop} (hgd:o.guard=none) (s x:Operand) (t:TypeId)
 (ho:o.op = .call { callee := .builtin .append,args:=#[s,x],argTypes:=#[t,t] })
 (base:Nat) (e:TypeId) (z:Value) (bytes:Nat) (ht:P.underlying t=some (.slice e))
 (hi:(P.info? e).map (fun i=>(i.zero,i.size,i.bytes))=some (some z,1,bytes)) (hz1:z.cells.size=1)
 (A:Option Addr) (n c:Nat) (xs:List Value) (hs:a.eval s = .slice A n c) (hown:w.ownsRow base e 1 (.slice A n c) n xs)
 (A2:Option Addr) (m c2:Nat) (news:List Value) (hx:a.eval x = .slice A2 m c2) (hr:Sl w A2 m c2 news) (h1:∀ u ∈ news,u.oneCell'=true)
 (h63:n+m≤9223372036854775807) (hbytes:(n+m) * bytes≤140737488355328) (hbase:base≤w.heap.size)
 (h:∀ A' c' w',w'.ownsRow base e 1 (.slice A' (n+m) c') (n+m) (xs++news)→w.grownBy w' (Value.slice A n c).ownBlock→(∀ b,(Value.slice A' (n+m) c').ownBlock=some b→b < w.heap.size→(Value.slice A n c).ownBlock=some b) →
   wpList P ops Q rest (a.put o.dst (.slice A' (n+m) c')) w'):wpList P ops Q (o::rest) a w:=by
 obtain ⟨A',c',w',hrun,h3,h4,h5⟩:=run_appendS (P:=P) base t o.type e z bytes ht hi hz1 A n c xs hown A2 m c2 news hr h1 h63 hbytes hbase
 refine wpList_plain hgd fun K hK=>?_
 unfold Oper.wp execOp
 simp only [ho,resolve,invoke,builtin,Sem.run_bind,Sem.run_pure,Result.andThen_ok,List.map_toArray,List.map_cons,List.map_nil,hs,hx,hrun]
 exact hK _ _ (h A' c' w' h3 h4 h5)
end
set_option maxHeartbeats 8000000
set_option maxRecDepth 100000
theorem Own.alloc {w:World} {g:Nat} {t:TypeId} {k:IntKind} {zs:List Nat} (h:Own w g t k zs) (o:Obj):Own (w.alloc o) g t k zs :=
 (Below.heap_alloc w o g h.lt).trans h
theorem Own.below {w w':World} {B g:Nat} {t:TypeId} {k:IntKind} {zs:List Nat} (h:Own w g t k zs) (hb:Below B w w') (hg:g < B):Own w' g t k zs:=(hb.block g hg).trans h
theorem aheadK_succ (T:Int→Nat→Nat) (s:Int) (l:List Int) (n k:Nat):aheadK T s l n (k+1)=aheadK T s l n k+T s k * forestT T l (n - k):=sum_range_succ (fun j=>T s j * forestT T l (n - j)) k
theorem aheadK_all (T:Int→Nat→Nat) (s:Int) (l:List Int) (n:Nat):aheadK T s l n (n+1)=forestT T (s::l) n:=rfl
theorem aheadK_mono (T:Int→Nat→Nat) (s:Int) (l:List Int) (n:Nat) {k k':Nat} (h:k≤k'):aheadK T s l n k≤aheadK T s l n k':=by
 obtain ⟨d,rfl⟩:=Nat.exists_eq_add_of_le h
 induction d with
 | zero=>exact Nat.le_refl _
 | succ d ih=>rw [← Nat.add_assoc,aheadK_succ];exact Nat.le_trans (ih (Nat.le_add_right _ _)) (Nat.le_add_right _ _)
theorem aheadR_succ (T:Int→Nat→Nat) {rs:List Rul} {i:Nat} {x:Rul} (h:rs[i]? = some x) (a n:Nat):aheadR T rs a (i+1) n=aheadR T rs a i n+(if x.left.toNat=a then forestT T x.right n else 0):=by
 unfold aheadR
 rw [List.take_add_one,h]
 exact rulesT_snoc T _ x a n
theorem aheadR_past (T:Int→Nat→Nat) {rs:List Rul} {i:Nat} (h:rs.length≤i) (a n:Nat):aheadR T rs a i n=rulesT T rs a n:=by
 unfold aheadR
 rw [List.take_of_length_le h]
theorem aheadR_mono (T:Int→Nat→Nat) (rs:List Rul) (a n:Nat) {i i':Nat} (h:i≤i'):aheadR T rs a i n≤aheadR T rs a i' n:=by
 obtain ⟨d,rfl⟩:=Nat.exists_eq_add_of_le h
 induction d with
 | zero=>exact Nat.le_refl _
 | succ d ih =>
   refine Nat.le_trans (ih (Nat.le_add_right _ _)) ?_
   cases hx:rs[i+d]? with
   | none =>
     have hl:rs.length≤i+d:=List.getElem?_eq_none_iff.1 hx
     rw [← Nat.add_assoc,aheadR_past T hl,aheadR_past T (by omega)]
     exact Nat.le_refl _
   | some x=>rw [← Nat.add_assoc,aheadR_succ T hx];exact Nat.le_add_right _ _
theorem aheadR_le (T:Int→Nat→Nat) (rs:List Rul) (a n i:Nat):aheadR T rs a i n≤rulesT T rs a n:=by
 have h:=aheadR_mono T rs a n (Nat.le_max_left i rs.length)
 rwa [aheadR_past T (Nat.le_max_right i rs.length)] at h
def UnT (G:Gr) (a n r:Nat) (t:List Nat):Prop:=∃ i x q t1,G.rules[i]? = some x∧x.left.toNat=a∧UnL G x.right n q t1∧r=aheadR (treeN G) G.rules a i n+q∧t=i::t1
theorem InG.tail {G:Gr} {s:Int} {l:List Int} (h:InG G (s::l)):InG G l:=fun q hq=>h q (List.mem_cons_of_mem _ hq)
theorem InG.at {G:Gr} (hG:G.Fits) {i:Nat} {x:Rul} (hx:G.rules[i]? = some x):InG G x.right:=InG.rule hG (List.mem_of_getElem? hx)
theorem part_lt {a q T F r:Nat} (h1:a+q < T) (h2:r < F):(a+q) * F+r < T * F :=
 Nat.lt_of_lt_of_le (Nat.add_lt_add_left h2 _) (by rw [← Nat.succ_mul];exact Nat.mul_le_mul_right _ h1)
theorem UnL.lt {G:Gr} (hP:Plain G) {l:List Int} {n r:Nat} {t:List Nat} (h:UnL G l n r t) (hl:InG G l):r < forestT (treeN G) l n:=by
 induction h with
 | nil=>exact Nat.one_pos
 | @term s l n r t h0 _ ih =>
   have h1:=ih hl.tail
   rw [← aheadK_all]
   refine Nat.lt_of_lt_of_le ?_ (aheadK_mono (treeN G) s l (n+1) (k:=2) (by omega))
   rw [aheadK_succ,treeN_term G h0]
   show r < _+oneT 1 * _
   unfold oneT
   rw [if_pos rfl,Nat.one_mul]
   exact Nat.lt_of_lt_of_le h1 (Nat.le_add_left _ _)
 | @non s l n k i q r x t1 t2 h0 hx hxl _ _ ih1 ih2 =>
   have h1:=ih1 (InG.at hP.fits hx)
   have h2:=ih2 hl.tail
   have h3:aheadR (treeN G) G.rules (nonI s) i k+q < treeN G s k:=by
    rw [treeN_non hP h0 (hl s (List.mem_cons_self ..) h0)]
    refine Nat.lt_of_lt_of_le (Nat.add_lt_add_left h1 _) ?_
    have:=aheadR_succ (treeN G) hx (nonI s) k
    rw [if_pos hxl] at this
    rw [← this]
    exact aheadR_le _ _ _ _ _
   rw [← aheadK_all,Nat.add_assoc]
   refine Nat.lt_of_lt_of_le (Nat.add_lt_add_left (part_lt h3 h2) _) ?_
   have e:=aheadK_succ (treeN G) s l (k+n) k
   rw [Nat.add_sub_cancel_left] at e
   rw [← e]
   exact aheadK_mono _ _ _ _ (by omega)
theorem UnT.lt {G:Gr} (hP:Plain G) {s:Int} (h0:s < 0) (hl:nonI s < G.nons.length) {n r:Nat} {t:List Nat} (h:UnT G (nonI s) n r t):r < treeN G s n:=by
 obtain ⟨i,x,q,t1,hx,hxl,hu,rfl,_⟩:=h
 rw [treeN_non hP h0 hl]
 refine Nat.lt_of_lt_of_le (Nat.add_lt_add_left (hu.lt hP (InG.at hP.fits hx)) _) ?_
 have:=aheadR_succ (treeN G) hx (nonI s) n
 rw [if_pos hxl] at this
 rw [← this]
 exact aheadR_le _ _ _ _ _
theorem rf_Count22 (h:GH) (G:Gr) (n:Int) (w:World) (hg:GrAt w h G) (h1:h.n1≤100) (h2:h.n2≤100) (h3:h.n3≤100) :
 Calls Tryz.prog 20 #[GV h G.start, .int .i64 n] w (RetNat w (cntN22 G n)):=by
 obtain ⟨a1,n1,c1,a2,n2,c2,a3,n3,c3⟩:=h
 simp only [] at h1 h2 h3
 have Hg:=Lib.hid hg
 have hB0:=alloc_below w (.cells #[.slice a1 n1 c1, .slice a2 n2 c2, .slice a3 n3 c3, .int .i64 G.start] 26)
 have hbox:=GBox.new w 26 ⟨a1,n1,c1,a2,n2,c2,a3,n3,c3⟩ G.start
 clear hg
 go_enter Tryz.func20,Tryz.ntmps20
 have ⟨z5,z0,z1,z2,z3⟩:=hbox
 simp only [] at z0 z1 z2 z3
 go_upto_region 1 with fail
 generalize w.alloc (.cells #[.slice a1 n1 c1, .slice a2 n2 c2, .slice a3 n3 c3, .int .i64 G.start] 26)=W0 at *
 have CI:=Lib.hid (rf_right9 ⟨a1,n1,c1,a2,n2,c2,a3,n3,c3⟩ G W0 (Hg.out.below hB0) (by simp only [];omega) (by simp only [];omega) (by simp only [];omega))
 have HB0:=Lib.hid hB0
 have Hbox:=Lib.hid hbox
 have hbad:(G.right=false∨n < 0∨10 < n)→cntN22 G n=([],1):=fun hh=>by unfold cntN22;rw [if_pos hh]
 have Hret:Hid (∀ w' er,Below w.heap.size w w'→cntN22 G n=([],er)→RetNat w (cntN22 G n) (.returned (.tuple #[.slice none 0 0, .int .i64 (er:Int)])) w'):=Lib.hid fun w' er hb he=>by rw [he];exact ⟨none,0,rfl,Nums.nil _ _ _ _ (by omega),hb⟩
 clear hB0 hbox
 cases hr:G.right
 case false =>
  have Hb:=Lib.hid (hbad (.inl hr))
  rw [hr] at CI
  clear hbad
  go_wp2_with (go_at_call 29;(with_reducible refine CI.out.mono ?_);rintro e w6 ⟨rfl,hb6⟩)
  go_ret2
  exact Hret.out _ 1 (below_tail HB0.out hb6) Hb.out
 rw [hr] at CI
 by_cases hn0:n < 0
 case pos =>
  have Hb:=Lib.hid (hbad (.inr (.inl hn0)))
  clear hbad
  go_wp2_with (go_at_call 29;(with_reducible refine CI.out.mono ?_);rintro e w6 ⟨rfl,hb6⟩)
  go_ret2
  exact Hret.out _ 1 (below_tail HB0.out hb6) Hb.out
 by_cases hn10:10 < n
 case pos =>
  have Hb:=Lib.hid (hbad (.inr (.inr hn10)))
  clear hbad
  go_wp2_with (go_at_call 29;(with_reducible refine CI.out.mono ?_);rintro e w6 ⟨rfl,hb6⟩)
  go_ret2
  exact Hret.out _ 1 (below_tail HB0.out hb6) Hb.out
 have Hr:=Lib.hid hr
 have hgo:cntN22 G n=if redOK G=false then ([],0) else ofN22 (redG G) [-1 - (redG G).start] n:=by
  unfold cntN22
  rw [if_neg]
  rintro (h | h | h)
  · rw [hr] at h;cases h
  · exact hn0 h
  · exact hn10 h
 have Hgo:=Lib.hid hgo
 clear hbad hgo hr
 go_wp2_with (
  go_at_call 29
  (with_reducible refine CI.out.mono ?_)
  rintro e W1 ⟨rfl,hb1⟩
  obtain ⟨y5,y0,y1,y2,y3⟩:=Hbox.out.below hb1
  simp only [] at y0 y1 y2 y3)
 have hB1:=below_tail HB0.out hb1
 clear CI z0 z1 z2 z3 z5 hb1
 have cR:=rf_Reduce ⟨a1,n1,c1,a2,n2,c2,a3,n3,c3⟩ G W1 (Hg.out.below hB1) h1 h2 h3
 unfold RetRed at cR
 (with_reducible refine cR.mono ?_)
 rintro e W3 ⟨hb3,⟨hno,er,her,rfl⟩ | ⟨hok,h',Ak,nk,ck,rfl,hg',m1,m2,m3⟩⟩
 · have hB3:=below_tail hB1 hb3
   have hne:(er != 0)=true:=by rw [bne_iff_ne];exact her
   have Hf:Hid (cntN22 G n=([],0)):=Lib.hid (by rw [Hgo.out,if_pos hno])
   clear cR hno y0 y1 y2 y3 y5
   go_wp2_with fail
   go_ret2
   exact Hret.out _ 0 (hB3.trans ((alloc_below W3 _).mono hB3.size)) Hf.out
 have hB3:=below_tail hB1 hb3
 have hrk:G.right=true∧(prodN G).getD G.start.toNat false=true:=by unfold redOK at hok;rw [Bool.and_eq_true] at hok;exact hok
 have hHr:=red_right hrk.1 hrk.2
 have Hf:Hid (cntN22 G n=ofN22 (redG G) [-1 - (redG G).start] n):=Lib.hid (by rw [Hgo.out,if_neg (by rw [hok];simp)])
 obtain ⟨b1,k1,d1,b2,k2,d2,b3,k3,d3⟩:=h'
 generalize redG G=H at *
 obtain ⟨st0,st1,st2⟩:=start_bd hHr
 clear cR y0 y1 y2 y3 y5 hok hrk hHr Hgo
 simp only [] at m1 m2 m3
 have hal:=alloc_below W3 (.cells #[.slice b1 k1 d1, .slice b2 k2 d2, .slice b3 k3 d3, .int .i64 H.start] 26)
 have hbxH:=GBox.new W3 26 ⟨b1,k1,d1,b2,k2,d2,b3,k3,d3⟩ H.start
 have hB4:=below_tail hB3 hal
 have hg4:=hg'.below hal
 go_upto_region 4 with fail
 generalize W3.alloc (.cells #[.slice b1 k1 d1, .slice b2 k2 d2, .slice b3 k3 d3, .int .i64 H.start] 26)=W4 at *
 generalize W3.heap.size=gH at *
 have Hg4:=Lib.hid hg4
 have HB4:=Lib.hid hB4
 have ⟨x5,x0,x1,x2,x3⟩:=hbxH
 simp only [] at x0 x1 x2 x3
 have hwr:IntKind.i64.wrap (-1 - H.start)=-1 - H.start:=IntWalk.i64_in _ (by omega)
 have hlB:=alloc_below W4 (.cells #[.int .i64 (-1 - H.start)] 3)
 have hL:Ints .i64 (W4.alloc (.cells #[.int .i64 (-1 - H.start)] 3)) (some ⟨W4.heap.size,0,none⟩) 1 1 [-1 - H.start]:=lit_sl W4 3 (ints .i64 [-1 - H.start]) 1 _ rfl rfl (by decide)
 have CO:=Lib.hid (rf_Of22 ⟨b1,k1,d1,b2,k2,d2,b3,k3,d3⟩ H (some ⟨W4.heap.size,0,none⟩) 1 [-1 - H.start] n (W4.alloc (.cells #[.int .i64 (-1 - H.start)] 3)) (Hg4.out.below hlB) (by simp only [];omega) (by simp only [];omega) (by simp only [];omega) hL (fun s hs=>by rw [List.mem_singleton.1 hs];unfold InI64;omega))
 have HB5:=Lib.hid (below_tail HB4.out hlB)
 simp only [List.length_cons,List.length_nil,Nat.zero_add] at CO
 clear hL hlB hg4 hB4 hal hg' hB3 hb3 hbxH
 go_wp2_with fail
 (with_reducible refine CO.out.mono ?_)
 rintro e W6 ⟨A6,c6,rfl,hn6,hb6⟩
 have HN6:=Lib.hid hn6
 have HB6:=Lib.hid (below_tail HB5.out hb6)
 clear hn6 hb6 CO
 generalize ofN22 H [-1 - H.start] n=res at *
 go_wp2_with fail
 go_ret2
 rw [Hf.out]
 exact ⟨A6,c6,rfl,HN6.out,HB6.out⟩
theorem forest_by_split (T:Int→Nat→Nat) (s:Int) (l:List Int) (n:Nat):forestT T (s::l) n=splitN T s l n 0 (n+1):=by
 simp only [splitN,Nat.zero_add]
 rfl
theorem forest_single (T:Int→Nat→Nat) (s:Int) (n:Nat):forestT T [s] n=T s n:=by
 have h0:∀ d,d≤n→splitN T s [] n 0 d=0:=by
  intro d
  induction d with
  | zero=>intro _;rfl
  | succ d ih =>
    intro hd
    rw [splitN_succ,ih (by omega),Nat.zero_add]
    have h1:forestT T [] (n - (0+d))=0:=by unfold forestT;rw [if_neg (by omega)]
    rw [h1,Nat.mul_zero]
 rw [forest_by_split,splitN_succ,h0 n (Nat.le_refl _),Nat.zero_add,Nat.zero_add,Nat.sub_self]
 show T s n * (if 0=0 then 1 else 0)=_
 rw [if_pos rfl,Nat.mul_one]
structure Told22 (G:Gr):Prop where
 red:isRed G=true
 cyc:cycG G=0
theorem ofN_fit {G:Gr} (hT:Told22 G) {l:List Int} {n:Nat} (hl:l.length≤6) (hn:n≤10) (hh:∀ s ∈ l,G.has s=true):ofN22 G l (n:Int)=fitN (forestT (treeN G) l n):=by
 unfold ofN22
 rw [if_neg,if_neg (by rw [hT.cyc];exact fun h=>h rfl),Int.toNat_natCast]
 rintro (h | h | h | h | ⟨s,hs,h⟩)
 · rw [hT.red] at h;cases h
 · omega
 · omega
 · omega
 · rw [hh s hs] at h;cases h
theorem val_noInt {w:World} {g:Nat} {t:TypeId} {A:Option Addr} {n c:Nat} {b:Bool} (h:Blk w g t #[.slice A n c, .bool b]):NoInt w g:=by
 intro o k z hc
 rw [h.cell o] at hc
 rcases o with _ | _ | o
 · simp at hc
 · simp at hc
 · simp at hc
theorem two_set {w W3:World} {gS:Nat} {t:TypeId} {A A':Option Addr} {n c n' c':Nat} {b b':Bool} (hB:Blk w gS t #[.slice A n c, .bool b]) (h3:Below gS W3 w) {z:Nat} (hv:ValN w A' n' c' b' z) :
 Blk ((w.setCell ⟨gS,0,none⟩ (.slice A' n' c')).setCell ⟨gS,1,none⟩ (.bool b')) gS t #[.slice A' n' c', .bool b']∧ValN ((w.setCell ⟨gS,0,none⟩ (.slice A' n' c')).setCell ⟨gS,1,none⟩ (.bool b')) A' n' c' b' z∧Below gS W3 ((w.setCell ⟨gS,0,none⟩ (.slice A' n' c')).setCell ⟨gS,1,none⟩ (.bool b')):=by
 have h1:Blk (w.setCell ⟨gS,0,none⟩ (.slice A' n' c')) gS t #[.slice A' n' c', .bool b]:=hB.set 0 _
 have o1:=Off.of_set w gS 0 (.slice A' n' c')
 have o2:=Off.of_set (w.setCell ⟨gS,0,none⟩ (.slice A' n' c')) gS 1 (.bool b')
 have k1:IntKeep w (w.setCell ⟨gS,0,none⟩ (.slice A' n' c')):=IntKeep.of_off o1 fun g hg=>by subst hg;exact val_noInt hB
 have k2:IntKeep (w.setCell ⟨gS,0,none⟩ (.slice A' n' c')) ((w.setCell ⟨gS,0,none⟩ (.slice A' n' c')).setCell ⟨gS,1,none⟩ (.bool b')):=IntKeep.of_off o2 fun g hg=>by subst hg;exact val_noInt h1
 refine ⟨h1.set 1 _,hv.kept (k1.trans k2),(h3.trans (o1.is_below (Nat.le_of_lt hB.lt) fun k hk=>?_)).trans (o2.is_below (Nat.le_of_lt h1.lt) fun k hk=>?_)⟩
 · exact Nat.le_of_eq hk.symm
 · exact Nat.le_of_eq hk.symm
theorem red_isRed {G:Gr} (hr:G.right=true) (hok:redOK G=true):isRed (redG G)=true:=by
 have hp:(prodN G).getD G.start.toNat false=true:=by unfold redOK at hok;rw [Bool.and_eq_true] at hok;exact hok.2
 have hG:=Gr.fits hr
 have hRr:=red_right hr hp
 have hs:G.start.toNat ∈ oldN G:=prod_start hG hp
 rw [isRed_iff]
 refine ⟨?_,red_twice hr hp⟩
 unfold redOK
 rw [hRr,red_start hG hp,red_prod hG (Gr.fits hRr) hs]
 rfl
theorem cnt_bad {G:Gr} (hr:G.right=false) (n:Int):cntN22 G n=([],1):=by unfold cntN22;rw [if_pos (.inl hr)]
theorem cnt_far {G:Gr} {n:Int} (hn:10 < n):cntN22 G n=([],1):=by unfold cntN22;rw [if_pos (.inr (.inr hn))]
theorem cnt_no {G:Gr} (hr:G.right=true) (hok:redOK G=false) {n:Nat} (hn:n≤10):cntN22 G (n:Int)=([],0):=by
 unfold cntN22
 rw [if_neg,if_pos hok]
 rintro (h | h | h)
 · rw [hr] at h;cases h
 · omega
 · omega
theorem cnt_red {G:Gr} (hr:G.right=true) (hok:redOK G=true) {n:Nat} (hn:n≤10):cntN22 G (n:Int)=ofN22 (redG G) [-1 - (redG G).start] (n:Int):=by
 unfold cntN22
 rw [if_neg,if_neg (by rw [hok];simp)]
 rintro (h | h | h)
 · rw [hr] at h;cases h
 · omega
 · omega
theorem has_start {G:Gr} (hr:G.right=true):G.has (-1 - G.start)=true:=by
 have hG:=Gr.fits hr
 have hst:=hG.st
 unfold Gr.has
 rw [if_neg (by omega),decide_eq_true_iff]
 omega
theorem cnt_cyc {G:Gr} (hr:G.right=true) (hok:redOK G=true) (hC:cycG (redG G) ≠ 0) {n:Nat} (hn:n≤10):cntN22 G (n:Int)=([],10):=by
 rw [cnt_red hr hok hn]
 have hp:(prodN G).getD G.start.toNat false=true:=by unfold redOK at hok;rw [Bool.and_eq_true] at hok;exact hok.2
 have hs:=has_start (red_right hr hp)
 unfold ofN22
 rw [if_neg,if_pos hC]
 rintro (h | h | h | h | ⟨s,hs1,h⟩)
 · rw [red_isRed hr hok] at h;cases h
 · simp at h
 · omega
 · omega
 · rw [List.mem_singleton.1 hs1,hs] at h;cases h
theorem cnt_fit {G:Gr} (hr:G.right=true) (hok:redOK G=true) (hC:cycG (redG G)=0) {n:Nat} (hn:n≤10):cntN22 G (n:Int)=fitN (treeN (redG G) (-1 - (redG G).start) n):=by
 rw [cnt_red hr hok hn]
 have hp:(prodN G).getD G.start.toNat false=true:=by unfold redOK at hok;rw [Bool.and_eq_true] at hok;exact hok.2
 have hs:=has_start (red_right hr hp)
 rw [ofN_fit ⟨red_isRed hr hok,hC⟩ (by simp) hn (fun z hz=>by rw [List.mem_singleton.1 hz];exact hs),forest_single]
theorem red_plain {G:Gr} (hr:G.right=true) (hok:redOK G=true) (hC:cycG (redG G)=0):Plain (redG G)∧Ordered (redG G) (ordG (redG G)).1:=by
 have hp:(prodN G).getD G.start.toNat false=true:=by unfold redOK at hok;rw [Bool.and_eq_true] at hok;exact hok.2
 have hG:=Gr.fits hr
 have hRr:=red_right hr hp
 have hs:G.start.toNat ∈ oldN G:=prod_start hG hp
 have hpr:(prodN (redG G)).getD (redG G).start.toNat false=true:=by rw [red_start hG hp];exact red_prod hG (Gr.fits hRr) hs
 obtain ⟨hP,hend,hO⟩:=reduced_plain hRr hpr (red_twice hr hp) hC
 have hord:(ordG (redG G)).1=(orderS (stepsN (redG G)) (useS (redG G)) (redG G).nons.length (redG G).nons.length).1:=by unfold ordG;rw [hRr,hend];rfl
 exact ⟨hP,by rw [hord];exact hO⟩
theorem up_map {f:Nat→List Nat × Nat} {m:Nat}:((List.range (m+1)).map fun j:Nat=>(f j).1)=((List.range m).map fun j:Nat=>(f j).1)++[(f m).1]:=by rw [List.range_succ,List.map_append];rfl
theorem up_step {f:Nat→List Nat × Nat} {k m:Nat} (h:m≤k):upGo f (k+1 - m) m=if (f m).2=0 then upGo f (k+1 - (m+1)) (m+1) else ([],(f m).2):=by
 rw [show k+1 - m=(k+1 - (m+1))+1 by omega]
 rfl
theorem fitN_cap {x:Nat}:(fitN x).1=(capV x).1∧(((capV x).2=false∧(fitN x).2=0)∨((capV x).2=true∧(fitN x).2=2)):=by
 unfold fitN capV
 split <;> simp
theorem rf_Upto22 (h:GH) (G:Gr) (n:Int) (w:World) (hg:GrAt w h G) (h1:h.n1≤100) (h2:h.n2≤100) (h3:h.n3≤100) (hn:n≤100) :
 Calls Tryz.prog 22 #[GV h G.start, .int .i64 n] w (RetNats w (uptoV G n)):=by
 obtain ⟨a1,n1,c1,a2,n2,c2,a3,n3,c3⟩:=h
 simp only [] at h1 h2 h3
 have Hg:=Lib.hid hg
 have hB0:=alloc_below w (.cells #[.slice a1 n1 c1, .slice a2 n2 c2, .slice a3 n3 c3, .int .i64 G.start] 26)
 have hbox:=GBox.new w 26 ⟨a1,n1,c1,a2,n2,c2,a3,n3,c3⟩ G.start
 clear hg
 go_enter Tryz.func22,Tryz.ntmps22
 have ⟨z5,z0,z1,z2,z3⟩:=hbox
 simp only [] at z0 z1 z2 z3
 go_upto_region 1 with fail
 generalize w.alloc (.cells #[.slice a1 n1 c1, .slice a2 n2 c2, .slice a3 n3 c3, .int .i64 G.start] 26)=W0 at *
 have HB0:=Lib.hid hB0
 have Hbox:=Lib.hid hbox
 have CI:=Lib.hid (rf_right9 ⟨a1,n1,c1,a2,n2,c2,a3,n3,c3⟩ G W0 (Hg.out.below hB0) (by simp only [];omega) (by simp only [];omega) (by simp only [];omega))
 clear hB0 hbox
 by_cases hn0:n < 0
 case pos =>
  have Hv:Hid (uptoV G n=([],1)):=Lib.hid (by unfold uptoV;rw [if_pos hn0])
  go_wp2_with fail
  go_ret2
  rw [Hv.out]
  exact ⟨HB0.out,none,0,rfl,NatsR.nil _⟩
 obtain ⟨k,rfl⟩:∃ k:Nat,n=(k:Int):=⟨n.toNat,by omega⟩
 have Hv:Hid (uptoV G (k:Int)=upGo (fun j:Nat=>cntN22 G (j:Int)) (k+1 - 0) 0):=Lib.hid (by unfold uptoV;rw [if_neg hn0];rfl)
 generalize uptoV G (k:Int)=res at *
 cases hr:G.right
 case false =>
  have Hf:Hid (res=([],1)):=Lib.hid (by rw [Hv.out,up_step (Nat.zero_le _),cnt_bad hr];rfl)
  rw [hr] at CI
  clear hr Hv
  go_wp2_with (go_at_call 29;(with_reducible refine CI.out.mono ?_);rintro e w6 ⟨rfl,hb6⟩)
  go_ret2
  rw [Hf.out]
  exact ⟨below_tail HB0.out hb6,none,0,rfl,NatsR.nil _⟩
 rw [hr] at CI
 have Hr:=Lib.hid hr
 clear hr
 go_wp2_with (
  go_at_call 29
  (with_reducible refine CI.out.mono ?_)
  rintro e W1 ⟨rfl,hb1⟩
  obtain ⟨y5,y0,y1,y2,y3⟩:=Hbox.out.below hb1
  simp only [] at y0 y1 y2 y3)
 have hB1:=below_tail HB0.out hb1
 clear CI z0 z1 z2 z3 z5 hb1
 have cR:=rf_Reduce ⟨a1,n1,c1,a2,n2,c2,a3,n3,c3⟩ G W1 (Hg.out.below hB1) h1 h2 h3
 unfold RetRed at cR
 have HiN:=Lib.hid Tryz.infoNatS
 (with_reducible refine cR.mono ?_)
 rintro e W3 ⟨hb3,⟨hno,er,her,rfl⟩ | ⟨hok,h',Ak,nk,ck,rfl,hg',m1,m2,m3⟩⟩
 · as_aux_lemma =>
    have hB3:=below_tail hB1 hb3
    have hne:(er == 0)=false:=by rw [beq_eq_false_iff_ne];exact her
    have Hno:Hid (∀ m:Nat,m≤10→cntN22 G (m:Int)=([],0)):=Lib.hid fun m hm=>cnt_no Hr.out hno hm
    have Hfar:Hid (∀ m:Nat,¬ m≤10→cntN22 G (m:Int)=([],1)):=Lib.hid fun m hm=>cnt_far (by omega)
    have hal:=alloc_below W3 (.cells #[.slice noH.a1 noH.n1 noH.c1, .slice noH.a2 noH.n2 noH.c2, .slice noH.a3 noH.n3 noH.c3, .int .i64 0] 26)
    have HB4:=Lib.hid (below_tail hB3 hal)
    have HB1:=Lib.hid hB1
    clear cR hno y0 y1 y2 y3 y5 hB3 hB1
    go_upto_region 4 with fail
    generalize W3.alloc (.cells #[.slice noH.a1 noH.n1 noH.c1, .slice noH.a2 noH.n2 noH.c2, .slice noH.a3 noH.n3 noH.c3, .int .i64 0] 26)=W4 at *
    clear hal
    go_wp2_with fail
    go_loopw [10,11] (fun lv i wr=>∃ (m:Nat) (A:Option Addr) (c:Nat) (vs:List Value),m≤k+1∧i = .int .i64 (m:Int)∧lv = .slice A m c∧Hid (NatsO wr W4.heap.size A m c vs ((List.range m).map fun j:Nat=>(cntN22 G (j:Int)).1))∧Hid (res=upGo (fun j:Nat=>cntN22 G (j:Int)) (k+1 - m) m)∧Hid (Below W4.heap.size W4 wr)) (fun _ i _=>k+2 - (intOf i).toNat)
    case atStart=>exact ⟨0,none,0,[],Nat.zero_le _,rfl,rfl,Lib.hid (NatsO.start _ _),Hv,Lib.hid (Below.refl _ _)⟩
    case round =>
     obtain ⟨m,A,c,vs,hm,rfl,rfl,HN,Hres,HB⟩:=hrel
     by_cases hmk:m≤k
     case neg =>
      obtain rfl:m=k+1:=by omega
      have hno:¬ (((k+1:Nat):Int)≤(k:Int)):=by omega
      have Hf:Hid (res=((List.range (k+1)).map fun j:Nat=>(cntN22 G (j:Int)).1,0)):=Lib.hid (by rw [Hres.out,Nat.sub_self];rfl)
      have hrd:=HN.out.read
      have HBw:=Lib.hid (below_tail HB4.out HB.out)
      have Hrd:=Lib.hid hrd
      have Hll:Hid (((List.range (k+1)).map fun j:Nat=>(cntN22 G (j:Int)).1).length=k+1):=Lib.hid (by simp)
      clear hrd
      go_wp2_with fail
      go_ret2
      rw [Hf.out]
      exact ⟨HBw.out,A,c,by rw [Hll.out];rfl,by rw [Hll.out];exact Hrd.out⟩
     case pos =>
      have hle:((m:Nat):Int)≤(k:Int):=by omega
      have HBw:=Lib.hid (below_tail HB4.out HB.out)
      by_cases h10:m≤10
      case neg =>
       have hgt:(10:Int) < (m:Int):=by omega
       have Hf:Hid (res=([],1)):=Lib.hid (by rw [Hres.out,up_step hmk,Hfar.out m h10];rfl)
       go_wp2_with fail
       go_ret2
       rw [Hf.out]
       exact ⟨HBw.out,none,0,rfl,NatsR.nil _⟩
      case pos =>
       have hgt:¬ (10:Int) < (m:Int):=by omega
       have Hres2:Hid (res=upGo (fun j:Nat=>cntN22 G (j:Int)) (k+1 - (m+1)) (m+1)):=Lib.hid (by rw [Hres.out,up_step hmk,Hno.out m h10];rfl)
       have Hmap:Hid (((List.range (m+1)).map fun j:Nat=>(cntN22 G (j:Int)).1)=((List.range m).map fun j:Nat=>(cntN22 G (j:Int)).1)++[[]]):=Lib.hid (by rw [up_map (f:=fun j:Nat=>cntN22 G (j:Int)),Hno.out m h10])
       have hBs:=alloc_below wr (.cells #[.slice none 0 0, .bool false] 46)
       have hXs:=Blk.new wr 46 #[.slice none 0 0, .bool false]
       have HN1:=Lib.hid (HN.out.below hBs)
       have HB5:=Lib.hid (HB.out.trans (hBs.mono HB.out.size))
       clear Hres HN HB
       go_upto_region 16 with fail
       generalize wr.alloc (.cells #[.slice none 0 0, .bool false] 46)=WS at *
       generalize wr.heap.size=gS at *
       have x0:WS.cell? ⟨gS,0,none⟩=some (.slice none 0 0):=hXs.cell 0
       have x1:WS.cell? ⟨gS,1,none⟩=some (.bool false):=hXs.cell 1
       have hlB:=alloc_below WS (.cells #[.slice none 0 0] 31)
       have Hlc:Hid ((WS.alloc (.cells #[.slice none 0 0] 31)).cell? ⟨WS.heap.size,0,none⟩=some (.slice none 0 0)):=Lib.hid ((Blk.new _ 31 #[.slice none 0 0]).cell 0)
       have HN2:=Lib.hid (HN1.out.below hlB)
       have HB6:=Lib.hid (HB5.out.trans (hlB.mono HB5.out.size))
       have Hn3:Hid (Nums .u32 (WS.alloc (.cells #[.slice none 0 0] 31)) none ([]:List Nat).length 0 []):=Lib.hid (Nums.nil _ _ _ _ (by omega))
       have hbl:W4.heap.size≤(WS.alloc (.cells #[.slice none 0 0] 31)).heap.size:=HB6.out.size
       have Hvals:=Lib.hid HN2.out.vals
       clear hlB hBs hXs HB5 HN1
       go_wp2_with (at_builtin;refine wpl_appendV rfl _ _ 39 rfl W4.heap.size 31 _ 24 Tryz.underlying39 HiN.out (by decide) (by intro u hu k x he;subst he;simp [Value.cells] at hu) A m c vs rfl HN2.out.own HN2.out.noInt Hvals.out _ 1 (.slice none 0 0) rfl Hlc.out rfl (by intro k x he;cases he) (by omega) (by omega) hbl ?_;intro A5 c5 w5 ho hg ha hno)
       have HN5:=Lib.hid (HN2.out.snoc Hn3.out ho hg hno)
       have HB7:=Lib.hid (HB6.out.trans ((Off.of_grown hg).is_below hbl fun k hk=>(HN2.out.own.lt k hk).1))
       go_roundw
       case rel=>exact ⟨m+1,A5,c5,_,by omega,by go_num,rfl,by rw [Hmap.out];exact HN5,Hres2,HB7⟩
       case measure=>simp [intOf] <;> omega
 have hB3:=below_tail hB1 hb3
 have hrk:G.right=true∧(prodN G).getD G.start.toNat false=true:=by unfold redOK at hok;rw [Bool.and_eq_true] at hok;exact hok
 have hHr:=red_right hrk.1 hrk.2
 obtain ⟨b1,k1,d1,b2,k2,d2,b3,k3,d3⟩:=h'
 have Hcyc:Hid (cycG (redG G) ≠ 0→∀ m:Nat,m≤10→cntN22 G (m:Int)=([],10)):=Lib.hid fun hC m hm=>cnt_cyc Hr.out hok hC hm
 have Hfit:Hid (cycG (redG G)=0→(∀ m:Nat,m≤10→cntN22 G (m:Int)=fitN (treeN (redG G) (-1 - (redG G).start) m))∧Plain (redG G)∧Ordered (redG G) (ordG (redG G)).1):=Lib.hid fun hC=>⟨fun m hm=>cnt_fit Hr.out hok hC hm,red_plain Hr.out hok hC⟩
 have Hfar:Hid (∀ m:Nat,¬ m≤10→cntN22 G (m:Int)=([],1)):=Lib.hid fun m hm=>cnt_far (by omega)
 generalize redG G=H at *
 obtain ⟨st0,st1,st2⟩:=start_bd hHr
 clear cR y0 y1 y2 y3 y5 hok hrk hHr
 simp only [] at m1 m2 m3
 have e2:H.nons.length=k2:=hg'.nons.len
 have hal:=alloc_below W3 (.cells #[.slice b1 k1 d1, .slice b2 k2 d2, .slice b3 k3 d3, .int .i64 H.start] 26)
 have hbxH:=GBox.new W3 26 ⟨b1,k1,d1,b2,k2,d2,b3,k3,d3⟩ H.start
 have hB4:=below_tail hB3 hal
 have hg4:=hg'.below hal
 go_upto_region 4 with fail
 generalize W3.alloc (.cells #[.slice b1 k1 d1, .slice b2 k2 d2, .slice b3 k3 d3, .int .i64 H.start] 26)=W4 at *
 generalize W3.heap.size=gH at *
 have Hg4:=Lib.hid hg4
 have HB4:=Lib.hid hB4
 have HbxH:=Lib.hid hbxH
 have ⟨x5,x0,x1,x2,x3⟩:=HbxH.out
 simp only [] at x0 x1 x2 x3
 have CY:=Lib.hid (rf_Cycles ⟨b1,k1,d1,b2,k2,d2,b3,k3,d3⟩ H W4 Hg4.out (by simp only [];omega) (by simp only [];omega) (by simp only [];omega))
 have hlt:=cycG_lt H
 clear hg4 hB4 hal hg' hB3 hb3 hbxH hB1 Hg
 by_cases hc:cycG H=0
 case neg =>
  have i4:(((cycG H:Nat):Int) != 0)=true:=by rw [bne_iff_ne];omega
  have Hf:Hid (res=([],10)):=Lib.hid (by rw [Hv.out,up_step (Nat.zero_le _),Hcyc.out hc 0 (by omega)];rfl)
  clear hc
  go_wp2_with (go_at_call 28;(with_reducible refine CY.out.mono ?_);rintro e W5 ⟨hb5,rfl⟩)
  go_ret2
  rw [Hf.out]
  exact ⟨below_tail HB4.out hb5,none,0,rfl,NatsR.nil _⟩
 have i4:(((cycG H:Nat):Int) != 0)=false:=by rw [hc];rfl
 obtain ⟨hfit,hP,hO⟩:=Hfit.out hc
 have Hfi:=Lib.hid hfit
 have HP:=Lib.hid hP
 have HO:=Lib.hid hO
 clear hfit hP hO hc Hcyc Hfit
 generalize cycG H=cy at *
 have E2:=Lib.hid e2
 clear e2
 obtain ⟨st,Hst⟩:∃ st:Nat,Hid (H.start=(st:Int)):=⟨H.start.toNat,Lib.hid (by omega)⟩
 have hstk:st < k2:=by have h1:=E2.out;have h2:=Hst.out;omega
 go_upto_region 8 with (go_at_call 28;(with_reducible refine CY.out.mono ?_);rintro e W5 ⟨hb5,rfl⟩)
 have HB5:=Lib.hid (below_tail HB4.out hb5)
 have Hbx5:=Lib.hid (HbxH.out.below hb5)
 have CM:Hid (∀ V:Int,V=min (k:Int) 10→Calls Tryz.prog 54 #[GV ⟨b1,k1,d1,b2,k2,d2,b3,k3,d3⟩ H.start, .int .i64 V] W5 (fun e w'=>Below W5.heap.size W5 w'∧∃ A c tab N,e = .returned (.slice A N c)∧TabM w' A N c k2 tab∧∀ m:Nat,m≤k→m≤10→m < N∧∀ i,i < k2→tab m i=treeN H (-1 - (i:Int)) m)):=Lib.hid fun V hV=>by
  obtain ⟨q,hq,hq1,hq2⟩:∃ q:Nat,V=(q:Int)∧q≤10∧∀ m,m≤k→m≤10→m≤q:=by
   by_cases h:(10:Int) < (k:Int)
   · exact ⟨10,by omega,by omega,fun m _ h=>h⟩
   · exact ⟨k,by omega,by omega,fun m h _=>h⟩
  subst hq
  refine (rf_Make ⟨b1,k1,d1,b2,k2,d2,b3,k3,d3⟩ H q W5 (Hg4.out.below hb5) (by simp only [];omega) (by simp only [];omega) (by simp only [];omega) HP.out HO.out (by omega)).mono ?_
  rintro e w' ⟨hb,A,c,tab,rfl,hT,ht⟩
  exact ⟨hb,A,c,tab,q+1,rfl,by rw [← E2.out];exact hT,fun m g1 g2=>⟨by have:=hq2 m g1 g2;omega,fun i hi=>ht m (hq2 m g1 g2) i (by rw [E2.out];exact hi)⟩⟩
 clear x0 x1 x2 x3 x5 CY i4 hlt hb5 HP HO HB4 HbxH Hg4
 have ⟨x5,x0,x1,x2,x3⟩:=Hbx5.out
 simp only [] at x0 x1 x2 x3
 have CMp:=Lib.hid (CM.out _ rfl)
 clear CM
 go_wp2_with fail
 (with_reducible refine CMp.out.mono ?_)
 rintro e W6 ⟨hb6,A6,c6,tab,N6,rfl,hT6,htab⟩
 all_goals
  as_aux_lemma =>
   have HB6:=Lib.hid (below_tail HB5.out hb6)
   have Hbx6:=Lib.hid (Hbx5.out.below hb6)
   have HT6:=Lib.hid hT6
   have Htab:=Lib.hid htab
   clear CMp x0 x1 x2 x3 x5 hb6 hT6 htab HB5 Hbx5
   go_wp2_with fail
   go_loopw [10,11] (fun lv i wr=>∃ (m:Nat) (A:Option Addr) (c:Nat) (vs:List Value),m≤k+1∧i = .int .i64 (m:Int)∧lv = .slice A m c∧Hid (NatsO wr W6.heap.size A m c vs ((List.range m).map fun j:Nat=>(cntN22 G (j:Int)).1))∧Hid (res=upGo (fun j:Nat=>cntN22 G (j:Int)) (k+1 - m) m)∧Hid (Below W6.heap.size W6 wr)) (fun _ i _=>k+2 - (intOf i).toNat)
   case atStart=>exact ⟨0,none,0,[],Nat.zero_le _,rfl,rfl,Lib.hid (NatsO.start _ _),Hv,Lib.hid (Below.refl _ _)⟩
   case round =>
    obtain ⟨m,A,c,vs,hm,rfl,rfl,HN,Hres,HB⟩:=hrel
    by_cases hmk:m≤k
    case neg =>
     obtain rfl:m=k+1:=by omega
     have hno:¬ (((k+1:Nat):Int)≤(k:Int)):=by omega
     have Hf:Hid (res=((List.range (k+1)).map fun j:Nat=>(cntN22 G (j:Int)).1,0)):=Lib.hid (by rw [Hres.out,Nat.sub_self];rfl)
     have hrd:=HN.out.read
     have HBw:=Lib.hid (below_tail HB6.out HB.out)
     have Hrd:=Lib.hid hrd
     have Hll:Hid (((List.range (k+1)).map fun j:Nat=>(cntN22 G (j:Int)).1).length=k+1):=Lib.hid (by simp)
     clear hrd
     go_wp2_with fail
     go_ret2
     rw [Hf.out]
     exact ⟨HBw.out,A,c,by rw [Hll.out];rfl,by rw [Hll.out];exact Hrd.out⟩
    case pos =>
     have hle:((m:Nat):Int)≤(k:Int):=by omega
     have HBw:=Lib.hid (below_tail HB6.out HB.out)
     by_cases hm10:m≤10
     case neg =>
      have hgt:(10:Int) < (m:Int):=by omega
      have Hf:Hid (res=([],1)):=Lib.hid (by rw [Hres.out,up_step hmk,Hfar.out m hm10];rfl)
      go_wp2_with fail
      go_ret2
      rw [Hf.out]
      exact ⟨HBw.out,none,0,rfl,NatsR.nil _⟩
     case pos =>
      have hgt:¬ (10:Int) < (m:Int):=by omega
      obtain ⟨hmN,htv⟩:=Htab.out m hmk hm10
      have Hval:Hid (tab m st=treeN H (-1 - H.start) m):=Lib.hid (by rw [htv st hstk,Hst.out])
      have hstep:Hid (res=if (fitN (tab m st)).2=0 then upGo (fun j:Nat=>cntN22 G (j:Int)) (k+1 - (m+1)) (m+1) else ([],(fitN (tab m st)).2)):=Lib.hid (by rw [Hres.out,up_step hmk,Hval.out];show (if (cntN22 G (m:Int)).2=0 then _ else _)=_;rw [Hfi.out m hm10])
      have Hmap:Hid (((List.range (m+1)).map fun j:Nat=>(cntN22 G (j:Int)).1)=((List.range m).map fun j:Nat=>(cntN22 G (j:Int)).1)++[(fitN (tab m st)).1]):=Lib.hid (by rw [up_map (f:=fun j:Nat=>cntN22 G (j:Int)),Hval.out];show _++[(cntN22 G (m:Int)).1]=_;rw [Hfi.out m hm10])
      have hBs:=alloc_below wr (.cells #[.slice none 0 0, .bool false] 46)
      have hXs:=Blk.new wr 46 #[.slice none 0 0, .bool false]
      have HBs:=Lib.hid hBs
      have HB7:=Lib.hid (HB.out.trans (hBs.mono HB.out.size))
      have HTs:=Lib.hid (HT6.out.below HB7.out)
      have hgt0:wr.heap.size=wr.heap.size:=rfl
      have Hown:Hid (∀ b,(Value.slice A m c).ownBlock=some b→b < wr.heap.size):=Lib.hid fun b hb=>(HN.out.own.lt b hb).2
      clear Hres htv hgt0
      go_upto_region 16 with fail
      have hW6:W6.heap.size≤wr.heap.size:=HB.out.size
      generalize wr.alloc (.cells #[.slice none 0 0, .bool false] 46)=WS at *
      generalize hgS:wr.heap.size=gS at *
      have HgS:=Lib.hid hgS
      clear hgS
      have HXs:=Lib.hid hXs
      obtain ⟨tb,tof,rfl,htl,hrow⟩:=HTs.out.2.2 (by omega)
      obtain ⟨g,hcg,hrg⟩:=hrow m hmN
      obtain ⟨A3,m3,c3,b3',q0,q1,hv3⟩:=hrg.get (j:=st) (by simp;exact hstk)
      have hgl:=hrg.lt
      have hvv:((List.range k2).map (tab m)).getD st 0=tab m st:=by rw [List.getD_eq_getElem?_getD,List.getElem?_map,List.getElem?_range hstk];rfl
      rw [hvv] at hv3
      have HV3:=Lib.hid hv3
      have ⟨x5,x0,x1,x2,x3⟩:=Hbx6.out.below HB7.out
      simp only [] at x0 x1 x2 x3
      rw [Hst.out] at x3
      have xs0:WS.cell? ⟨gS,0,none⟩=some (.slice none 0 0):=hXs.cell 0
      have xs1:WS.cell? ⟨gS,1,none⟩=some (.bool false):=hXs.cell 1
      have xf0:=hXs.frozen 0
      have xf1:=hXs.frozen 1
      have xl:=hXs.lt
      have bc:=bl_cell WS
      have bf:=bl_frozen WS
      clear hBs hXs HB hrow hrg hv3 hvv HTs
      go_upto_region 17 with fail
      refine wp_region_below_tail 8 (by kernel_rfl) (by kernel_rfl) ?_
      simp only [List.take_succ_cons,List.take_zero,List.drop_succ_cons,List.drop_zero]
      repeat (go_big_quiet_step (fail))
      refine wpQuiet_nil ?_
      rintro _ ⟨x,rfl⟩
      have d0:=(bc x gS 0 xl).trans xs0
      have d1:=(bc x gS 1 xl).trans xs1
      have e0:=(bf x gS 0 xl).trans xf0
      have e1:=(bf x gS 1 xl).trans xf1
      have hsx:=bl_size WS x
      have HS:=Lib.hid (two_set (Blk.ext HXs.out (bl_below WS x)) (W3:=WS) (((bl_below WS x).mono (Nat.le_of_lt xl))) (HV3.out.below (bl_below WS x)))
      have HSn:Hid (Nums .u32 (((bl WS x).setCell ⟨gS,0,none⟩ (.slice A3 m3 c3)).setCell ⟨gS,1,none⟩ (.bool b3')) A3 m3 c3 (fitN (tab m st)).1):=Lib.hid (by rw [fitN_cap.1];exact HS.out.2.1.2)
      have HSx:=Lib.hid HS.out.1
      have HSb:=Lib.hid HS.out.2.2
      have hcap:=HV3.out.1
      have hfc:=(fitN_cap (x:=tab m st)).2
      clear HS HV3
      generalize (capV (tab m st)).2=cb at *
      generalize fitN (tab m st)=pr at *
      obtain ⟨zs,er⟩:=pr
      simp only [] at hstep Hmap HSn hfc
      subst hcap
      rcases hfc with ⟨rfl,rfl⟩ | ⟨rfl,rfl⟩
      case inr =>
       have Hf:Hid (res=([],2)):=Lib.hid (by rw [hstep.out];rfl)
       have Hfin:=Lib.hid ((below_tail HBw.out (show Below wr.heap.size wr WS by rw [HgS.out];exact HBs.out)).trans (HSb.out.mono (by rw [← HgS.out];exact HBw.out.size)))
       go_wp2_with fail
       go_ret2
       rw [Hf.out]
       exact ⟨Hfin.out,none,0,rfl,NatsR.nil _⟩
      case inl =>
       have Hres2:Hid (res=upGo (fun j:Nat=>cntN22 G (j:Int)) (k+1 - (m+1)) (m+1)):=Lib.hid (by rw [hstep.out];rfl)
       have HNw:=Lib.hid (HN.out.below (w':=((bl WS x).setCell ⟨gS,0,none⟩ (.slice A3 m3 c3)).setCell ⟨gS,1,none⟩ (.bool false)) (by rw [HgS.out];exact HBs.out.trans HSb.out))
       have HBx:=Lib.hid (HB7.out.trans (HSb.out.mono hW6))
       clear hstep HN HSb
       go_upto_region 20 with fail
       clear d0 d1 e0 e1 xs0 xs1 xf0 xf1 bc bf hcg
       generalize ((bl WS x).setCell ⟨gS,0,none⟩ (.slice A3 m3 c3)).setCell ⟨gS,1,none⟩ (.bool false)=W9 at *
       obtain rfl:=HSn.out.len
       have z0:W9.cell? ⟨gS,0,none⟩=some (.slice A3 zs.length c3):=HSx.out.cell 0
       have zl:=HSx.out.lt
       have hlB:=alloc_below W9 (.cells #[.slice A3 zs.length c3] 31)
       have Hlc:Hid ((W9.alloc (.cells #[.slice A3 zs.length c3] 31)).cell? ⟨W9.heap.size,0,none⟩=some (.slice A3 zs.length c3)):=Lib.hid ((Blk.new _ 31 #[.slice A3 zs.length c3]).cell 0)
       have HN2:=Lib.hid (HNw.out.below hlB)
       have HB6':=Lib.hid (HBx.out.trans (hlB.mono HBx.out.size))
       have Hn3:=Lib.hid (HSn.out.below hlB)
       have hbl:W6.heap.size≤(W9.alloc (.cells #[.slice A3 zs.length c3] 31)).heap.size:=HB6'.out.size
       have Hvals:=Lib.hid HN2.out.vals
       clear hlB HNw HSn HBx HSx
       go_wp2_with (at_builtin;refine wpl_appendV rfl _ _ 39 rfl W6.heap.size 31 _ 24 Tryz.underlying39 HiN.out (by decide) (by intro u hu k x he;subst he;simp [Value.cells] at hu) A m c vs rfl HN2.out.own HN2.out.noInt Hvals.out _ 1 (.slice A3 zs.length c3) rfl Hlc.out rfl (by intro k x he;cases he) (by omega) (by omega) hbl ?_;intro A5 c5 w5 ho hg ha hno)
       have HN5:=Lib.hid (HN2.out.snoc Hn3.out ho hg hno)
       have HB7':=Lib.hid (HB6'.out.trans ((Off.of_grown hg).is_below hbl fun k hk=>(HN2.out.own.lt k hk).1))
       go_roundw
       case rel=>exact ⟨m+1,A5,c5,_,by omega,by go_num,rfl,by rw [Hmap.out];exact HN5,Hres2,HB7'⟩
       case measure=>simp [intOf] <;> omega
theorem NatsR.get {w:World} {A:Option Addr} {n c:Nat} {xss:List (List Nat)} (h:NatsR w A n c xss) {j:Nat} (hj:j < n):∃ b off xs Aj cj,A=some ⟨b,off,none⟩∧b < w.heap.size∧Hid (xss[j]? = some xs)∧w.cell? ⟨b,off+j,none⟩=some (.slice Aj xs.length cj)∧Nums .u32 w Aj xs.length cj xs:=by
 obtain ⟨b,off,e,hb,hr⟩:=h.2.2.2 (by omega)
 have hx:xss[j]? = some (xss[j]'(by rw [h.1];exact hj)):=List.getElem?_eq_getElem _
 obtain ⟨Aj,cj,h1,h2⟩:=hr j _ hx
 exact ⟨b,off,_,Aj,cj,e,hb,Lib.hid hx,h1,h2⟩
theorem rf_Lists (A1:Option Addr) (n c1:Nat) (xs:List (List Nat)) (A2:Option Addr) (m c2:Nat) (ys:List (List Nat)) (w:World)
 (h1:NatsR w A1 n c1 xs) (h2:NatsR w A2 m c2 ys) :
 Calls Tryz.prog 23 #[.slice A1 n c1, .slice A2 m c2] w fun e w'=>e = .returned (.bool (xs == ys))∧Below w.heap.size w w':=by
 have l1:=h1.1
 have l2:=h2.1
 have hc1:=h1.2
 by_cases hne:n=m
 case neg =>
  have hfin:(xs == ys)=false:=by
   rw [beq_eq_false_iff_ne];intro h;subst h;omega
  rw [hfin]
  have ht:((n:Int) != (m:Int))=true:=by rw [bne_iff_ne];omega
  clear hfin hne l1 l2 hc1 h1 h2
  go_enter Tryz.func23,Tryz.ntmps23
  go_wp2
  go_ret
  exact ⟨rfl,Below.refl _ _⟩
 subst hne
 have hcap:n≤9223372036854775807:=by omega
 have ht:((n:Int) != (n:Int))=false:=by rw [bne_eq_false_iff_eq]
 have L1:=Lib.hid l1
 have L2:=Lib.hid l2
 have H1:=Lib.hid h1
 have H2:=Lib.hid h2
 clear l1 l2 h1 h2 hc1
 go_enter Tryz.func23,Tryz.ntmps23
 go_wp2
 go_loopw [5] (fun i wr=>∃ k:Nat,k≤n∧i = .int .i64 (k:Int)∧Hid (∀ j,j < k→xs[j]? = ys[j]?)∧Hid (Below w.heap.size w wr)) (fun i _=>n - (intOf i).toNat)
 case atStart=>exact ⟨0,Nat.zero_le _,rfl,Lib.hid fun j hj=>absurd hj (Nat.not_lt_zero j),Lib.hid (Below.refl _ _)⟩
 case round =>
  obtain ⟨k,hk,rfl,HE,HB⟩:=hrel
  by_cases hlt:k < n
  · obtain ⟨b1,o1,x,A3,k3,rfl,hb1,Hx,hc1,hn1⟩:=(H1.out.below HB.out).get hlt
    obtain ⟨b2,o2,y,A4,k4,rfl,hb2,Hy,hc2,hn2⟩:=(H2.out.below HB.out).get hlt
    have bc:=bl_cell wr
    have CS:=Lib.hid fun X:Ext wr=>(ref_same A3 _ k3 x A4 _ k4 y (bl wr X) (hn1.below (bl_below wr X)) (hn2.below (bl_below wr X))).mono fun e w' hh=>And.intro hh.1 (hh.2.below (bl wr X).heap.size)
    clear hn1 hn2
    cases hxy:x == y
    case true =>
     have HE2:Hid (∀ j,j < k+1→xs[j]? = ys[j]?):=Lib.hid fun j hj=>by
      rcases (by omega:j < k∨j=k) with h | rfl
      · exact HE.out j h
      · rw [Hx.out,Hy.out,beq_iff_eq.1 hxy]
     rw [hxy] at CS
     clear hxy
     go_wp2_with fail
     refine wp_region_below (by kernel_rfl) (by kernel_rfl) ?_
     repeat (go_big_quiet_step ((go_at_call 17;with_reducible exact bl_of (CS.out _))))
     refine wpQuiet_nil ?_
     rintro _ ⟨X,rfl⟩
     go_wp2_with fail
     go_roundw
     case rel=>exact ⟨k+1,by omega,by go_num,HE2,Lib.hid (HB.out.trans ((bl_below wr X).mono HB.out.size))⟩
     case measure=>simp [intOf];omega
    case false =>
     have Hf:Hid ((xs == ys)=false):=Lib.hid (by
      rw [beq_eq_false_iff_ne]
      intro h
      have h1:=Hx.out
      rw [h,Hy.out] at h1
      injection h1 with h1
      rw [h1,beq_self_eq_true] at hxy
      cases hxy)
     rw [hxy] at CS
     clear hxy
     go_wp2_with fail
     refine wp_region_below (by kernel_rfl) (by kernel_rfl) ?_
     repeat (go_big_quiet_step ((go_at_call 17;with_reducible exact bl_of (CS.out _))))
     refine wpQuiet_nil ?_
     rintro _ ⟨X,rfl⟩
     go_wp2_with fail
     go_ret
     rw [Hf.out]
     exact ⟨rfl,below_tail HB.out (bl_below wr X)⟩
  · have Hf:Hid ((xs == ys)=true):=Lib.hid (by
     rw [beq_iff_eq]
     refine List.ext_getElem? fun j=>?_
     by_cases hj:j < k
     · exact HE.out j hj
     · have a1:=L1.out
       have a2:=L2.out
       rw [List.getElem?_eq_none (by omega),List.getElem?_eq_none (by omega)])
    go_wp2
    go_ret
    rw [Hf.out]
    exact ⟨rfl,HB.out⟩
theorem Tryz.infoI64X:(Tryz.prog.info? 3).map (fun i=>(i.zero,i.size,i.bytes))=some (some (.int .i64 0),1,8):=by kernel_rfl
theorem rf_Copy3 (A:Option Addr) (n c:Nat) (l:List Int) (w:World) (h:Ints .i64 w A n c l) (hn:n≤100000) :
 Calls Tryz.prog 55 #[.slice A n c] w fun e w'=>∃ A' c',e = .returned (.slice A' n c')∧Ints .i64 w' A' n c' l∧Below w.heap.size w w'∧(∀ b off,A'=some ⟨b,off,none⟩→w.heap.size≤b∧b < w'.heap.size):=by
 obtain rfl:=h.len
 have hcap:=h.cap
 have hown:(w.alloc (.cells #[] 3)).ownsRow w.heap.size 3 1 (.slice (some ⟨w.heap.size,0,none⟩) 0 0) 0 []:=World.ownsRow_made w #[] 0 (Nat.le_refl _) (Nat.zero_le _) rfl
 have hs:Ints .i64 (w.alloc (.cells #[] 3)) A l.length c l:=h.below (alloc_below w _)
 have Hi:=Lib.hid Tryz.infoI64X
 have Hs:=Lib.hid hs
 have Ho:=Lib.hid hown
 have hb:=alloc_below w (.cells #[] 3)
 have HB:=Lib.hid hb
 have hsz:w.heap.size≤(w.alloc (.cells #[] 3)).heap.size:=hb.size
 clear h hs hown hb
 go_enter Tryz.func55,Tryz.ntmps55
 go_wp2_with (first
  | (at_builtin;refine wpl_appendI rfl _ _ 27 rfl w.heap.size 3 _ 8 Tryz.underlying27 Hi.out (by decide) _ 0 0 [] rfl Ho.out A l.length c (ints .i64 l) rfl Hs.out (ints_one _ _) (by omega) (by omega) hsz ?_;intro A4 c4 w4 ho hgr ha
     have hn0:(0+l.length)=l.length:=Nat.zero_add _
     rw [hn0] at ho
     have Ho4:=Lib.hid ho
     have HB4:=Lib.hid (HB.out.trans (grown_is_below hgr hsz (Nat.le_refl _)))
     clear ho hgr ha hn0))
 go_ret
 refine ⟨A4,c4,by simp,?_,HB4.out,fun b off hb=>?_⟩
 · have:=own_sl Ho4.out
   rwa [List.nil_append] at this
 · exact Ho4.out.lt b (by rw [hb];rfl)
structure Cpy (W0:World) (w:World) (A3:Option Addr) (c3:Nat) (rs:List Rul):Prop where
 off:Below W0.heap.size W0 w
 rules:∃ cs,w.ownsRow W0.heap.size 52 3 (.slice A3 rs.length c3) rs.length cs∧RulCs w (fun b=>W0.heap.size≤b∧(Value.slice A3 rs.length c3).ownBlock ≠ some b) cs rs
theorem Cpy.start (W:World):Cpy W W none 0 []:=⟨Below.refl _ _,[],World.ownsRow_nil _ _ _ _,RulCs.nil _ _⟩
theorem Cpy.below {W0:World} {w w':World} {A3:Option Addr} {c3:Nat} {rs:List Rul} (r:Cpy W0 w A3 c3 rs) (hb:Below w.heap.size w w'):Cpy W0 w' A3 c3 rs:=by
 obtain ⟨cs,h1,h2⟩:=r.rules
 exact ⟨r.off.trans (hb.mono r.off.size),cs,own_keep h1 fun b _ hl=>hb.block b hl,h2.keep hb.size fun k hk ha=>⟨hb.block k hk,ha⟩⟩
theorem Cpy.put {W0:World} {w w1:World} {A3:Option Addr} {c3:Nat} {rs:List Rul} (r:Cpy W0 w A3 c3 rs) (q:Rul) {Ar:Option Addr} {cr:Nat}
 (hr:Ints .i64 w Ar q.right.length cr q.right) (ha:∀ b off,Ar=some ⟨b,off,none⟩→b < w.heap.size∧W0.heap.size≤b∧(Value.slice A3 rs.length c3).ownBlock ≠ some b) (A':Option Addr) (c':Nat)
 (ho:∀ cs,w.ownsRow W0.heap.size 52 3 (.slice A3 rs.length c3) rs.length cs→w1.ownsRow W0.heap.size 52 3 (.slice A' (rs.length+1) c') (rs.length+1) (cs++[.int .i64 q.left, .slice Ar q.right.length cr, .int .i64 q.prec]))
 (hg:w.grownBy w1 (Value.slice A3 rs.length c3).ownBlock) (hb:∀ b,(Value.slice A' (rs.length+1) c').ownBlock=some b→b < w.heap.size→(Value.slice A3 rs.length c3).ownBlock=some b) :
 Cpy W0 w1 A' c' (rs++[q]):=by
 obtain ⟨cs,h1,h2⟩:=r.rules
 have hx:=Off.of_grown hg
 have hk:∀ b,(Value.slice A3 rs.length c3).ownBlock=some b→W0.heap.size≤b:=fun b hb=>(h1.lt b hb).1
 have hown:=ho cs h1
 refine ⟨r.off.trans (hx.is_below r.off.size fun k hk'=>hk k hk'),cs++[.int .i64 q.left, .slice Ar q.right.length cr, .int .i64 q.prec],?_,?_⟩
 · rw [List.length_append,List.length_singleton]
   exact hown
 · rw [List.length_append,List.length_singleton]
   refine (h2.snoc q hr ha).keep hx.size fun k hk' hav=>⟨hx.keep k hk' hav.2,hav.1,fun e=>hav.2 (hb k e hk')⟩
theorem strs_one (ss:List ByteArray):∀ u ∈ ss.map Value.string,u.oneCell'=true:=by
 intro u hu
 obtain ⟨s,_,rfl⟩:=List.mem_map.1 hu
 rfl
theorem rf_CopyG (h:GH) (G:Gr) (w:World) (hg:GrAt w h G) (h1:h.n1≤100) (h2:h.n2≤100) (h3:h.n3≤100) (hr:∀ r ∈ G.rules,r.right.length≤100) :
 Calls Tryz.prog 18 #[GV h G.start] w (fun e w'=>Below w.heap.size w w'∧∃ h',e = .returned (GV h' G.start)∧GrAt w' h' G∧h'.n1=h.n1∧h'.n2=h.n2∧h'.n3=h.n3):=by
 obtain ⟨a1,n1,c1,a2,n2,c2,a3,n3,c3⟩:=h
 have e1:G.terms.length=n1:=hg.terms.len
 have e2:G.nons.length=n2:=hg.nons.len
 have e3:G.rules.length=n3:=hg.rules.len
 have k1:=hg.terms.cap
 have k2:=hg.nons.cap
 have k3:=hg.rules.cap
 simp only [] at h1 h2 h3 k1 k2 k3
 have Hg:=Lib.hid hg
 have Hrl:=Lib.hid hr
 have E1:=Lib.hid e1
 have E2:=Lib.hid e2
 have E3:=Lib.hid e3
 clear hg hr e1 e2 e3
 go_enter Tryz.func18,Tryz.ntmps18
 go_upto_region 1 with fail
 have hB0:=alloc_below w (.cells #[.slice a1 n1 c1, .slice a2 n2 c2, .slice a3 n3 c3, .int .i64 G.start] 26)
 have hX0:=Blk.new w 26 #[.slice a1 n1 c1, .slice a2 n2 c2, .slice a3 n3 c3, .int .i64 G.start]
 have hbZ:=alloc_below (w.alloc (.cells #[.slice a1 n1 c1, .slice a2 n2 c2, .slice a3 n3 c3, .int .i64 G.start] 26)) (.cells #[.slice none 0 0, .slice none 0 0, .slice none 0 0, .int .i64 0] 26)
 have hR0:=Blk.new (w.alloc (.cells #[.slice a1 n1 c1, .slice a2 n2 c2, .slice a3 n3 c3, .int .i64 G.start] 26)) 26 #[.slice none 0 0, .slice none 0 0, .slice none 0 0, .int .i64 0]
 have hB1:=below_tail hB0 hbZ
 have hX1:=Blk.ext hX0 hbZ
 have hsz:(w.alloc (.cells #[.slice a1 n1 c1, .slice a2 n2 c2, .slice a3 n3 c3, .int .i64 G.start] 26)).heap.size=w.heap.size+1:=alloc_size _ _
 generalize (w.alloc (.cells #[.slice a1 n1 c1, .slice a2 n2 c2, .slice a3 n3 c3, .int .i64 G.start] 26)).alloc (.cells #[.slice none 0 0, .slice none 0 0, .slice none 0 0, .int .i64 0] 26)=W1 at *
 rw [hsz] at hR0
 clear hsz hbZ hB0 hX0
 have hgX:w.heap.size≤w.heap.size:=Nat.le_refl _
 have hgR:w.heap.size+1 < W1.heap.size:=hR0.lt
 have x0:W1.cell? ⟨w.heap.size,0,none⟩=some (.slice a1 n1 c1):=hX1.cell 0
 have HRt:Hid ((Tryz.prog.info? 91).map (fun i=>(i.zero,i.size,i.bytes))=some (some (.agg #[.string ByteArray.empty, .int .i64 0, .int .i64 0]),3,32)):=Lib.hid (by kernel_rfl)
 have HRs:Hid ((Tryz.prog.info? 9).map (fun i=>(i.zero,i.size,i.bytes))=some (some (.string ByteArray.empty),1,16)):=Lib.hid (by kernel_rfl)
 have HRr:Hid ((Tryz.prog.info? 52).map (fun i=>(i.zero,i.size,i.bytes))=some (some (.agg #[.int .i64 0, .slice none 0 0, .int .i64 0]),3,40)):=Lib.hid (by kernel_rfl)
 have Hown0:Hid ((W1.alloc (.cells #[] 91)).ownsRow W1.heap.size 91 3 (.slice (some ⟨W1.heap.size,0,none⟩) 0 0) 0 []):=Lib.hid (World.ownsRow_made W1 #[] 0 (Nat.le_refl _) (Nat.zero_le _) rfl)
 have HB80:=Lib.hid (alloc_below W1 (.cells #[] 91))
 have HB1:=Lib.hid hB1
 have Htm:=Lib.hid (trms_cells ((Hg.out.below HB1.out).below HB80.out).terms)
 have Hlt:Hid ((trmCs G.terms).length=n1 * 3):=Lib.hid (by rw [trmCs_len,E1.out])
 have hs80:W1.heap.size≤(W1.alloc (.cells #[] 91)).heap.size:=HB80.out.size
 have HX1:=Lib.hid hX1
 have HR1:=Lib.hid hR0
 clear hB1 hX1 hR0 hgX
 have hgX1:w.heap.size < W1.heap.size:=HX1.out.lt
 go_upto_region 2 with (
  at_builtin
  (refine wpl_appendN rfl _ _ 22 rfl W1.heap.size 91 _ 3 32 Tryz.underlying22 HRt.out (by decide) (by decide) (some ⟨W1.heap.size,0,none⟩) 0 0 [] rfl Hown0.out a1 n1 c1 (trmCs G.terms) Hlt.out rfl Htm.out.1 Htm.out.2 (trmCs_one _) (by omega) (by omega) hs80 ?_)
  intro A4 c4 w9 ho hg ha
  simp only [Nat.zero_add,List.nil_append] at ho hg ha
  have hB9:=HB80.out.trans (grown_is_below hg hs80 (Nat.le_refl _))
  have b9:=Blk.ext HX1.out hB9
  have HB9:=Lib.hid hB9
  have Ho4:=Lib.hid ho
  have i0:=b9.lt
  have i1:=b9.frozen 0
  have i2:w9.cell? ⟨w.heap.size,0,none⟩=some (.slice a1 n1 c1):=b9.cell 0
  have Hb9:=Lib.hid b9
  clear ho hg ha hB9 b9)
 have hoff:=Off.of_set w9 w.heap.size 0 (.slice A4 n1 c4)
 have HX2:Hid (Blk (w9.setCell ⟨w.heap.size,0,none⟩ (.slice A4 n1 c4)) w.heap.size 26 #[.slice A4 n1 c4, .slice a2 n2 c2, .slice a3 n3 c3, .int .i64 G.start]):=Lib.hid (Blk.set Hb9.out 0 _)
 have HR2:Hid (Blk (w9.setCell ⟨w.heap.size,0,none⟩ (.slice A4 n1 c4)) (w.heap.size+1) 26 #[.slice none 0 0, .slice none 0 0, .slice none 0 0, .int .i64 0]):=Lib.hid (hoff.blk (Blk.ext HR1.out HB9.out) (by omega))
 have HT4:=Lib.hid (hoff.row Ho4.out fun b hb h=>by have:=(Ho4.out.lt b hb).1;omega)
 have HB2:=Lib.hid ((below_tail HB1.out HB9.out).trans (hoff.is_below (below_tail HB1.out HB9.out).size fun k hk=>Nat.le_of_eq hk.symm))
 have hW1:W1.heap.size≤(w9.setCell ⟨w.heap.size,0,none⟩ (.slice A4 n1 c4)).heap.size:=Nat.le_trans HB9.out.size hoff.size
 clear hoff Ho4 HB9 Hb9 i0 i1 i2 Hown0 HB80 Htm Hlt hs80 x0
 generalize w9.setCell ⟨w.heap.size,0,none⟩ (.slice A4 n1 c4)=W2 at *
 have x1:W2.cell? ⟨w.heap.size,1,none⟩=some (.slice a2 n2 c2):=HX2.out.cell 1
 have hgW2:w.heap.size < W2.heap.size:=HX2.out.lt
 have Hown1:Hid ((W2.alloc (.cells #[] 9)).ownsRow W2.heap.size 9 1 (.slice (some ⟨W2.heap.size,0,none⟩) 0 0) 0 []):=Lib.hid (World.ownsRow_made W2 #[] 0 (Nat.le_refl _) (Nat.zero_le _) rfl)
 have HB81:=Lib.hid (alloc_below W2 (.cells #[] 9))
 have Hst:Hid (Sl (W2.alloc (.cells #[] 9)) a2 n2 c2 (G.nons.map Value.string)):=Lib.hid ((Hg.out.below HB2.out).below HB81.out).nons
 have hs81:W2.heap.size≤(W2.alloc (.cells #[] 9)).heap.size:=HB81.out.size
 go_upto_region 3 with (
  at_builtin
  refine wpl_appendI rfl _ _ 23 rfl W2.heap.size 9 _ 16 Tryz.underlying23 HRs.out (by decide) (some ⟨W2.heap.size,0,none⟩) 0 0 [] rfl Hown1.out a2 n2 c2 (G.nons.map Value.string) rfl Hst.out (strs_one _) (by omega) (by omega) hs81 ?_
  intro A5 c5 w11 ho hg ha
  simp only [Nat.zero_add,List.nil_append] at ho hg ha
  have hB11:=HB81.out.trans (grown_is_below hg hs81 (Nat.le_refl _))
  have b11:=Blk.ext HX2.out hB11
  have HB11:=Lib.hid hB11
  have Ho5:=Lib.hid ho
  have i0:=b11.lt
  have i1:=b11.frozen 1
  have i2:w11.cell? ⟨w.heap.size,1,none⟩=some (.slice a2 n2 c2):=b11.cell 1
  have Hb11:=Lib.hid b11
  clear ho hg ha hB11 b11)
 have hoff:=Off.of_set w11 w.heap.size 1 (.slice A5 n2 c5)
 have HX3:Hid (Blk (w11.setCell ⟨w.heap.size,1,none⟩ (.slice A5 n2 c5)) w.heap.size 26 #[.slice A4 n1 c4, .slice A5 n2 c5, .slice a3 n3 c3, .int .i64 G.start]):=Lib.hid (Blk.set Hb11.out 1 _)
 have HR3:Hid (Blk (w11.setCell ⟨w.heap.size,1,none⟩ (.slice A5 n2 c5)) (w.heap.size+1) 26 #[.slice none 0 0, .slice none 0 0, .slice none 0 0, .int .i64 0]):=Lib.hid (hoff.blk (Blk.ext HR2.out HB11.out) (by omega))
 have HT5:=Lib.hid (hoff.row Ho5.out fun b hb h=>by have:=(Ho5.out.lt b hb).1;omega)
 have HT4':=Lib.hid (hoff.row (own_keep HT4.out fun b _ hl=>HB11.out.block b hl) fun b hb h=>by have:=(HT4.out.lt b hb).1;omega)
 have HB3:=Lib.hid ((below_tail HB2.out HB11.out).trans (hoff.is_below (below_tail HB2.out HB11.out).size fun k hk=>Nat.le_of_eq hk.symm))
 clear hoff Ho5 HB11 Hb11 i0 i1 i2 Hown1 HB81 Hst hs81 x1 HT4 HX2 HR2 HB2
 generalize w11.setCell ⟨w.heap.size,1,none⟩ (.slice A5 n2 c5)=W3 at *
 go_wp2_with fail
 go_loopw [3,4] (fun v i wr=>∃ (j:Nat) (A3:Option Addr) (k3:Nat) (rs:List Rul),j≤n3∧Hid (rs=G.rules.take j)∧rs.length≤100∧i = .int .i64 (j:Int)∧v = .slice A3 rs.length k3∧Hid (Cpy W3 wr A3 k3 rs)) (fun _ i _=>n3 - (intOf i).toNat)
 case atStart=>exact ⟨0,none,0,[],Nat.zero_le _,Lib.hid rfl,by simp,rfl,rfl,Lib.hid (Cpy.start _)⟩
 case round =>
  obtain ⟨j,A3,k3',rs,hj,Hrs,hrs,rfl,rfl,HC⟩:=hrel
  have HBr:=Lib.hid (below_tail HB3.out HC.out.off)
  have HXr:=Lib.hid (Blk.ext HX3.out HC.out.off)
  have x2:wr.cell? ⟨w.heap.size,2,none⟩=some (.slice a3 n3 c3):=HXr.out.cell 2
  have xl:=HXr.out.lt
  by_cases hjj:j < n3
  case pos =>
   obtain ⟨rb,roff,r,Ar,cr,rfl,hrb,Hr,q0,q1,q2,hrr⟩:=(Hg.out.below HBr.out).rules.get hjj
   have hlen:=Hrl.out r (List.mem_of_getElem? Hr.out)
   have hbQ:=alloc_below wr (.cells #[.int .i64 r.left, .slice Ar r.right.length cr, .int .i64 r.prec] 52)
   have hXQ:=Blk.new wr 52 #[.int .i64 r.left, .slice Ar r.right.length cr, .int .i64 r.prec]
   have HrQ:=Lib.hid (hrr.below hbQ)
   have hown:∀ b,(Value.slice A3 rs.length k3').ownBlock=some b→b < wr.heap.size:=fun b hb=>by
    obtain ⟨cs,h1,_⟩:=HC.out.rules
    exact (h1.lt b hb).2
   have Hown:=Lib.hid hown
   go_upto_region 8 with fail
   have hW3r:W3.heap.size≤wr.heap.size:=HC.out.off.size
   clear hown hrr
   generalize wr.alloc (.cells #[.int .i64 r.left, .slice Ar r.right.length cr, .int .i64 r.prec] 52)=WQ at *
   have HbQ:=Lib.hid hbQ
   generalize hgq:wr.heap.size=gQ at *
   have Hgq:=Lib.hid hgq
   clear hgq
   have HXQ:=Lib.hid hXQ
   have z1:WQ.cell? ⟨gQ,1,none⟩=some (.slice Ar r.right.length cr):=hXQ.cell 1
   clear hbQ hXQ q0 q1 q2 x2 xl
   have hlQ:=HXQ.out.lt
   have C3:=Lib.hid (rf_Copy3 Ar _ cr r.right WQ HrQ.out (by omega))
   go_upto_region 9 with (
    go_at_call 55
    (with_reducible refine C3.out.mono ?_)
    rintro e w5 ⟨A6,c6,rfl,hI6,hb5,hn5⟩
    have b5:=Blk.ext HXQ.out hb5
    have i0:=b5.lt
    have i1:=b5.frozen 1
    have i2:w5.cell? ⟨gQ,1,none⟩=some (.slice Ar r.right.length cr):=b5.cell 1
    have Hb5:=Lib.hid b5
    clear b5)
   have hoff:=Off.of_set w5 gQ 1 (.slice A6 r.right.length c6)
   have HY:Hid (Blk (w5.setCell ⟨gQ,1,none⟩ (.slice A6 r.right.length c6)) gQ 52 #[.int .i64 r.left, .slice A6 r.right.length c6, .int .i64 r.prec]):=Lib.hid (Blk.set Hb5.out 1 _)
   have hIY:Ints .i64 (w5.setCell ⟨gQ,1,none⟩ (.slice A6 r.right.length c6)) A6 r.right.length c6 r.right:=ints_keep hI6 hoff.size fun b off hb hl=>hoff.keep b hl fun h=>by have:=(hn5 b off hb).1;omega
   have hnY:∀ b off,A6=some ⟨b,off,none⟩→b < (w5.setCell ⟨gQ,1,none⟩ (.slice A6 r.right.length c6)).heap.size∧W3.heap.size≤b∧(Value.slice A3 rs.length k3').ownBlock ≠ some b:=fun b off hb=>by
    have h1:=hn5 b off hb
    have h2:=hoff.size
    refine ⟨by omega,by omega,fun h=>?_⟩
    have:=Hown.out b h
    omega
   have hbQY:Below gQ WQ (w5.setCell ⟨gQ,1,none⟩ (.slice A6 r.right.length c6)):=(hb5.mono (Nat.le_of_lt hlQ)).trans (hoff.is_below (Nat.le_of_lt i0) fun k hk=>Nat.le_of_eq hk.symm)
   have hCY:Cpy W3 (w5.setCell ⟨gQ,1,none⟩ (.slice A6 r.right.length c6)) A3 k3' rs:=HC.out.below (by rw [Hgq.out];exact HbQ.out.trans hbQY)
   have HCY:=Lib.hid hCY
   have HIY:=Lib.hid hIY
   have HnY:=Lib.hid hnY
   clear hoff hI6 hb5 hn5 i0 i1 i2 z1 hlQ hbQY hCY hIY hnY Hb5 HXQ HrQ HC HbQ
   generalize w5.setCell ⟨gQ,1,none⟩ (.slice A6 r.right.length c6)=WY at *
   have y0:WY.cell? ⟨gQ,0,none⟩=some (.int .i64 r.left):=HY.out.cell 0
   have y1:WY.cell? ⟨gQ,1,none⟩=some (.slice A6 r.right.length c6):=HY.out.cell 1
   have y2:WY.cell? ⟨gQ,2,none⟩=some (.int .i64 r.prec):=HY.out.cell 2
   have yl:=HY.out.lt
   obtain ⟨cs,h3,hcs⟩:=HCY.out.rules
   have H3:=Lib.hid h3
   have hW3Y:W3.heap.size≤WY.heap.size:=HCY.out.off.size
   have Hrs1:Hid (rs++[r]=G.rules.take (j+1)):=Lib.hid (by rw [take_snoc' Hr.out,Hrs.out])
   have Hput:=Lib.hid fun w7 A7 c7 ho hg hb=>Cpy.put HCY.out r (Ar:=A6) (cr:=c6) HIY.out HnY.out (w1:=w7) A7 c7 ho hg hb
   have hrs2:rs.length < 100:=by have h1:=Hrs.out;have h2:=E3.out;rw [h1,List.length_take];omega
   clear h3 hcs
   go_wp2_with (first
    | (at_builtin;refine wpl_appendT rfl _ _ 24 rfl W3.heap.size 52 _ 3 40 Tryz.underlying24 HRr.out (by decide) (by decide) A3 rs.length k3' cs rfl H3.out [.int .i64 r.left, .slice A6 r.right.length c6, .int .i64 r.prec] rfl rfl (by simp [Value.oneCell']) (by omega) (by omega) (by omega) ?_;intro A7 c7 w7 ho hg ha
       have HF:=Lib.hid (Hput.out w7 A7 c7 (fun cs' h1=>by rw [own_unique h1 H3.out];exact ho) hg ha)
       clear ho hg ha))
   go_roundw
   case rel=>exact ⟨j+1,A7,c7,rs++[r],by omega,Hrs1,by simp;omega,by go_num,by simp,HF⟩
   case measure=>simp [intOf];omega
  case neg =>
   as_aux_lemma =>
    obtain rfl:j=n3:=by omega
    have hrsl:rs=G.rules:=by rw [Hrs.out,List.take_of_length_le (by have:=E3.out;omega)]
    subst hrsl
    have hl3:G.rules.length=j:=E3.out
    have x0:wr.cell? ⟨w.heap.size,0,none⟩=some (.slice A4 n1 c4):=HXr.out.cell 0
    have x1:wr.cell? ⟨w.heap.size,1,none⟩=some (.slice A5 n2 c5):=HXr.out.cell 1
    have x3:wr.cell? ⟨w.heap.size,3,none⟩=some (.int .i64 G.start):=HXr.out.cell 3
    have xf:=HXr.out.frozen 2
    have HRr:=Lib.hid (Blk.ext HR3.out HC.out.off)
    have r0:wr.cell? ⟨w.heap.size+1,0,none⟩=some (.slice none 0 0):=HRr.out.cell 0
    have r1:wr.cell? ⟨w.heap.size+1,1,none⟩=some (.slice none 0 0):=HRr.out.cell 1
    have r2:wr.cell? ⟨w.heap.size+1,2,none⟩=some (.slice none 0 0):=HRr.out.cell 2
    have r3:wr.cell? ⟨w.heap.size+1,3,none⟩=some (.int .i64 0):=HRr.out.cell 3
    have f0:=HRr.out.frozen 0
    have f1:=HRr.out.frozen 1
    have f2:=HRr.out.frozen 2
    have f3:=HRr.out.frozen 3
    have rl:=HRr.out.lt
    have HT4r:=Lib.hid (own_keep HT4'.out fun b _ hl=>HC.out.off.block b hl)
    have HT5r:=Lib.hid (own_keep HT5.out fun b _ hl=>HC.out.off.block b hl)
    have Hgr:Hid (∀ wF,Off (fun k=>k=w.heap.size∨k=w.heap.size+1) wr wF→GrAt wF ⟨A4,n1,c4,A5,n2,c5,A3,j,k3'⟩ G):=Lib.hid fun wF hof=>by
     obtain ⟨cs,h3,hcs⟩:=HC.out.rules
     have hw1:=HB1.out.size
     have hw3:w.heap.size+1 < W3.heap.size:=HR3.out.lt
     refine ⟨own_trms (hof.row HT4r.out fun b hb h=>by have h1:=(HT4r.out.lt b hb).1;omega),?_,?_,(Hg.out).wf⟩
     · exact own_sl (hof.row HT5r.out fun b hb h=>by have h1:=(HT5r.out.lt b hb).1;omega)
     · have:=own_ruls (hof.row h3 fun b hb h=>by have h1:=(h3.lt b hb).1;omega) (hcs.keep hof.size fun k hk ha=>⟨hof.keep k hk fun h=>by have h1:=ha.1;omega,ha⟩)
       rw [hl3] at this
       exact this
    have HBz:=Lib.hid (below_tail HB3.out HC.out.off)
    rw [hl3]
    clear HC hl3 Hrs
    go_wp2_with fail
    have s0:=Off.of_set wr w.heap.size 2 (.slice A3 j k3')
    have hRo:Blk (wr.setCell ⟨w.heap.size,2,none⟩ (.slice A3 j k3')) (w.heap.size+1) 26 #[.slice none 0 0, .slice none 0 0, .slice none 0 0, .int .i64 0]:=s0.blk HRr.out (by omega)
    have t0:=Off.of_set (wr.setCell ⟨w.heap.size,2,none⟩ (.slice A3 j k3')) (w.heap.size+1) 0 (.slice A4 n1 c4)
    have t1:=t0.trans (Off.of_set _ (w.heap.size+1) 1 (.slice A5 n2 c5)) fun _ _ h=>h
    have t2:=t1.trans (Off.of_set _ (w.heap.size+1) 2 (.slice A3 j k3')) fun _ _ h=>h
    have t3:=t2.trans (Off.of_set _ (w.heap.size+1) 3 (.int .i64 G.start)) fun _ _ h=>h
    refine bodyPost_ret (results_cell_row (p:=2) (by kernel_rfl) _ _ (w.heap.size+1) 26 #[.slice A4 n1 c4, .slice A5 n2 c5, .slice A3 j k3', .int .i64 G.start] (0,0) _ rfl (Blk.set (Blk.set (Blk.set (Blk.set hRo 0 (.slice A4 n1 c4)) 1 (.slice A5 n2 c5)) 2 (.slice A3 j k3')) 3 (.int .i64 G.start)) Tryz.underlying26 rfl (by kernel_rfl)) rfl ?_
    have hall:=offX s0 t3
    exact ⟨HBz.out.trans (hall.is_below HBz.out.size fun k hk=>by omega),⟨A4,n1,c4,A5,n2,c5,A3,j,k3'⟩,rfl,Hgr.out _ hall,rfl,rfl,rfl⟩
theorem countTrees_walk (h:GH) (G:Gr) (x:Int) (w:World) (hgi:GrIn w h G) (hx:(Lit.int .i64 x).wf=true) (hTab:TabAt w) :
 Calls Tryz.prog 4 #[GV h G.start, .int .i64 x] w fun e w'=>e = .returned (.bool true)∧Below w.heap.size w w':=by
 obtain ⟨hg,hs,hst⟩:=hgi
 obtain ⟨a1,n1,c1,a2,n2,c2,a3,n3,c3⟩:=h
 have e1:G.terms.length=n1:=hg.terms.len
 have e2:G.nons.length=n2:=hg.nons.len
 have e3:G.rules.length=n3:=hg.rules.len
 have hB0:=alloc_below w (.cells #[.slice a1 n1 c1, .slice a2 n2 c2, .slice a3 n3 c3, .int .i64 G.start] 26)
 have hbox:=GBox.new w 26 ⟨a1,n1,c1,a2,n2,c2,a3,n3,c3⟩ G.start
 have CA:=Lib.hid alive22
 have Hg:=Lib.hid hg
 have Hs:=Lib.hid hs
 have HT:=Lib.hid hTab
 clear hst hg hs hx hTab
 go_enter Tryz.func4,Tryz.ntmps4
 go_wp2_with fail
 generalize w.alloc (.cells #[.slice a1 n1 c1, .slice a2 n2 c2, .slice a3 n3 c3, .int .i64 G.start] 26)=W0 at *
 (with_reducible refine (CA.out W0 (HT.out.below hB0)).mono ?_)
 rintro e W1 ⟨rfl,hb1⟩
 have hB1:=below_tail hB0 hb1
 have hbx1:=hbox.below hb1
 have ⟨y5,y0,y1,y2,y3⟩:=hbx1
 simp only [] at y0 y1 y2 y3
 go_wp2_with fail
 (with_reducible refine (rf_great ⟨a1,n1,c1,a2,n2,c2,a3,n3,c3⟩ G W1 (Hg.out.below hB1)).mono ?_)
 rintro e W2 ⟨rfl,hb2⟩
 have hB2:=below_tail hB1 hb2
 have hbx2:=hbx1.below hb2
 clear y0 y1 y2 y3 y5 hbox hbx1
 have ⟨y5,y0,y1,y2,y3⟩:=hbx2
 simp only [] at y0 y1 y2 y3
 rcases hgr:G.great with _ | _
 case true =>
  clear hgr
  go_wp2_with fail
  go_ret
  exact ⟨rfl,hB2⟩
 obtain ⟨l1,l2,l3,l4⟩:=great_falseC hgr
 rw [e1] at l1
 rw [e2] at l2
 rw [e3] at l3
 clear hgr e1 e2 e3
 have HB2:=Lib.hid hB2
 have Hbx2:=Lib.hid hbx2
 have CC:=Lib.hid (rf_CopyG ⟨a1,n1,c1,a2,n2,c2,a3,n3,c3⟩ G W2 (Hg.out.below hB2) (by simp only [];omega) (by simp only [];omega) (by simp only [];omega) (fun r hr=>Nat.le_trans (l4 r hr) (by omega)))
 clear l4 hB1 hb1 hb2 hB2 hbx2 hB0
 go_wp2_with fail
 (with_reducible refine CC.out.mono ?_)
 rintro e W3 ⟨hb3,h',rfl,hg',m1,m2,m3⟩
 obtain ⟨b1,k1,d1,b2,k2,d2,b3,k3,d3⟩:=h'
 simp only [] at m1 m2 m3
 subst m1 m2 m3
 have hB3:=below_tail HB2.out hb3
 have Hbx3:=Lib.hid (Hbx2.out.below hb3)
 have hal:=alloc_below W3 (.cells #[.slice b1 k1 d1, .slice b2 k2 d2, .slice b3 k3 d3, .int .i64 G.start] 26)
 have hbxO:=GBox.new W3 26 ⟨b1,k1,d1,b2,k2,d2,b3,k3,d3⟩ G.start
 have HB4:=Lib.hid (below_tail hB3 hal)
 have Hbx4:=Lib.hid (Hbx3.out.below hal)
 have Hg4:=Lib.hid (hg'.below hal)
 go_upto_region 6 with fail
 generalize W3.alloc (.cells #[.slice b1 k1 d1, .slice b2 k2 d2, .slice b3 k3 d3, .int .i64 G.start] 26)=W4 at *
 generalize W3.heap.size=gO at *
 have HbxO:=Lib.hid hbxO
 clear y0 y1 y2 y3 y5 CC hb3 hg' hB3 hal hbxO Hbx2 Hbx3 HB2
 have ⟨x5,x0,x1,x2,x3⟩:=HbxO.out
 simp only [] at x0 x1 x2 x3
 have C1:=Lib.hid (tr_cCount ⟨b1,k1,d1,b2,k2,d2,b3,k3,d3⟩ G x W4 Hg4.out Hs.out (HT.out.below HB4.out) (by simp only [];omega) (by simp only [];omega) (by simp only [];omega))
 go_wp2_with fail
 (with_reducible refine C1.out.mono ?_)
 rintro e W5 ⟨A5,c5,rfl,rN5,hb5⟩
 have RN5:=Lib.hid rN5
 have HB5:=Lib.hid (below_tail HB4.out hb5)
 have Hb45:=Lib.hid hb5
 have ⟨y5,y0,y1,y2,y3⟩:=Hbx4.out.below hb5
 simp only [] at y0 y1 y2 y3
 clear rN5 hb5 C1 x0 x1 x2 x3 x5
 have C2:=Lib.hid (rf_Count22 ⟨a1,k1,c1,a2,k2,c2,a3,k3,c3⟩ G x W5 (Hg.out.below HB5.out) (by simp only [];omega) (by simp only [];omega) (by simp only [];omega))
 go_wp2_with fail
 (with_reducible refine C2.out.mono ?_)
 rintro e W6 ⟨A6,c6,rfl,rN6,hb6⟩
 have RN6:=Lib.hid rN6
 have HB6:=Lib.hid (below_tail HB5.out hb6)
 have Hb46:=Lib.hid (Hb45.out.trans (hb6.mono Hb45.out.size))
 have RN5':=Lib.hid (RN5.out.below hb6)
 have ⟨x5,x0,x1,x2,x3⟩:=HbxO.out.below Hb46.out
 simp only [] at x0 x1 x2 x3
 clear rN6 hb6 C2 y0 y1 y2 y3 y5 RN5
 generalize cntN22 G x=res at *
 obtain ⟨zs,er⟩:=res
 simp only [] at RN5' RN6
 have C3:=Lib.hid (tr_cUpto ⟨b1,k1,d1,b2,k2,d2,b3,k3,d3⟩ G (min x 11) W6 (Hg4.out.below Hb46.out) Hs.out (HT.out.below HB6.out) (by simp only [];omega) (by simp only [];omega) (by simp only [];omega) (by omega))
 go_wp2_with fail
 (with_reducible refine C3.out.mono ?_)
 unfold RetNats
 rintro e W7 ⟨hb7,A7,c7,rfl,rN7⟩
 have RN7:=Lib.hid rN7
 have HB7:=Lib.hid (below_tail HB6.out hb7)
 have Hb47:=Lib.hid (Hb46.out.trans (hb7.mono Hb46.out.size))
 have RN5'':=Lib.hid (RN5'.out.below hb7)
 have RN6':=Lib.hid (RN6.out.below hb7)
 have ⟨y5,y0,y1,y2,y3⟩:=Hbx4.out.below Hb47.out
 simp only [] at y0 y1 y2 y3
 clear rN7 hb7 C3 x0 x1 x2 x3 x5 RN5' RN6
 have C4:=Lib.hid (rf_Upto22 ⟨a1,k1,c1,a2,k2,c2,a3,k3,c3⟩ G (min x 11) W7 (Hg.out.below HB7.out) (by simp only [];omega) (by simp only [];omega) (by simp only [];omega) (by omega))
 go_wp2_with fail
 (with_reducible refine C4.out.mono ?_)
 unfold RetNats
 rintro e W8 ⟨hb8,A8,c8,rfl,rN8⟩
 have RN8:=Lib.hid rN8
 have HB8:=Lib.hid (below_tail HB7.out hb8)
 have Hb48:=Lib.hid (Hb47.out.trans (hb8.mono Hb47.out.size))
 have RN5x:=Lib.hid (RN5''.out.below hb8)
 have RN6x:=Lib.hid (RN6'.out.below hb8)
 have RN7x:=Lib.hid (RN7.out.below hb8)
 clear rN8 hb8 C4 y0 y1 y2 y3 y5 RN5'' RN6' RN7
 generalize uptoV G (min x 11)=res at *
 obtain ⟨ys,es⟩:=res
 simp only [] at RN7x RN8
 have cS:=ref_same A5 _ c5 zs A6 _ c6 zs W8 RN5x.out RN6x.out
 rw [beq_self_eq_true] at cS
 have CS:=Lib.hid cS
 clear cS
 have h1:(((er:Nat):Int) == ((er:Nat):Int))=true:=by simp
 have h2:(((es:Nat):Int) == ((es:Nat):Int))=true:=by simp
 have CL:=Lib.hid fun X (hb:Below W8.heap.size W8 X)=>rf_Lists A7 _ c7 ys A8 _ c8 ys X (RN7x.out.below hb) (RN8.out.below hb)
 rw [show (ys == ys)=true from beq_self_eq_true ys] at CL
 have CG:=Lib.hid fun X (hb:Below W8.heap.size W8 X)=>rf_Same9 ⟨b1,k1,d1,b2,k2,d2,b3,k3,d3⟩ ⟨a1,k1,c1,a2,k2,c2,a3,k3,c3⟩ G G X ((Hg4.out.below Hb48.out).below hb) ((Hg.out.below HB8.out).below hb)
 rw [eqG_yes rfl rfl rfl rfl] at CG
 go_wp2_with (first
  | (go_at_call 17
     (with_reducible refine CS.out.mono ?_)
     rintro e W9 ⟨rfl,hS9⟩
     have Hb9:=Lib.hid (hS9.below W8.heap.size))
  | (go_at_call 23
     (with_reducible refine (CL.out _ Hb9.out).mono ?_)
     rintro e W10 ⟨rfl,hb10⟩
     have Hb10:=Lib.hid (below_tail Hb9.out hb10)
     have Hb4x:=Lib.hid (Hb48.out.trans (Hb10.out.mono Hb48.out.size))
     obtain ⟨y5,y0,y1,y2,y3⟩:=Hbx4.out.below Hb4x.out
     obtain ⟨x5,x0,x1,x2,x3⟩:=HbxO.out.below Hb4x.out
     simp only [] at y0 y1 y2 y3 x0 x1 x2 x3)
  | (go_at_call 24
     (with_reducible refine (CG.out _ Hb10.out).mono ?_)
     rintro e W11 ⟨rfl,hb11⟩))
 go_ret
 exact ⟨rfl,below_tail (below_tail HB8.out Hb10.out) hb11⟩
end Go.Proofs.YtggbjdmpjidhgaaGreatDoor
