/- A region that draws its order: quiet in a class of worlds but for its last operations, which stand in one order: one walk serves. -/
import Derived.Test.YtggbjdmpjidhgaaGreatDoorVQGrS1
import Derived.StillTail
import Derived.Test.YtggbjdmpjidhgaaGreatDoorVQGrW3
import Derived.Test.YtggbjdmpjidhgaaGreatDoorVQGrC3
import Derived.Deep.RegionWith
set_option linter.unusedVariables false
set_option linter.unusedSimpArgs false
set_option maxHeartbeats 8000000
set_option maxRecDepth 100000
namespace Go.Proofs.YtggbjdmpjidhgaaGreatDoor
open Go.RowKit
section
variable {P:Program} {ops:Array Oper} {md:Region.Mode} {C:World→Prop}
def headQ (P:Program) (md:Region.Mode) (ops:Array Oper) (C:World→Prop) (n:Nat) (L:Array Bool→Act→Prop):Nat→Array Bool→Act→Prop
 | 0,listed,a=>L listed a
 | f+1,listed,a=>Region.ready md ops listed ≠ []∧∀ i ∈ Region.ready md ops listed,i < n∧qOp P ops C i (headQ P md ops C n L f (listed.setIfInBounds i true)) a
theorem any_of_headQ {n g:Nat} {L:Array Bool→Act→Prop} {Q':Exit→Act→World→Prop} (b:∀ listed a w,C w→L listed a→wpAny P md ops Q' g listed a w) :
 ∀ (f:Nat) (listed:Array Bool) (a:Act) (w:World),C w→headQ P md ops C n L f listed a→wpAny P md ops Q' (f+g) listed a w
 | 0,listed,a,w,hw,h=>by rw [Nat.zero_add];exact b _ _ _ hw h
 | f+1,listed,a,w,hw,h=>by
   rw [show f+1+g=(f+g)+1 by omega]
   exact ⟨fun j=>absurd j h.1,fun i hi=>wpOp_of_qOp hw (fun c w' k d=>any_of_headQ b f _ c w' k d) (h.2 i hi).2⟩
theorem headQ_first {n i:Nat} {r:Oper} {v:Value} {L:Array Bool→Act→Prop} (hi:ops[i]? = some r) (F:∀ (j:Nat) (o:Oper) cs b,ops[j]? = some o→o.op ≠ .select cs b)
 (x:Region.sinkB md ops n=true) (z:Region.chainB md ops n=true) (A:i < n)
 (N:∀ listed a,L listed a→∀ j ∈ Region.ready md ops listed,n≤j) :
 ∀ (f:Nat) (listed:Array Bool) (a:Act),HeadInv md ops n listed →
   (∀ j d,ops[j]? = some d→j ≠ i→listed.getD j true=false→(∀ e ∈ d.after,Region.binds md e=true→e.on ≠ i)→r.apart ops d=true) →
   i ∈ Region.ready md ops listed→YieldsIn P ops C r v a →
   headQ P md ops C n L f (listed.setIfInBounds i true) (a.put r.dst v)→headQ P md ops C n L (f+1) listed a:=by
 intro f
 induction f with
 | zero =>
   intro listed a inv u m t H
   have p:=(mem_ready.1 m).1
   have Z:n≤ops.size:=by
    rcases Nat.lt_or_ge ops.size n with h | h
    · exfalso
      have q:=List.all_eq_true.1 x (ops.size) (List.mem_range.2 h)
      obtain ⟨j,c,B⟩:=List.any_eq_true.1 q
      simp only [Bool.and_eq_true,decide_eq_true_eq] at B
      obtain ⟨d,g,_⟩:=Region.waitsFor_spec B.2
      have:=(Array.getElem?_eq_some_iff.1 g).1
      omega
    · exact h
   refine ⟨fun h=>(by rw [h] at m;cases m),fun j c=>?_⟩
   have s:j < n:=by
    rcases Nat.lt_or_ge j n with h | h
    · exact h
    · have V:j < ops.size:=by
       obtain ⟨_,d,g,_⟩:=mem_ready.1 c
       exact (Array.getElem?_eq_some_iff.1 g).1
      exact absurd c (tail_waits x z (by omega) inv _ i rfl A p j h)
   refine ⟨s,?_⟩
   by_cases l:j=i
   · subst l;exact t.qOp hi H
   · have:=N _ _ H j (ready_mono c l)
     omega
 | succ f Y =>
   intro listed a inv u m t H
   have p:=(mem_ready.1 m).1
   refine ⟨fun h=>(by rw [h] at m;cases m),fun j c=>?_⟩
   have s:j < n:=by
    rcases Nat.lt_or_ge j n with h | h
    · exact h
    · have V:j < ops.size:=by
       obtain ⟨_,d,g,_⟩:=mem_ready.1 c
       exact (Array.getElem?_eq_some_iff.1 g).1
      exact absurd c (tail_waits x z (by omega) inv _ i rfl A p j h)
   refine ⟨s,?_⟩
   by_cases l:j=i
   · subst l;exact t.qOp hi H
   · have q:=(H.2 j (ready_mono c l)).2
     obtain ⟨E,d,g,J⟩:=mem_ready.1 c
     have X:∀ e ∈ d.after,Region.binds md e=true→e.on ≠ i:=fun e O M R=>by
      have q:=J e O M
      rw [R,getD_both p] at q
      cases q
     have I:=qOp_put g (u j d g l E X) (fun cs b=>F i r cs b hi) (fun cs b=>F j d cs b g) t q
     have S:∀ k ok,ops[k]? = some ok→k ≠ i→(listed.setIfInBounds j true).getD k true=false →
      (∀ e ∈ ok.after,Region.binds md e=true→e.on ≠ i)→r.apart ops ok=true:=fun k ok T U p W=>by
      refine u k ok T U ?_ W
      by_cases D:j=k
      · subst D;exact E
      · rw [getD_set_ne true D] at p;exact p
     refine qOp_mono (fun G y=>Y (listed.setIfInBounds j true) G (inv.set c s) S (ready_mono m (Ne.symm l)) y.1 ?_) I
     rw [Array.setIfInBounds_comm _ _ l]
     exact y.2
theorem headQ_lex {n g:Nat} {c:Act→Prop} (r:Region.noSelect ops=true) (q:Region.sinkB md ops n=true) (f:Region.chainB md ops n=true) :
 ∀ (l:List Oper) (k:Nat) (listed:Array Bool) (a:Act),(∀ j,j < l.length→l[j]? = ops[k+j]?)→k+l.length=n→HeadInv md ops n listed →
 Region.lexHead md ops g l.length k listed=true→wpQuiet P ops C c l a →
 headQ P md ops C n (fun s d=>Region.seqB md ops g n s=true∧c d) l.length listed a
 | [],k,listed,a,_,hk,_,hB,h=>by
   have:k=n:=by simpa using hk
   subst this
   exact ⟨by simpa [Region.lexHead] using hB,h⟩
 | o::l,k,listed,a,hl,hk,inv,hB,h=>by
   have b:ops[k]? = some o:=by simpa using (hl 0 (by simp)).symm
   simp only [List.length_cons,Region.lexHead,Bool.and_eq_true] at hB
   obtain ⟨⟨z,y⟩,t⟩:=hB
   have m:k < n:=by simp only [List.length_cons] at hk;omega
   have p:k ∈ Region.ready md ops listed:=by simpa using z
   have A:qOp P ops C k (wpQuiet P ops C c l) a:=by unfold qOp;simp only [b];exact h
   obtain ⟨v,B,u⟩:=yieldsIn_of_qOp b A
   exact headQ_first b (Region.noSelect_spec r) q f m (fun s d x=>seqB_ready x.1) l.length listed a inv (Region.free_spec b y) p B
    (headQ_lex r q f l (k+1) _ _ (fun j D=>by have:=hl (j+1) (by simp;omega);simpa [Nat.add_assoc,Nat.add_comm 1 j] using this) (by simp only [List.length_cons] at hk;omega) (inv.set p m) t u)
theorem wp_region_quiet_tail {id:Nat} {Q:Exit→Act→World→Prop} {a:Act} {w:World} {l:List Oper} (n:Nat) (u:P.follows .mixedOrders=true) (d:Region.lexTailB .any l.toArray n=true) (p:C { w with drawn:=w.drawn+1 })
 (h:wpQuiet P l.toArray C (fun c=>∀ w',C w'→wpList P l.toArray Q (l.drop n) c w') (l.take n) a):(Code.region id l.toArray true).wp P Q a w:=by
 simp only [Region.lexTailB,Bool.and_eq_true,decide_eq_true_eq] at d
 obtain ⟨⟨⟨⟨y,v⟩,x⟩,q⟩,s⟩:=d
 have D:n < l.length:=by simpa using v
 have b:(l.take n).length=n:=by simp;omega
 have k:(l.drop n).length=l.toArray.size - n:=by simp
 have B:HeadInv .any l.toArray n (Array.replicate l.toArray.size false) :=
  ⟨by simp,fun j E _ o=>(by rw [getD_replicate_false] at o;cases o),fun t _ z=>getD_in (by simpa using z) (getD_replicate_false _ _)⟩
 have H:=headQ_lex (md := .any) (g:=l.toArray.size - n) y x q (l.take n) 0 _ a (fun j m=>by
  have r:j < n:=by rw [b] at m;exact m
  simp [r]) (by simpa using b) B (by rw [b];exact s) h
 refine wp_region_any u ?_
 have:=any_of_headQ (Q':=Q) (g:=l.toArray.size - n) (fun listed c w' A f=>by
  have:=wpAny_of_seq (md := .any) (Q':=Q) (l.drop n) n listed c w' (fun j=>by simp [List.getElem?_drop]) (by rw [k];exact f.1) (f.2 w' A)
  rwa [k] at this) _ _ _ _ p H
 rw [b,show n+(l.toArray.size - n)=l.toArray.size by omega] at this
 exact this
theorem wp_region_below_tail {id:Nat} {Q:Exit→Act→World→Prop} {a:Act} {w:World} {l:List Oper} (n:Nat) (d:P.follows .mixedOrders=true) (c:Region.lexTailB .any l.toArray n=true)
 (h:wpQuiet P l.toArray (fun w'=>∃ x,w'=bl w x) (fun b=>∀ w',(∃ x,w'=bl w x)→wpList P l.toArray Q (l.drop n) b w') (l.take n) a):(Code.region id l.toArray true).wp P Q a w :=
 wp_region_quiet_tail (C:=fun w'=>∃ x,w'=bl w x) n d c ⟨⟨_,(Below.refl w.heap.size w).drew⟩,rfl⟩ h
end
theorem Nums.part {k:IntKind} {w:World} {b d n c:Nat} {xs:List Nat} (h:Nums k w (some ⟨b,d,none⟩) n c xs) (i m a:Nat) (t:i+m≤n) (g:m≤a) (l:a≤9223372036854775807) :
 Nums k w (some ⟨b,d+i,none⟩) m a ((xs.drop i).take m):=by
 have s:=h.len
 refine ⟨by simp [nums];omega,g,l,fun q=>?_⟩
 simp [nums] at q
 obtain ⟨r,u,e,f,o⟩:=h.2.2.2 (by rw [nums_length];omega)
 injection e with e
 injection e with e1 e2
 subst e1;subst e2
 refine ⟨b,d+i,rfl,f,fun j p=>?_⟩
 simp [nums] at p
 rw [Nat.add_assoc,o (i+j) (by rw [nums_length];omega)]
 simp [nums,List.getElem?_take,List.getElem?_drop]
 intro;omega
def hasP (xs:List Nat) (i:Nat) (pat:List Nat):Bool:=decide (i+pat.length≤xs.length) && decide ((xs.drop i).take pat.length=pat)
theorem rf_has7 (A:Option Addr) (n c i:Nat) (xs pat:List Nat) (w:World) (h:Nums .u8 w A n c xs) (f:∀ x ∈ xs,x < 256) (g:∀ x ∈ pat,x < 256) (z:n≤100000) (hi:i≤100000) (B:1≤pat.length∧pat.length≤100) :
 Calls Tryz.prog 216 #[.slice A n c, .int .i64 (i:Int), .string (str pat)] w fun e w'=>e = .returned (.bool (hasP xs i pat))∧w=w':=by
 obtain rfl:=h.len
 have v:=h.cap
 have D:=str_size pat
 by_cases k:i+pat.length≤xs.length
 · obtain ⟨b,E,rfl,u,p⟩:=h.at_ (by omega)
   have j:=h.part i pat.length (c - i) (by omega) (by omega) (by omega)
   have l:((xs.drop i).take pat.length).length=pat.length:=by rw [List.length_take,List.length_drop];omega
   have a:hasP xs i pat=((str ((xs.drop i).take pat.length)).toList == (str pat).toList):=by
    unfold hasP
    rw [decide_eq_true k,Bool.true_and,Bool.eq_iff_iff,decide_eq_true_iff,beq_iff_eq]
    constructor
    · intro h;rw [h]
    · intro h
      have m:str ((xs.drop i).take pat.length)=str pat:=by
       have:=toList_beq (str ((xs.drop i).take pat.length)) (str pat)
       rw [h,beq_self_eq_true] at this
       simpa using this.symm
      have o:=congrArg bytesOf m
      rwa [bytesOf_str _ fun y r=>f y (List.mem_of_mem_drop (List.mem_of_mem_take r)),bytesOf_str _ g] at o
   generalize (xs.drop i).take pat.length=sub at *
   rw [← l] at j
   have q:=run_bytes_str (P:=Tryz.prog) w 72 5 9 Tryz.underlying72 Tryz.underlying5 Tryz.underlying9 _ _ sub j
   rw [l] at q
   have d:=LH a
   have s:IntKind.i64.wrap ((i:Int)+(pat.length:Int))=((i+pat.length:Nat):Int):=by rw [IntWalk.i64_in _ (by omega)];omega
   have F:((i+pat.length:Nat):Int)≤(xs.length:Int):=by omega
   clear a j p h f g
   go_enter Tryz.func216,Tryz.ntmps216
   go_wp2_with fail
   go_ret
   exact ⟨by rw [d.out];rfl,rfl⟩
 · have a:hasP xs i pat=false:=by unfold hasP;rw [decide_eq_false k];rfl
   have s:IntKind.i64.wrap ((i:Int)+(pat.length:Int))=((i+pat.length:Nat):Int):=by rw [IntWalk.i64_in _ (by omega)];omega
   have d:=LH a
   have t:decide (((i+pat.length:Nat):Int)≤(xs.length:Int))=false:=by rw [decide_eq_false_iff_not];omega
   clear a h f g
   go_enter Tryz.func216,Tryz.ntmps216
   go_wp2_with fail
   go_ret
   exact ⟨by rw [d.out];rfl,rfl⟩
def blankB (x:Nat):Bool:=x == 32 || x == 9 || x == 10 || x == 13
def plainAt (xs:List Nat) (i:Nat):Bool:=!hasP xs i [47,42] && !hasP xs i [47,47] && !hasP xs i [37,123] && (xs.getD i 0 != 60) && (xs.getD i 0 != 123)
theorem rf_skip7 (A:Option Addr) (n c i:Nat) (xs:List Nat) (w:World) (h:Nums .u8 w A n c xs) (a:∀ x ∈ xs,x < 256) (k:n≤100000) (hi:i < n) (l:plainAt xs i=true) :
 Calls Tryz.prog 185 #[.slice A n c, .int .i64 (i:Int)] w fun e w'=>e = .returned (.tuple #[.int .i64 ((if blankB (xs.getD i 0) then i+1 else i:Nat):Int), .bool (blankB (xs.getD i 0))])∧w=w':=by
 obtain rfl:=h.len
 have G:=h.cap
 unfold plainAt at l
 simp only [Bool.and_eq_true,Bool.not_eq_true',bne_iff_ne,ne_eq] at l
 obtain ⟨⟨⟨⟨o,p⟩,q⟩,v⟩,y⟩:=l
 have c1:=rf_has7 A xs.length c i xs [47,42] w h a (by decide) k (by omega) (by decide)
 have c2:=rf_has7 A xs.length c i xs [47,47] w h a (by decide) k (by omega) (by decide)
 have c3:=rf_has7 A xs.length c i xs [37,123] w h a (by decide) k (by omega) (by decide)
 rw [o] at c1
 rw [p] at c2
 rw [q] at c3
 rw [show str [47,42]=⟨#[47,42]⟩ from rfl] at c1
 rw [show str [47,47]=⟨#[47,47]⟩ from rfl] at c2
 rw [show str [37,123]=⟨#[37,123]⟩ from rfl] at c3
 obtain ⟨b,H,x,rfl,E,Hx,F⟩:=h.get hi
 have r:xs.getD i 0=x:=by rw [List.getD_eq_getElem?_getD,Hx.out];rfl
 rw [r] at v y ⊢
 have s:=LH c1
 have t:=LH c2
 have u:=LH c3
 clear c1 c2 c3 o p q h a r
 have B:((x:Int) == 60)=false:=by rw [beq_eq_false_iff_ne];omega
 have D:((x:Int) == 123)=false:=by rw [beq_eq_false_iff_ne];omega
 have z:x=32∨x=9∨x=10∨x=13∨(((x:Int) == 32)=false∧((x:Int) == 9)=false∧((x:Int) == 10)=false∧((x:Int) == 13)=false∧blankB x=false):=by
  by_cases d:x=32
  · exact .inl d
  · by_cases f:x=9
    · exact .inr (.inl f)
    · by_cases g:x=10
      · exact .inr (.inr (.inl g))
      · by_cases j:x=13
        · exact .inr (.inr (.inr (.inl j)))
        · refine .inr (.inr (.inr (.inr ⟨?_,?_,?_,?_,by simp [blankB,d,f,g,j]⟩))) <;> (rw [beq_eq_false_iff_ne];omega)
 rcases z with rfl | rfl | rfl | rfl | ⟨d,f,g,j,m⟩
 all_goals
  first
   | rw [m,if_neg Bool.false_ne_true]
   | rw [show blankB 32=true from rfl,if_pos rfl]
   | rw [show blankB 9=true from rfl,if_pos rfl]
   | rw [show blankB 10=true from rfl,if_pos rfl]
   | rw [show blankB 13=true from rfl,if_pos rfl]
  go_enter Tryz.func185,Tryz.ntmps185
  go_wp2_with (first
   | (go_at_call 216;(with_reducible refine s.out.mono ?_);rintro e I ⟨rfl,rfl⟩)
   | (go_at_call 216;(with_reducible refine t.out.mono ?_);rintro e J ⟨rfl,rfl⟩)
   | (go_at_call 216;(with_reducible refine u.out.mono ?_);rintro e L ⟨rfl,rfl⟩))
  refine bodyPost_ret (results_tmp2 rfl _ _ _) rfl ?_
  exact ⟨by first | rfl | (simp [blankB];done) | (simp [m];done),rfl⟩
def markP (x:Nat):Int:=if x=58 then 10 else if x=124 then 11 else if x=59 then 12 else 0
theorem rf_mark7 (x:Nat) (w:World):Calls Tryz.prog 223 #[.int .u8 (x:Int)] w fun e w'=>e = .returned (.int .i64 (markP x))∧w=w':=by
 have f:x=58∨x=124∨x=59∨(((x:Int) == 58)=false∧((x:Int) == 124)=false∧((x:Int) == 59)=false∧markP x=0):=by
  by_cases a:x=58
  · exact .inl a
  · by_cases b:x=124
    · exact .inr (.inl b)
    · by_cases c:x=59
      · exact .inr (.inr (.inl c))
      · refine .inr (.inr (.inr ⟨?_,?_,?_,by simp [markP,a,b,c]⟩)) <;> (rw [beq_eq_false_iff_ne];omega)
 rcases f with rfl | rfl | rfl | ⟨a,b,c,d⟩
 all_goals
  first
   | rw [d]
   | rw [show markP 58=10 from rfl]
   | rw [show markP 124=11 from rfl]
   | rw [show markP 59=12 from rfl]
  go_enter Tryz.func223,Tryz.ntmps223
  go_wp2_with fail
  go_ret
  exact ⟨rfl,rfl⟩
theorem results_cell2 {P:Program} {a:Func} {p u v:Tmp} {ty:TypeId} (h:a.results=#[.cell p ty, .tmp u, .tmp v]) (tmps:Array Value) (w:World) (g:Nat) (t:TypeId) (cs:Array Value) (b:Nat × Nat) (d:TypeDesc)
 (f:tmps.getD p undef = .pointer (some ⟨g,0,none⟩)) (c:w.heap[g]? = some (.cells cs t b))
 (k:P.underlying ty=some d) (hd:(match d with | .struct _ | .array _ _=>true | _=>false)=true) (hi:(P.info? ty).map (·.size)=some cs.size) :
 (results a tmps).run P w = .ok (.tuple #[.agg cs,tmps.getD u undef,tmps.getD v undef]) w:=by
 have j:tmps[p]?.getD undef = .pointer (some ⟨g,0,none⟩):=by simpa using f
 simp [results,h,j,asAddr,run_loadVar_row w g t ty cs b d c k hd hi]
abbrev TokV (a:Int) (b:List Nat) (at_:Value):Value := .agg #[.int .i64 a, .string (str b),at_]
theorem rf_one_mark (A:Option Addr) (n c i:Nat) (xs:List Nat) (w:World) (h:Nums .u8 w A n c xs) (j:∀ x ∈ xs,x < 256) (z:n≤100000) (hi:i < n) (d:letterB (xs.getD i 0)=false) (o:xs.getD i 0 ≠ 39) (q:hasP xs i [37,37]=false) (r:xs.getD i 0 ≠ 37) (f:markP (xs.getD i 0) ≠ 0) :
 Calls Tryz.prog 187 #[.slice A n c, .int .i64 (i:Int)] w fun e w'=>e = .returned (.tuple #[TokV (markP (xs.getD i 0)) [] (atP xs i), .int .i64 ((i+1:Nat):Int), .int .i64 0])∧Below w.heap.size w w':=by
 obtain rfl:=h.len
 have R:=h.cap
 obtain ⟨b,D,x,rfl,N,Hx,O⟩:=h.get hi
 have B:xs.getD i 0=x:=by rw [List.getD_eq_getElem?_getD,Hx.out];rfl
 rw [B] at d o r f ⊢
 have H:=LH h
 have CT:=LH fun W (g:Below w.heap.size w W)=>ref_at (some ⟨b,D,none⟩) xs.length c xs (i:Int) W (h.below g) z
 have CH:=LH fun W (g:Below w.heap.size w W)=>(rf_has7 (some ⟨b,D,none⟩) xs.length c i xs [37,37] W (h.below g) j (by decide) z (by omega) (by decide))
 rw [q,show str [37,37]=⟨#[37,37]⟩ from rfl] at CH
 have I:x < 256:=j x (List.mem_of_getElem? Hx.out)
 have l:=LH fun W=>lx_first x W I
 rw [d] at l
 have E:=LH fun W=>rf_mark7 x W
 obtain ⟨F,G,t⟩:∃ a b,atP xs (i:Int) = .complex .f64 a b:=by
  unfold atP PV
  split
  · exact ⟨_,_,rfl⟩
  · exact ⟨_,_,rfl⟩
 rw [t] at CT ⊢
 have J:((x:Int) == 39)=false:=by rw [beq_eq_false_iff_ne];omega
 have L:((x:Int) == 37)=false:=by rw [beq_eq_false_iff_ne];omega
 have M:(markP x == 0)=false:=by rw [beq_eq_false_iff_ne];exact f
 generalize markP x=mk at *
 clear h j d o q r f B t
 have s:=alloc_below w (.cells #[.int .i64 0, .string ⟨#[]⟩, .complex .f64 0 0] 231)
 have S:∀ (w:World) (a:Addr) (k:FloatKind) (x y:Nat) (m:Mode),(store a (.complex k x y) m).run Tryz.prog w=stored Tryz.prog w a (.complex k x y) m:=fun w a k x y m=>run_store Tryz.prog w a _ m rfl
 go_enter Tryz.func187,Tryz.ntmps187
 go_wp2_with (first
  | (go_at_call 186;(with_reducible refine (CT.out _ s).mono ?_);rintro e T ⟨rfl,rfl⟩)
  | (go_at_call 173;(with_reducible refine (l.out _).mono ?_);rintro e U ⟨rfl,rfl⟩)
  | (go_at_call 216;(with_reducible refine (CH.out _ (below_alloc s _)).mono ?_);rintro e V ⟨rfl,rfl⟩)
  | (go_at_call 223;(with_reducible refine (E.out _).mono ?_);rintro e X ⟨rfl,rfl⟩))
 refine bodyPost_ret (results_cell2 (p:=4) (u:=5) (v:=6) (by kernel_rfl) _ _ w.heap.size 231 #[.int .i64 mk, .string ⟨#[]⟩, .complex .f64 F G] (0,0) _ rfl (Blk.ext (Blk.new w _ _) (alloc_below _ _)) Tryz.underlying231 rfl (by kernel_rfl)) rfl ?_
 exact ⟨rfl,below_alloc (alloc_below _ _) _⟩
theorem rf_one_cut (A:Option Addr) (n c i:Nat) (xs:List Nat) (w:World) (h:Nums .u8 w A n c xs) (g:∀ x ∈ xs,x < 256) (s:n≤100000) (hi:i < n) (d:letterB (xs.getD i 0)=false) (l:xs.getD i 0 ≠ 39) (o:hasP xs i [37,37]=true) :
 Calls Tryz.prog 187 #[.slice A n c, .int .i64 (i:Int)] w fun e w'=>e = .returned (.tuple #[TokV 9 [] (atP xs i), .int .i64 ((i+2:Nat):Int), .int .i64 0])∧Below w.heap.size w w':=by
 obtain rfl:=h.len
 have J:=h.cap
 obtain ⟨b,z,x,rfl,G,Hx,I⟩:=h.get hi
 have t:xs.getD i 0=x:=by rw [List.getD_eq_getElem?_getD,Hx.out];rfl
 rw [t] at d l
 have H:=LH h
 have CT:=LH fun W (f:Below w.heap.size w W)=>ref_at (some ⟨b,z,none⟩) xs.length c xs (i:Int) W (h.below f) s
 have CH:=LH fun W (f:Below w.heap.size w W)=>(rf_has7 (some ⟨b,z,none⟩) xs.length c i xs [37,37] W (h.below f) g (by decide) s (by omega) (by decide))
 rw [o,show str [37,37]=⟨#[37,37]⟩ from rfl] at CH
 have E:x < 256:=g x (List.mem_of_getElem? Hx.out)
 have j:=LH fun W=>lx_first x W E
 rw [d] at j
 obtain ⟨B,D,r⟩:∃ a b,atP xs (i:Int) = .complex .f64 a b:=by
  unfold atP PV
  split
  · exact ⟨_,_,rfl⟩
  · exact ⟨_,_,rfl⟩
 rw [r] at CT ⊢
 have F:((x:Int) == 39)=false:=by rw [beq_eq_false_iff_ne];omega
 clear h g d l o t r
 have q:=alloc_below w (.cells #[.int .i64 0, .string ⟨#[]⟩, .complex .f64 0 0] 231)
 have L:∀ (w:World) (a:Addr) (k:FloatKind) (x y:Nat) (m:Mode),(store a (.complex k x y) m).run Tryz.prog w=stored Tryz.prog w a (.complex k x y) m:=fun w a k x y m=>run_store Tryz.prog w a _ m rfl
 go_enter Tryz.func187,Tryz.ntmps187
 go_wp2_with (first
  | (go_at_call 186;(with_reducible refine (CT.out _ q).mono ?_);rintro e M ⟨rfl,rfl⟩)
  | (go_at_call 173;(with_reducible refine (j.out _).mono ?_);rintro e N ⟨rfl,rfl⟩)
  | (go_at_call 216;(with_reducible refine (CH.out _ (below_alloc q _)).mono ?_);rintro e O ⟨rfl,rfl⟩))
 refine bodyPost_ret (results_cell2 (p:=4) (u:=5) (v:=6) (by kernel_rfl) _ _ w.heap.size 231 #[.int .i64 9, .string ⟨#[]⟩, .complex .f64 B D] (0,0) _ rfl (Blk.ext (Blk.new w _ _) (alloc_below _ _)) Tryz.underlying231 rfl (by kernel_rfl)) rfl ?_
 exact ⟨rfl,below_alloc (alloc_below _ _) _⟩
theorem rf_one_name (A:Option Addr) (n c i f:Nat) (xs:List Nat) (w:World) (h:Nums .u8 w A n c xs) (I:∀ x ∈ xs,x < 256) (hn:n≤100000) (hi:i < n) (G:letterB (xs.getD i 0)=true) (ao:i < f) (ap:f≤n) (aq:f≤i+20)
 (S:∀ k,i < k→k < f→innerB (xs.getD k 0)=true) (T:f < n→innerB (xs.getD f 0)=false) :
 Calls Tryz.prog 187 #[.slice A n c, .int .i64 (i:Int)] w fun e w'=>e = .returned (.tuple #[TokV 1 ((xs.drop i).take (f - i)) (atP xs i), .int .i64 (f:Int), .int .i64 0])∧Below w.heap.size w w':=by
 obtain rfl:=h.len
 have an:=h.cap
 obtain ⟨b,E,x,rfl,al,Hx,hc⟩:=h.get hi
 have U:xs.getD i 0=x:=by rw [List.getD_eq_getElem?_getD,Hx.out];rfl
 rw [U] at G
 have H:=LH h
 have CT:=LH fun W (z:Below w.heap.size w W)=>ref_at (some ⟨b,E,none⟩) xs.length c xs (i:Int) W (h.below z) hn
 have aj:x < 256:=I x (List.mem_of_getElem? Hx.out)
 have N:=LH fun W=>lx_first x W aj
 rw [G] at N
 obtain ⟨o,q,R⟩:∃ a b,atP xs (i:Int) = .complex .f64 a b:=by
  unfold atP PV
  split
  · exact ⟨_,_,rfl⟩
  · exact ⟨_,_,rfl⟩
 rw [R] at CT ⊢
 have O:=LH I
 have X:=LH S
 have Y:=LH T
 clear h I G U R S T
 have r:=alloc_below w (.cells #[.int .i64 0, .string ⟨#[]⟩, .complex .f64 0 0] 231)
 have au:∀ (w:World) (a:Addr) (k:FloatKind) (x y:Nat) (m:Mode),(store a (.complex k x y) m).run Tryz.prog w=stored Tryz.prog w a (.complex k x y) m:=fun w a k x y m=>run_store Tryz.prog w a _ m rfl
 go_enter Tryz.func187,Tryz.ntmps187
 go_wp2_with (first
  | (go_at_call 186;(with_reducible refine (CT.out _ r).mono ?_);rintro e w2 ⟨rfl,rfl⟩)
  | (go_at_call 173;(with_reducible refine (N.out _).mono ?_);rintro e V ⟨rfl,rfl⟩))
 go_loop [9] (fun v=>∃ (k:Nat),i < k∧k≤f∧v = .int .i64 (k:Int)) (fun v=>xs.length - (intOf v).toNat)
 case atStart=>exact ⟨i+1,by omega,by omega,by go_num⟩
 case round =>
  obtain ⟨k,ab,ar,rfl⟩:=hrel
  by_cases ad:k < f
  · obtain ⟨Z,ak,y,g,_,t,aa⟩:=H.out.get (j:=k) (by omega)
    injection g with g
    injection g with g e3
    subst g e3
    have D:xs.getD k 0=y:=by rw [List.getD_eq_getElem?_getD,t.out];rfl
    have d:=X.out k ab ad
    rw [D] at d
    have s:=LH fun W=>lx_later y W (O.out y (List.mem_of_getElem? t.out))
    rw [d] at s
    have J:k < xs.length:=by omega
    clear d D
    go_wp2_with (go_at_call 174;(with_reducible refine (s.out _).mono ?_);rintro e V ⟨rfl,rfl⟩)
    go_round
    case rel=>exact ⟨k+1,by omega,by omega,by go_num⟩
    case measure=>simp [intOf];omega
  · obtain rfl:k=f:=by omega
    by_cases J:k < xs.length
    · obtain ⟨Z,ak,y,g,_,t,aa⟩:=H.out.get (j:=k) J
      injection g with g
      injection g with g e3
      subst g e3
      have D:xs.getD k 0=y:=by rw [List.getD_eq_getElem?_getD,t.out];rfl
      have d:=Y.out J
      rw [D] at d
      have s:=LH fun W=>lx_later y W (O.out y (List.mem_of_getElem? t.out))
      rw [d] at s
      clear d D
      go_wp2_with (go_at_call 174;(with_reducible refine (s.out _).mono ?_);rintro e V ⟨rfl,rfl⟩)
      have l:∀ W,Below w.heap.size w W→(convert 72 9 (.slice (some ⟨b,E+i,none⟩) (k - i) (c - i))).run Tryz.prog W = .ok (.string (str ((xs.drop i).take (k - i)))) W:=fun W z=>by
       have L:=(H.out.below z).part i (k - i) (c - i) (by omega) (by omega) (by omega)
       have d:((xs.drop i).take (k - i)).length=k - i:=by rw [List.length_take,List.length_drop];omega
       have:=run_bytes_str (P:=Tryz.prog) W 72 5 9 Tryz.underlying72 Tryz.underlying5 Tryz.underlying9 (some ⟨b,E+i,none⟩) (c - i) _ (by rw [d];exact L)
       rwa [d] at this
      have af:=l _ (below_alloc r (.cells #[.int .i64 0, .string ⟨#[]⟩, .complex .f64 o q] 231))
      have ag:=l _ (below_alloc r (.cells #[.int .i64 0, .string ⟨#[]⟩, .complex .f64 o q] 231)).drew
      have ah:=l _ (below_alloc r (.cells #[.int .i64 1, .string ⟨#[]⟩, .complex .f64 o q] 231))
      have ai:=l _ (below_alloc r (.cells #[.int .i64 1, .string ⟨#[]⟩, .complex .f64 o q] 231)).drew
      generalize B:str ((xs.drop i).take (k - i))=M at *
      have F:=LH B
      clear l B
      go_region_with (fail)
      all_goals
       go_wp2_with fail
       refine bodyPost_ret (results_cell2 (p:=4) (u:=5) (v:=6) (by kernel_rfl) _ _ w.heap.size 231 #[.int .i64 1, .string M, .complex .f64 o q] (0,0) _ rfl (Blk.drew (Blk.ext (Blk.new w _ _) (alloc_below _ _))) Tryz.underlying231 rfl (by kernel_rfl)) rfl ?_
       exact ⟨by unfold TokV;rw [F.out];rfl,(below_alloc (alloc_below _ _) _).drew⟩
    · go_wp2_with fail
      have l:∀ W,Below w.heap.size w W→(convert 72 9 (.slice (some ⟨b,E+i,none⟩) (k - i) (c - i))).run Tryz.prog W = .ok (.string (str ((xs.drop i).take (k - i)))) W:=fun W z=>by
       have L:=(H.out.below z).part i (k - i) (c - i) (by omega) (by omega) (by omega)
       have d:((xs.drop i).take (k - i)).length=k - i:=by rw [List.length_take,List.length_drop];omega
       have:=run_bytes_str (P:=Tryz.prog) W 72 5 9 Tryz.underlying72 Tryz.underlying5 Tryz.underlying9 (some ⟨b,E+i,none⟩) (c - i) _ (by rw [d];exact L)
       rwa [d] at this
      have af:=l _ (below_alloc r (.cells #[.int .i64 0, .string ⟨#[]⟩, .complex .f64 o q] 231))
      have ag:=l _ (below_alloc r (.cells #[.int .i64 0, .string ⟨#[]⟩, .complex .f64 o q] 231)).drew
      have ah:=l _ (below_alloc r (.cells #[.int .i64 1, .string ⟨#[]⟩, .complex .f64 o q] 231))
      have ai:=l _ (below_alloc r (.cells #[.int .i64 1, .string ⟨#[]⟩, .complex .f64 o q] 231)).drew
      generalize B:str ((xs.drop i).take (k - i))=M at *
      have F:=LH B
      clear l B
      go_region_with (fail)
      all_goals
       go_wp2_with fail
       refine bodyPost_ret (results_cell2 (p:=4) (u:=5) (v:=6) (by kernel_rfl) _ _ w.heap.size 231 #[.int .i64 1, .string M, .complex .f64 o q] (0,0) _ rfl (Blk.drew (Blk.ext (Blk.new w _ _) (alloc_below _ _))) Tryz.underlying231 rfl (by kernel_rfl)) rfl ?_
       exact ⟨by unfold TokV;rw [F.out];rfl,(below_alloc (alloc_below _ _) _).drew⟩
theorem rf_one_lit (A:Option Addr) (n c i:Nat) (xs:List Nat) (w:World) (h:Nums .u8 w A n c xs) (q:∀ x ∈ xs,x < 256) (N:n≤100000) (hi:i+3≤n) (z:xs.getD i 0=39) (B:litB ((xs.drop i).take 3)=true) :
 Calls Tryz.prog 187 #[.slice A n c, .int .i64 (i:Int)] w fun e w'=>e = .returned (.tuple #[TokV 2 ((xs.drop i).take 3) (atP xs i), .int .i64 ((i+3:Nat):Int), .int .i64 0])∧Below w.heap.size w w':=by
 obtain rfl:=h.len
 have Y:=h.cap
 obtain ⟨b,r,x,rfl,V,Hx,X⟩:=h.get (j:=i) (by omega)
 have I:xs.getD i 0=x:=by rw [List.getD_eq_getElem?_getD,Hx.out];rfl
 obtain rfl:39=x:=by rw [← I,z]
 have t:letterB 39=false:=by decide
 have H:=LH h
 have CT:=LH fun W (o:Below w.heap.size w W)=>ref_at (some ⟨b,r,none⟩) xs.length c xs (i:Int) W (h.below o) N
 have J:Hid (∀ W,Calls Tryz.prog 173 #[.int .u8 39] W fun e w'=>e = .returned (.bool false)∧W=w'):=LH fun W=>by
  have:=lx_first 39 W (by decide)
  rwa [t] at this
 obtain ⟨d,f,D⟩:∃ a b,atP xs (i:Int) = .complex .f64 a b:=by
  unfold atP PV
  split
  · exact ⟨_,_,rfl⟩
  · exact ⟨_,_,rfl⟩
 rw [D] at CT ⊢
 have U:=LH q
 have E:∀ y ∈ (xs.drop i).take 3,y < 256:=fun y R=>q y (List.mem_of_mem_drop (List.mem_of_mem_take R))
 have s:∀ W,Calls Tryz.prog 172 #[.string (str ((xs.drop i).take 3))] W fun e w'=>e = .returned (.bool true)∧W=w':=fun W=>by
  have:=ref_Literal (str ((xs.drop i).take 3)) W
  rwa [bytesOf_str _ E,B] at this
 have L:=LH s
 clear h q t z B I D E s
 have g:=alloc_below w (.cells #[.int .i64 0, .string ⟨#[]⟩, .complex .f64 0 0] 231)
 have ae:∀ (w:World) (a:Addr) (k:FloatKind) (x y:Nat) (m:Mode),(store a (.complex k x y) m).run Tryz.prog w=stored Tryz.prog w a (.complex k x y) m:=fun w a k x y m=>run_store Tryz.prog w a _ m rfl
 go_enter Tryz.func187,Tryz.ntmps187
 go_wp2_with (first
  | (go_at_call 186;(with_reducible refine (CT.out _ g).mono ?_);rintro e w2 ⟨rfl,rfl⟩)
  | (go_at_call 173;(with_reducible refine (J.out _).mono ?_);rintro e T ⟨rfl,rfl⟩))
 have l:∀ W,Below w.heap.size w W→(convert 72 9 (.slice (some ⟨b,r+i,none⟩) 3 (c - i))).run Tryz.prog W = .ok (.string (str ((xs.drop i).take 3))) W:=fun W o=>by
  have O:=(H.out.below o).part i 3 (c - i) (by omega) (by omega) (by omega)
  have F:((xs.drop i).take 3).length=3:=by rw [List.length_take,List.length_drop];omega
  have:=run_bytes_str (P:=Tryz.prog) W 72 5 9 Tryz.underlying72 Tryz.underlying5 Tryz.underlying9 (some ⟨b,r+i,none⟩) (c - i) _ (by rw [F];exact O)
  rwa [F] at this
 have Z:=l _ (below_alloc g (.cells #[.int .i64 0, .string ⟨#[]⟩, .complex .f64 d f] 231))
 have aa:=l _ (below_alloc g (.cells #[.int .i64 0, .string ⟨#[]⟩, .complex .f64 d f] 231)).drew
 have ab:=l _ (below_alloc g (.cells #[.int .i64 2, .string ⟨#[]⟩, .complex .f64 d f] 231))
 have ad:=l _ (below_alloc g (.cells #[.int .i64 2, .string ⟨#[]⟩, .complex .f64 d f] 231)).drew
 generalize G:str ((xs.drop i).take 3)=S at *
 have M:=LH G
 have s2:IntKind.i64.wrap ((i:Int)+3)=(i:Int)+3:=IntWalk.i64_in _ (by omega)
 have s3:(i:Int)+3≤(xs.length:Int):=by omega
 have s4:((i:Int)+3).toNat=i+3:=by omega
 have s5:(0:Int)≤(i:Int)+3:=by omega
 have s6:(i:Int)≤(i:Int)+3:=by omega
 have s7:i+3 - i=3:=by omega
 have s8:(i:Int)+3≤(c:Int):=by omega
 clear l G
 go_loop [10] (fun v=>v = .int .i64 3) (fun _=>0)
 case atStart=>rfl
 case round =>
  subst hrel
  go_wp2_with (go_at_call 172;(with_reducible refine (L.out _).mono ?_);rintro e T ⟨rfl,rfl⟩)
  go_region_with (fail)
  all_goals
   go_wp2_with fail
   refine bodyPost_ret (results_cell2 (p:=4) (u:=5) (v:=6) (by kernel_rfl) _ _ w.heap.size 231 #[.int .i64 2, .string S, .complex .f64 d f] (0,0) _ rfl (Blk.drew (Blk.ext (Blk.new w _ _) (alloc_below _ _))) Tryz.underlying231 rfl (by kernel_rfl)) rfl ?_
   exact ⟨by unfold TokV;rw [M.out];rfl,(below_alloc (alloc_below _ _) _).drew⟩
def percentP (xs:List Nat):Int :=
 if xs=[116,111,107,101,110] then 3 else if xs=[108,101,102,116] then 4 else if xs=[114,105,103,104,116] then 5 else if xs=[110,111,110,97,115,115,111,99] then 6
 else if xs=[115,116,97,114,116] then 7 else if xs=[112,114,101,99] then 8 else 0
theorem str_eqB {xs pat:List Nat} (d:∀ x ∈ xs,x < 256) (c:∀ x ∈ pat,x < 256):((str xs).toList == (str pat).toList)=decide (xs=pat):=by
 rw [Bool.eq_iff_iff,beq_iff_eq,decide_eq_true_iff]
 constructor
 · intro h
   have a:str xs=str pat:=by
    have:=toList_beq (str xs) (str pat)
    rw [h,beq_self_eq_true] at this
    simpa using this.symm
   have b:=congrArg bytesOf a
   rwa [bytesOf_str _ d,bytesOf_str _ c] at b
 · intro h;rw [h]
theorem rf_percent (xs:List Nat) (w:World) (g:∀ x ∈ xs,x < 256):Calls Tryz.prog 222 #[.string (str xs)] w fun e w'=>e = .returned (.int .i64 (percentP xs))∧w=w':=by
 have q:=str_eqB g (pat:=[116,111,107,101,110]) (by decide)
 have s:=str_eqB g (pat:=[108,101,102,116]) (by decide)
 have t:=str_eqB g (pat:=[114,105,103,104,116]) (by decide)
 have u:=str_eqB g (pat:=[110,111,110,97,115,115,111,99]) (by decide)
 have v:=str_eqB g (pat:=[115,116,97,114,116]) (by decide)
 have y:=str_eqB g (pat:=[112,114,101,99]) (by decide)
 have k:(str [116,111,107,101,110]).toList=[116,111,107,101,110]:=by kernel_rfl
 have l:(str [108,101,102,116]).toList=[108,101,102,116]:=by kernel_rfl
 have m:(str [114,105,103,104,116]).toList=[114,105,103,104,116]:=by kernel_rfl
 have n:(str [110,111,110,97,115,115,111,99]).toList=[110,111,110,97,115,115,111,99]:=by kernel_rfl
 have o:(str [115,116,97,114,116]).toList=[115,116,97,114,116]:=by kernel_rfl
 have p:(str [112,114,101,99]).toList=[112,114,101,99]:=by kernel_rfl
 rw [k] at q
 rw [l] at s
 rw [m] at t
 rw [n] at u
 rw [o] at v
 rw [p] at y
 have d:Hid (percentP xs=if xs=[116,111,107,101,110] then 3 else if xs=[108,101,102,116] then 4 else if xs=[114,105,103,104,116] then 5 else if xs=[110,111,110,97,115,115,111,99] then 6 else if xs=[115,116,97,114,116] then 7 else if xs=[112,114,101,99] then 8 else 0):=LH rfl
 generalize percentP xs=r at *
 clear k l m n o p g
 generalize (str xs)=z at *
 rcases (by
  by_cases a:xs=[116,111,107,101,110]
  · exact .inl ⟨decide_eq_true a,by rw [d.out,if_pos a]⟩
  by_cases b:xs=[108,101,102,116]
  · exact .inr (.inl ⟨decide_eq_false a,decide_eq_true b,by rw [d.out,if_neg a,if_pos b]⟩)
  by_cases c:xs=[114,105,103,104,116]
  · exact .inr (.inr (.inl ⟨decide_eq_false a,decide_eq_false b,decide_eq_true c,by rw [d.out,if_neg a,if_neg b,if_pos c]⟩))
  by_cases f:xs=[110,111,110,97,115,115,111,99]
  · exact .inr (.inr (.inr (.inl ⟨decide_eq_false a,decide_eq_false b,decide_eq_false c,decide_eq_true f,by rw [d.out,if_neg a,if_neg b,if_neg c,if_pos f]⟩)))
  by_cases h:xs=[115,116,97,114,116]
  · exact .inr (.inr (.inr (.inr (.inl ⟨decide_eq_false a,decide_eq_false b,decide_eq_false c,decide_eq_false f,decide_eq_true h,by rw [d.out,if_neg a,if_neg b,if_neg c,if_neg f,if_pos h]⟩))))
  by_cases j:xs=[112,114,101,99]
  · exact .inr (.inr (.inr (.inr (.inr (.inl ⟨decide_eq_false a,decide_eq_false b,decide_eq_false c,decide_eq_false f,decide_eq_false h,decide_eq_true j,by rw [d.out,if_neg a,if_neg b,if_neg c,if_neg f,if_neg h,if_pos j]⟩)))))
  · exact .inr (.inr (.inr (.inr (.inr (.inr ⟨decide_eq_false a,decide_eq_false b,decide_eq_false c,decide_eq_false f,decide_eq_false h,decide_eq_false j,by rw [d.out,if_neg a,if_neg b,if_neg c,if_neg f,if_neg h,if_neg j]⟩))))) :
  (decide (xs=[116,111,107,101,110])=true∧r=3)∨(decide (xs=[116,111,107,101,110])=false∧decide (xs=[108,101,102,116])=true∧r=4) ∨
  (decide (xs=[116,111,107,101,110])=false∧decide (xs=[108,101,102,116])=false∧decide (xs=[114,105,103,104,116])=true∧r=5) ∨
  (decide (xs=[116,111,107,101,110])=false∧decide (xs=[108,101,102,116])=false∧decide (xs=[114,105,103,104,116])=false∧decide (xs=[110,111,110,97,115,115,111,99])=true∧r=6) ∨
  (decide (xs=[116,111,107,101,110])=false∧decide (xs=[108,101,102,116])=false∧decide (xs=[114,105,103,104,116])=false∧decide (xs=[110,111,110,97,115,115,111,99])=false∧decide (xs=[115,116,97,114,116])=true∧r=7) ∨
  (decide (xs=[116,111,107,101,110])=false∧decide (xs=[108,101,102,116])=false∧decide (xs=[114,105,103,104,116])=false∧decide (xs=[110,111,110,97,115,115,111,99])=false∧decide (xs=[115,116,97,114,116])=false∧decide (xs=[112,114,101,99])=true∧r=8) ∨
  (decide (xs=[116,111,107,101,110])=false∧decide (xs=[108,101,102,116])=false∧decide (xs=[114,105,103,104,116])=false∧decide (xs=[110,111,110,97,115,115,111,99])=false∧decide (xs=[115,116,97,114,116])=false∧decide (xs=[112,114,101,99])=false∧r=0)) with
  ⟨k1,rfl⟩ | ⟨k1,k2,rfl⟩ | ⟨k1,k2,k3,rfl⟩ | ⟨k1,k2,k3,k4,rfl⟩ | ⟨k1,k2,k3,k4,k5,rfl⟩ | ⟨k1,k2,k3,k4,k5,k6,rfl⟩ | ⟨k1,k2,k3,k4,k5,k6,rfl⟩
 all_goals
  (try rw [k1] at q) <;> (try rw [k2] at s) <;> (try rw [k3] at t) <;> (try rw [k4] at u) <;> (try rw [k5] at v) <;> (try rw [k6] at y)
  clear d
  go_enter Tryz.func222,Tryz.ntmps222
  go_wp2_with fail
  go_ret
  exact ⟨rfl,rfl⟩
def lowerB (x:Nat):Bool:=decide (97≤x) && decide (x≤122)
theorem lowerB_yes {x:Nat} (h:lowerB x=true):97≤x∧x≤122:=by
 unfold lowerB at h
 rw [Bool.and_eq_true,decide_eq_true_iff,decide_eq_true_iff] at h
 exact h
theorem lowerB_no {x:Nat} (h:lowerB x=false):x < 97∨(97≤x∧122 < x):=by
 unfold lowerB at h
 rw [Bool.and_eq_false_iff,decide_eq_false_iff_not,decide_eq_false_iff_not] at h
 omega
theorem rf_one_word (A:Option Addr) (n c i f:Nat) (xs:List Nat) (w:World) (h:Nums .u8 w A n c xs) (z:∀ x ∈ xs,x < 256) (T:n≤100000) (hi:i < n) (t:xs.getD i 0=37) (E:hasP xs i [37,37]=false) (ay:i < f) (az:f≤n)
 (R:∀ k,i < k→k < f→lowerB (xs.getD k 0)=true) (U:f < n→lowerB (xs.getD f 0)=false) (S:percentP ((xs.drop (i+1)).take (f - (i+1))) ≠ 0) :
 Calls Tryz.prog 187 #[.slice A n c, .int .i64 (i:Int)] w fun e w'=>e = .returned (.tuple #[TokV (percentP ((xs.drop (i+1)).take (f - (i+1)))) [] (atP xs i), .int .i64 (f:Int), .int .i64 0])∧Below w.heap.size w w':=by
 obtain rfl:=h.len
 have ax:=h.cap
 obtain ⟨b,q,x,rfl,av,Hx,hc⟩:=h.get hi
 have X:xs.getD i 0=x:=by rw [List.getD_eq_getElem?_getD,Hx.out];rfl
 rw [X] at t
 have H:=LH h
 have CT:=LH fun W (o:Below w.heap.size w W)=>ref_at (some ⟨b,q,none⟩) xs.length c xs (i:Int) W (h.below o) T
 have CH:=LH fun W (o:Below w.heap.size w W)=>(rf_has7 (some ⟨b,q,none⟩) xs.length c i xs [37,37] W (h.below o) z (by decide) T (by omega) (by decide))
 rw [E,show str [37,37]=⟨#[37,37]⟩ from rfl] at CH
 have ai:x < 256:=by omega
 have J:=LH fun W=>lx_first x W ai
 rw [show letterB x=false by rw [t];rfl] at J
 have d2:((x:Int) == 39)=false:=by rw [beq_eq_false_iff_ne];omega
 have d4:((x:Int) == 37)=true:=by rw [beq_iff_eq];omega
 obtain ⟨r,s,M⟩:∃ a b,atP xs (i:Int) = .complex .f64 a b:=by
  unfold atP PV
  split
  · exact ⟨_,_,rfl⟩
  · exact ⟨_,_,rfl⟩
 rw [M] at CT ⊢
 have V:∀ y ∈ (xs.drop (i+1)).take (f - (i+1)),y < 256:=fun y l=>z y (List.mem_of_mem_drop (List.mem_of_mem_take l))
 have B:=LH fun W=>rf_percent ((xs.drop (i+1)).take (f - (i+1))) W V
 obtain ⟨At,a1,L⟩:∃ At:Option Addr,(∀ W:World,(Instr.sliceAt 72 (.slice (some ⟨b,q,none⟩) xs.length c) (some (.int .i64 ((i:Int)+1))) (some (.int .i64 (f:Int))) none).run Tryz.prog W = .ok (.slice At (f - (i+1)) (c - (i+1))) W) ∧
  ∀ W,Below w.heap.size w W→Nums .u8 W At (f - (i+1)) (c - (i+1)) ((xs.drop (i+1)).take (f - (i+1))):=by
  refine ⟨if c=i+1 then some ⟨b,q,none⟩ else some ⟨b,q+(i+1),none⟩,fun W=>?_,fun W o=>?_⟩
  · have h1:¬ ((f:Int) < (i:Int)+1):=by omega
    have t:¬ ((c:Int) < (f:Int)):=by omega
    have E:((i:Int)+1).toNat=i+1:=by omega
    go_simp
    rw [if_pos (by omega),if_pos (by omega)]
  · by_cases N:c=i+1
    · have hz:f - (i+1)=0:=by omega
      rw [if_pos N,hz,List.take_zero]
      exact Nums.nil _ _ _ _ (by omega)
    · rw [if_neg N]
      exact (h.below o).part (i+1) (f - (i+1)) (c - (i+1)) (by omega) (by omega) (by omega)
 have O:∀ W,Below w.heap.size w W→(convert 72 9 (.slice At (f - (i+1)) (c - (i+1)))).run Tryz.prog W = .ok (.string (str ((xs.drop (i+1)).take (f - (i+1))))) W:=fun W o=>by
  have g:((xs.drop (i+1)).take (f - (i+1))).length=f - (i+1):=by rw [List.length_take,List.length_drop];omega
  have:=run_bytes_str (P:=Tryz.prog) W 72 5 9 Tryz.underlying72 Tryz.underlying5 Tryz.underlying9 At (c - (i+1)) _ (by rw [g];exact L W o)
  rwa [g] at this
 clear L
 have d5:(percentP ((xs.drop (i+1)).take (f - (i+1))) == 0)=false:=by rw [beq_eq_false_iff_ne];exact S
 generalize percentP ((xs.drop (i+1)).take (f - (i+1)))=mk at *
 generalize str ((xs.drop (i+1)).take (f - (i+1)))=tx at *
 have Hb:=LH z
 have ab:=LH R
 have ad:=LH U
 have aa:=LH O
 clear h z t E X M R U V S O
 have F:=alloc_below w (.cells #[.int .i64 0, .string ⟨#[]⟩, .complex .f64 0 0] 231)
 have a2:∀ (w:World) (a:Addr) (k:FloatKind) (x y:Nat) (m:Mode),(store a (.complex k x y) m).run Tryz.prog w=stored Tryz.prog w a (.complex k x y) m:=fun w a k x y m=>run_store Tryz.prog w a _ m rfl
 go_enter Tryz.func187,Tryz.ntmps187
 go_wp2_with (first
  | (go_at_call 186;(with_reducible refine (CT.out _ F).mono ?_);rintro e w2 ⟨rfl,rfl⟩)
  | (go_at_call 173;(with_reducible refine (J.out _).mono ?_);rintro e I ⟨rfl,rfl⟩)
  | (go_at_call 216;(with_reducible refine (CH.out _ (below_alloc F _)).mono ?_);rintro e w4 ⟨rfl,rfl⟩))
 go_loop [9] (fun v=>∃ (k:Nat),i < k∧k≤f∧v = .int .i64 (k:Int)) (fun v=>xs.length - (intOf v).toNat)
 case atStart=>exact ⟨i+1,by omega,by omega,by go_num⟩
 case round =>
  obtain ⟨k,ag,a0,rfl⟩:=hrel
  by_cases ah:k < f
  · obtain ⟨b2,ak,y,d,_,D,af⟩:=H.out.get (j:=k) (by omega)
    injection d with d
    injection d with d e3
    subst d e3
    have l:xs.getD k 0=y:=by rw [List.getD_eq_getElem?_getD,D.out];rfl
    have g:=ab.out k ag ah
    rw [l] at g
    obtain ⟨Z,y2⟩:=lowerB_yes g
    have Y:(97:Int)≤(y:Int):=by omega
    have q2:(y:Int)≤122:=by omega
    have G:k < xs.length:=by omega
    clear g l
    go_wp2_with fail
    go_round
    case rel=>exact ⟨k+1,by omega,by omega,by go_num⟩
    case measure=>simp [intOf];omega
  · obtain rfl:k=f:=by omega
    have hX:=aa.out _ (below_alloc F (.cells #[.int .i64 0, .string ⟨#[]⟩, .complex .f64 r s] 231))
    by_cases G:k < xs.length
    · obtain ⟨b2,ak,y,d,_,D,af⟩:=H.out.get (j:=k) G
      injection d with d
      injection d with d e3
      subst d e3
      have l:xs.getD k 0=y:=by rw [List.getD_eq_getElem?_getD,D.out];rfl
      have g:=ad.out G
      rw [l] at g
      rcases lowerB_no g with Z | ⟨Z,y2⟩
      · have Y:¬ ((97:Int)≤(y:Int)):=by omega
        clear g l
        go_wp2_with (go_at_call 222;(with_reducible refine (B.out _).mono ?_);rintro e I ⟨rfl,rfl⟩)
        refine bodyPost_ret (results_cell2 (p:=4) (u:=5) (v:=6) (by kernel_rfl) _ _ w.heap.size 231 #[.int .i64 mk, .string ⟨#[]⟩, .complex .f64 r s] (0,0) _ rfl (Blk.ext (Blk.new w _ _) (alloc_below _ _)) Tryz.underlying231 rfl (by kernel_rfl)) rfl ?_
        exact ⟨rfl,below_alloc (alloc_below _ _) _⟩
      · have Y:(97:Int)≤(y:Int):=by omega
        have q2:¬ ((y:Int)≤122):=by omega
        clear g l
        go_wp2_with (go_at_call 222;(with_reducible refine (B.out _).mono ?_);rintro e I ⟨rfl,rfl⟩)
        refine bodyPost_ret (results_cell2 (p:=4) (u:=5) (v:=6) (by kernel_rfl) _ _ w.heap.size 231 #[.int .i64 mk, .string ⟨#[]⟩, .complex .f64 r s] (0,0) _ rfl (Blk.ext (Blk.new w _ _) (alloc_below _ _)) Tryz.underlying231 rfl (by kernel_rfl)) rfl ?_
        exact ⟨rfl,below_alloc (alloc_below _ _) _⟩
    · go_wp2_with (go_at_call 222;(with_reducible refine (B.out _).mono ?_);rintro e I ⟨rfl,rfl⟩)
      refine bodyPost_ret (results_cell2 (p:=4) (u:=5) (v:=6) (by kernel_rfl) _ _ w.heap.size 231 #[.int .i64 mk, .string ⟨#[]⟩, .complex .f64 r s] (0,0) _ rfl (Blk.ext (Blk.new w _ _) (alloc_below _ _)) Tryz.underlying231 rfl (by kernel_rfl)) rfl ?_
      exact ⟨rfl,below_alloc (alloc_below _ _) _⟩
section
variable {P:Program} {w:World}
theorem own_formS {base e size:Nat} {v:Value} {n:Nat} {xs:List Value} (h:w.ownsRow base e size v n xs):∃ A c,v = .slice A n c:=by
 rcases h.2 with ⟨rfl,rfl⟩ | ⟨g,cap,a,rfl,_⟩
 · exact ⟨_,_,rfl⟩
 · exact ⟨_,_,rfl⟩
end
structure TokP where
 kind:Int
 text:List Nat
 at_:Nat
def nameEnd (xs:List Nat) (i:Nat):Nat:=i+1+((xs.drop (i+1)).takeWhile innerB).length
def wordEnd (xs:List Nat) (i:Nat):Nat:=i+1+((xs.drop (i+1)).takeWhile lowerB).length
def oneP (xs:List Nat) (i:Nat):Option (TokP × Nat) :=
 if letterB (xs.getD i 0) then (if nameEnd xs i≤i+20 then some (⟨1,(xs.drop i).take (nameEnd xs i - i),i⟩,nameEnd xs i) else none)
 else if xs.getD i 0=39 then (if litB ((xs.drop i).take 3) && decide (i+3≤xs.length) then some (⟨2,(xs.drop i).take 3,i⟩,i+3) else none)
 else if hasP xs i [37,37] then some (⟨9,[],i⟩,i+2)
 else if xs.getD i 0=37 then (if percentP ((xs.drop (i+1)).take (wordEnd xs i - (i+1)))=0 then none else some (⟨percentP ((xs.drop (i+1)).take (wordEnd xs i - (i+1))),[],i⟩,wordEnd xs i))
 else if markP (xs.getD i 0)=0 then none else some (⟨markP (xs.getD i 0),[],i⟩,i+1)
def toksP (xs:List Nat):Nat→Nat→Option (List TokP)
 | 0,_=>none
 | q+1,i =>
   if i ≥ xs.length then some []
   else if !plainAt xs i then none
   else if blankB (xs.getD i 0) then toksP xs q (i+1)
   else match oneP xs i with
    | none=>none
    | some (t,j)=>(toksP xs q j).map (t::·)
end Go.Proofs.YtggbjdmpjidhgaaGreatDoor
