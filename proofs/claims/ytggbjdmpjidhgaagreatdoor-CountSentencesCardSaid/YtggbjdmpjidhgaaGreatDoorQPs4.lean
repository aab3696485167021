/- the reference's reading: a reader's small steps: kind, is, take. -/
import Derived.Test.YtggbjdmpjidhgaaGreatDoorQPs1
set_option linter.unusedVariables false
set_option linter.unusedSimpArgs false
set_option maxHeartbeats 8000000
set_option maxRecDepth 100000
namespace Go.Proofs.YtggbjdmpjidhgaaGreatDoor
open Go.RowKit
theorem RdAt.parts {w:World} {p:Nat} {ts:List Tk} (h:RdAt w p ts):∃ A c x y x' y',Toks w p A ts.length c ts∧p < w.heap.size∧Blk w p 236 #[.slice A ts.length c, .complex .f64 x y, .complex .f64 x' y', .int .i64 0] ∧
 w.cell? ⟨p,0,none⟩=some (.slice A ts.length c)∧w.cell? ⟨p,1,none⟩=some (.complex .f64 x y)∧w.cell? ⟨p,2,none⟩=some (.complex .f64 x' y')∧w.cell? ⟨p,3,none⟩=some (.int .i64 0):=by
 obtain ⟨hl,A,c,x,y,x',y',hb,ht⟩:=h
 exact ⟨A,c,x,y,x',y',ht,hb.lt,hb,by rw [hb.cell];rfl,by rw [hb.cell];rfl,by rw [hb.cell];rfl,by rw [hb.cell];rfl⟩
theorem RdAt.len {w:World} {p:Nat} {ts:List Tk} (h:RdAt w p ts):ts.length≤4000:=h.1
theorem RdAt.below {w w':World} {p:Nat} {ts:List Tk} (h:RdAt w p ts) (hb:Below w.heap.size w w'):RdAt w' p ts:=by
 obtain ⟨hl,A,c,x,y,x',y',hk,ht⟩:=h
 exact ⟨hl,A,c,x,y,x',y',hk.ext hb,ht.below hb⟩
theorem RdAt.lt {w:World} {p:Nat} {ts:List Tk} (h:RdAt w p ts):p < w.heap.size:=by
 obtain ⟨hl,A,c,x,y,x',y',hk,ht⟩:=h
 exact hk.lt
theorem rd_kind (p:Nat) (ts:List Tk) (w:World) (h:RdAt w p ts) :
 Calls Tryz.prog 191 #[.pointer (some ⟨p,0,none⟩)] w fun e w'=>e = .returned (.int .i64 (headK ts))∧w=w':=by
 have hl:=h.len
 obtain ⟨A,c,x,y,x',y',ht,hp,hk,q0,q1,q2,q3⟩:=h.parts
 cases ts with
 | nil =>
   clear h ht hk
   go_enter Tryz.func191,Tryz.ntmps191
   go_wp2_with fail
   go_ret
   exact ⟨rfl,rfl⟩
 | cons t ts =>
   obtain ⟨b,off,x2,y2,rfl,hB,hlt,r0,r1,r2⟩:=ht.head
   show Calls _ _ _ _ fun e w'=>e = .returned (.int .i64 t.1)∧w=w'
   obtain ⟨n,hn⟩:∃ n,(t::ts).length=n:=⟨_,rfl⟩
   have hn0:0 < n:=by rw [← hn];simp
   have hnc:=ht.2.1
   have hc:=ht.2.2.1
   rw [hn] at q0 hl hnc
   generalize t.1=k at *
   generalize t.2=s at *
   clear h ht hk hn
   go_enter Tryz.func191,Tryz.ntmps191
   go_wp2_with fail
   go_ret
   exact ⟨rfl,rfl⟩
def isP (a b:Int):List Tk→Bool
 | []=>false
 | t::_=>decide (t.1=a) || decide (t.1=b)
theorem rd_is (p:Nat) (a b:Int) (ts:List Tk) (w:World) (h:RdAt w p ts) :
 Calls Tryz.prog 225 #[.pointer (some ⟨p,0,none⟩), .int .i64 a, .int .i64 b] w fun e w'=>e = .returned (.bool (isP a b ts))∧w=w':=by
 have hl:=h.len
 have CK:=LH (rd_kind p ts w h)
 obtain ⟨A,c,x,y,x',y',ht,hp,hk,q0,q1,q2,q3⟩:=h.parts
 cases ts with
 | nil =>
   clear h ht hk
   go_enter Tryz.func225,Tryz.ntmps225
   go_wp2_with fail
   go_ret
   exact ⟨rfl,rfl⟩
 | cons t ts =>
   obtain ⟨n,hn⟩:∃ n,(t::ts).length=n:=⟨_,rfl⟩
   have hn0:0 < n:=by rw [← hn];simp
   have hnc:=ht.2.1
   have hc:=ht.2.2.1
   rw [hn] at q0 hl hnc
   have hd:isP a b (t::ts)=(decide (t.1=a) || decide (t.1=b)):=rfl
   have hk2:headK (t::ts)=t.1:=rfl
   rw [hd]
   rw [hk2] at CK
   generalize t.1=k at *
   clear h ht hk hn hd hk2
   by_cases h1:k=a
   · have e1:(k == a)=true:=by simp [h1]
     rw [show (decide (k=a) || decide (k=b))=true by simp [h1]]
     clear h1
     go_enter Tryz.func225,Tryz.ntmps225
     go_wp2_with (go_at_call 191;(with_reducible refine CK.out.mono ?_);rintro e w2 ⟨rfl,rfl⟩)
     go_ret
     exact ⟨rfl,rfl⟩
   · have e1:(k == a)=false:=by rw [beq_eq_false_iff_ne];exact h1
     rw [show (decide (k=a) || decide (k=b))=(k == b) by rw [Bool.eq_iff_iff];simp [h1]]
     clear h1
     go_enter Tryz.func225,Tryz.ntmps225
     go_wp2_with (go_at_call 191;(with_reducible refine CK.out.mono ?_);rintro e w2 ⟨rfl,rfl⟩)
     go_ret
     exact ⟨rfl,rfl⟩
theorem rd_take (p:Nat) (a b:Int) (t:Tk) (ts:List Tk) (w:World) (h:RdAt w p (t::ts)) (hi:isP a b (t::ts)=true) :
 Calls Tryz.prog 189 #[.pointer (some ⟨p,0,none⟩), .int .i64 a, .int .i64 b] w fun e w'=>(∃ x y,e = .returned (.agg #[.string t.2, .complex .f64 x y]))∧RdAt w' p ts∧w.grownBy w' (some p):=by
 have hl:=h.len
 have hB0:=alloc_below w (.cells #[.string ⟨#[]⟩, .complex .f64 0 0] 191)
 have CI:=LH (rd_is p a b (t::ts) _ (h.below hB0))
 rw [hi] at CI
 obtain ⟨A,c,x,y,x',y',ht,hp,hk,q0,q1,q2,q3⟩:=h.parts
 obtain ⟨b,off,x2,y2,rfl,hB,hlt,r0,r1,r2⟩:=ht.head
 have hn:(t::ts).length=ts.length+1:=rfl
 have hnc:=ht.2.1
 have hc:=ht.2.2.1
 rw [hn] at q0 hl hnc
 have Ht:=LH ht
 have Hk:=LH hk
 have ksc:∀ (w:World) (a:Addr) (k:FloatKind) (x y:Nat) (m:Mode),(store a (.complex k x y) m).run Tryz.prog w=stored Tryz.prog w a (.complex k x y) m:=fun w a k x y m=>run_store Tryz.prog w a _ m rfl
 have hbp:b ≠ p:=by omega
 have hfz:=hk.frozen 0
 have fin:∀ (S:Value) (A':Option Addr),S = .slice A' ts.length (c - 1)→Toks w p A' ts.length (c - 1) ts →
  RdAt (((w.setCell ⟨p,0,none⟩ S).alloc (.cells #[.string t.2, .complex .f64 x2 y2] 191)).alloc (.cells #[.int .i64 t.1, .string t.2, .complex .f64 x2 y2] 231)) p ts ∧
  w.grownBy (((w.setCell ⟨p,0,none⟩ S).alloc (.cells #[.string t.2, .complex .f64 x2 y2] 191)).alloc (.cells #[.int .i64 t.1, .string t.2, .complex .f64 x2 y2] 231)) (some p) ∧
  Blk (((w.setCell ⟨p,0,none⟩ S).alloc (.cells #[.string t.2, .complex .f64 x2 y2] 191)).alloc (.cells #[.int .i64 t.1, .string t.2, .complex .f64 x2 y2] 231)) w.heap.size 191 #[.string t.2, .complex .f64 x2 y2]:=by
  intro S A' hS hT
  have hg:w.grownBy (((w.setCell ⟨p,0,none⟩ S).alloc (.cells #[.string t.2, .complex .f64 x2 y2] 191)).alloc (.cells #[.int .i64 t.1, .string t.2, .complex .f64 x2 y2] 231)) (some p) :=
   grown_trans (grown_set w p 0 S) (grown_below _ (below_alloc (alloc_below _ _) _))
  have hsz:(w.setCell ⟨p,0,none⟩ S).heap.size=w.heap.size:=by simp
  refine ⟨⟨by omega,A',c - 1,x,y,x',y',?_,hT.grown hg (Nat.le_refl _)⟩,hg,?_⟩
  · have:=((hk.set 0 S).ext (alloc_below _ (.cells #[.string t.2, .complex .f64 x2 y2] 191))).ext (alloc_below _ (.cells #[.int .i64 t.1, .string t.2, .complex .f64 x2 y2] 231))
    rw [hS] at this ⊢
    exact this
  · have:=(Blk.new (w.setCell ⟨p,0,none⟩ S) 191 #[.string t.2, .complex .f64 x2 y2]).ext (alloc_below _ (.cells #[.int .i64 t.1, .string t.2, .complex .f64 x2 y2] 231))
    rwa [hsz] at this
 have htl:=ht.tail
 rw [hn,Nat.add_sub_cancel] at htl
 have Fin:=LH fin
 have Htl:=LH htl
 have hci:c=1∨(¬ c=1):=Classical.em _
 clear h ht hk hi hn fin htl Ht Hk
 rcases hci with rfl | hc1
 · have F:=LH (Fin.out (.slice (some ⟨b,off,none⟩) ts.length 0) (some ⟨b,off,none⟩) rfl (by have:=Htl.out;rwa [if_pos rfl] at this))
   rw [show ts.length=0 by omega] at F
   go_enter Tryz.func189,Tryz.ntmps189
   go_wp2_with (go_at_call 225;(with_reducible refine CI.out.mono ?_);rintro e w2 ⟨rfl,rfl⟩)
   refine bodyPost_ret (results_cell_row (p:=6) (by kernel_rfl) _ _ w.heap.size 191 #[.string t.2, .complex .f64 x2 y2] (0,0) _ rfl F.out.2.2 Tryz.underlying191 rfl (by kernel_rfl)) rfl ?_
   exact ⟨⟨_,_,rfl⟩,F.out.1,F.out.2.1⟩
 · have F:=LH (Fin.out (.slice (some ⟨b,off+3,none⟩) ts.length (c - 1)) (some ⟨b,off+3,none⟩) rfl (by have:=Htl.out;rwa [if_neg hc1] at this))
   go_enter Tryz.func189,Tryz.ntmps189
   go_wp2_with (go_at_call 225;(with_reducible refine CI.out.mono ?_);rintro e w2 ⟨rfl,rfl⟩)
   refine bodyPost_ret (results_cell_row (p:=6) (by kernel_rfl) _ _ w.heap.size 191 #[.string t.2, .complex .f64 x2 y2] (0,0) _ rfl F.out.2.2 Tryz.underlying191 rfl (by kernel_rfl)) rfl ?_
   exact ⟨⟨_,_,rfl⟩,F.out.1,F.out.2.1⟩
theorem tw_in (p:Nat→Bool) (l:List Nat):∀ m,m < (l.takeWhile p).length→p (l.getD m 0)=true:=by
 induction l with
 | nil=>intro m h;simp at h
 | cons x l ih =>
   intro m h
   by_cases hx:p x=true
   · rw [List.takeWhile_cons_of_pos hx] at h
     cases m with
     | zero=>exact hx
     | succ m=>exact ih m (by simpa using h)
   · rw [List.takeWhile_cons_of_neg hx] at h
     simp at h
theorem tw_out (p:Nat→Bool) (l:List Nat):(l.takeWhile p).length < l.length→p (l.getD (l.takeWhile p).length 0)=false:=by
 induction l with
 | nil=>intro h;simp at h
 | cons x l ih =>
   intro h
   by_cases hx:p x=true
   · rw [List.takeWhile_cons_of_pos hx] at h ⊢
     exact ih (by simpa using h)
   · rw [List.takeWhile_cons_of_neg hx]
     simpa using hx
theorem tw_len (p:Nat→Bool) (l:List Nat):(l.takeWhile p).length≤l.length:=by
 induction l with
 | nil=>simp
 | cons x l ih =>
   by_cases hx:p x=true
   · rw [List.takeWhile_cons_of_pos hx];simp;exact ih
   · rw [List.takeWhile_cons_of_neg hx];simp
theorem getD_drop (xs:List Nat) (a m:Nat):(xs.drop a).getD m 0=xs.getD (a+m) 0:=by simp [List.getD_eq_getElem?_getD,List.getElem?_drop]
theorem oneP_lt {xs:List Nat} {i:Nat} {t:TokP} {j:Nat} (hi:i < xs.length) (h:oneP xs i=some (t,j)):i < j∧j≤xs.length:=by
 unfold oneP at h
 split at h
 · split at h
   · simp only [Option.some.injEq,Prod.mk.injEq] at h
     obtain ⟨_,rfl⟩:=h
     have:=tw_len innerB (xs.drop (i+1))
     rw [List.length_drop] at this
     unfold nameEnd
     omega
   · cases h
 · split at h
   · split at h
     · rename_i hc
       simp only [Bool.and_eq_true,decide_eq_true_eq] at hc
       simp only [Option.some.injEq,Prod.mk.injEq] at h
       omega
     · cases h
   · split at h
     · rename_i hc
       unfold hasP at hc
       simp only [Bool.and_eq_true,decide_eq_true_eq,List.length_cons,List.length_nil] at hc
       simp only [Option.some.injEq,Prod.mk.injEq] at h
       omega
     · split at h
       · split at h
         · cases h
         · simp only [Option.some.injEq,Prod.mk.injEq] at h
           obtain ⟨_,rfl⟩:=h
           have:=tw_len lowerB (xs.drop (i+1))
           rw [List.length_drop] at this
           unfold wordEnd
           omega
       · split at h
         · cases h
         · simp only [Option.some.injEq,Prod.mk.injEq] at h
           omega
theorem rf_one (A:Option Addr) (n c i:Nat) (xs:List Nat) (w:World) (h:Nums .u8 w A n c xs) (hb:∀ x ∈ xs,x < 256) (hn:n≤100000) (hi:i < n) (t:TokP) (j:Nat) (ht:oneP xs i=some (t,j)) :
 Calls Tryz.prog 187 #[.slice A n c, .int .i64 (i:Int)] w fun e w'=>e = .returned (.tuple #[TokV t.kind t.text (atP xs i), .int .i64 (j:Int), .int .i64 0])∧Below w.heap.size w w':=by
 have hl:=h.len
 unfold oneP at ht
 by_cases h1:letterB (xs.getD i 0)=true
 · rw [if_pos h1] at ht
   split at ht
   · rename_i hf
     simp only [Option.some.injEq,Prod.mk.injEq] at ht
     obtain ⟨rfl,rfl⟩:=ht
     have:=tw_len innerB (xs.drop (i+1))
     rw [List.length_drop] at this
     refine rf_one_name A n c i (nameEnd xs i) xs w h hb hn hi h1 (by unfold nameEnd;omega) (by unfold nameEnd;omega) hf (fun k hk hk2=>?_) (fun hlt=>?_)
     · have:=tw_in innerB (xs.drop (i+1)) (k - (i+1)) (by unfold nameEnd at hk2;omega)
       rw [getD_drop,show i+1+(k - (i+1))=k by omega] at this
       exact this
     · have:=tw_out innerB (xs.drop (i+1)) (by rw [List.length_drop];unfold nameEnd at hlt;omega)
       rw [getD_drop] at this
       exact this
   · cases ht
 · rw [if_neg h1] at ht
   have h1':letterB (xs.getD i 0)=false:=by simpa using h1
   by_cases h2:xs.getD i 0=39
   · rw [if_pos h2] at ht
     split at ht
     · rename_i hc
       simp only [Bool.and_eq_true,decide_eq_true_eq] at hc
       simp only [Option.some.injEq,Prod.mk.injEq] at ht
       obtain ⟨rfl,rfl⟩:=ht
       exact rf_one_lit A n c i xs w h hb hn (by omega) h2 hc.1
     · cases ht
   · rw [if_neg h2] at ht
     by_cases h3:hasP xs i [37,37]=true
     · rw [if_pos h3] at ht
       simp only [Option.some.injEq,Prod.mk.injEq] at ht
       obtain ⟨rfl,rfl⟩:=ht
       exact rf_one_cut A n c i xs w h hb hn hi h1' h2 h3
     · rw [if_neg h3] at ht
       by_cases h4:xs.getD i 0=37
       · rw [if_pos h4] at ht
         split at ht
         · cases ht
         · rename_i h5
           simp only [Option.some.injEq,Prod.mk.injEq] at ht
           obtain ⟨rfl,rfl⟩:=ht
           have:=tw_len lowerB (xs.drop (i+1))
           rw [List.length_drop] at this
           refine rf_one_word A n c i (wordEnd xs i) xs w h hb hn hi h4 (by simpa using h3) (by unfold wordEnd;omega) (by unfold wordEnd;omega) (fun k hk hk2=>?_) (fun hlt=>?_) h5
           · have:=tw_in lowerB (xs.drop (i+1)) (k - (i+1)) (by unfold wordEnd at hk2;omega)
             rw [getD_drop,show i+1+(k - (i+1))=k by omega] at this
             exact this
           · have:=tw_out lowerB (xs.drop (i+1)) (by rw [List.length_drop];unfold wordEnd at hlt;omega)
             rw [getD_drop] at this
             exact this
       · rw [if_neg h4] at ht
         split at ht
         · cases ht
         · rename_i h5
           simp only [Option.some.injEq,Prod.mk.injEq] at ht
           obtain ⟨rfl,rfl⟩:=ht
           exact rf_one_mark A n c i xs w h hb hn hi h1' h2 (by simpa using h3) h4 h5
theorem below_appendG {w wr w':World} {base e size:Nat} {A:Option Addr} {n c:Nat} {xs:List Value} (hb:Below base w wr) (hg:wr.grownBy w' (Value.slice A n c).ownBlock)
 (hown:wr.ownsRow base e size (.slice A n c) n xs) (hbase:base≤wr.heap.size):Below base w w' :=
 hb.grown hg hbase fun k hk=>(hown.lt k hk).1
def cuts (ts:List TokP):Nat:=(ts.filter fun t=>decide (t.kind=9)).length
theorem cuts_app (a b:List TokP):cuts (a++b)=cuts a+cuts b:=by simp [cuts]
theorem own_keepB {w w':World} {base e size n c:Nat} {A:Option Addr} {xs:List Value} (h:w.ownsRow base e size (.slice A n c) n xs) (hb:Below w.heap.size w w'):w'.ownsRow base e size (.slice A n c) n xs:=own_keep h fun b _ hlt=>hb.block b hlt
theorem toksP_end {xs:List Nat} {q i:Nat} {more:List TokP} (h:toksP xs q i=some more) (hi:xs.length≤i):more=[]:=by
 cases q with
 | zero=>cases h
 | succ q =>
   unfold toksP at h
   rw [if_pos hi] at h
   injection h with h
   exact h.symm
theorem toksP_step {xs:List Nat} {q i:Nat} {more:List TokP} (h:toksP xs q i=some more) (hi:i < xs.length):plainAt xs i=true ∧
 ((blankB (xs.getD i 0)=true∧∃ q',toksP xs q' (i+1)=some more)∨(blankB (xs.getD i 0)=false∧∃ t j rest q',oneP xs i=some (t,j)∧toksP xs q' j=some rest∧more=t::rest)):=by
 cases q with
 | zero=>cases h
 | succ q =>
   unfold toksP at h
   rw [if_neg (by omega)] at h
   by_cases hp:plainAt xs i=true
   · rw [if_neg (by simp [hp])] at h
     refine ⟨hp,?_⟩
     by_cases hb:blankB (xs.getD i 0)=true
     · rw [if_pos hb] at h
       exact .inl ⟨hb,q,h⟩
     · rw [if_neg hb] at h
       refine .inr ⟨by simpa using hb,?_⟩
       split at h
       · cases h
       · rename_i t j ho
         rw [Option.map_eq_some_iff] at h
         obtain ⟨rest,h1,h2⟩:=h
         exact ⟨t,j,rest,q,ho,h1,h2.symm⟩
   · rw [if_pos (by simp [hp])] at h
     cases h
theorem rf_Tokens (A:Option Addr) (n c q:Nat) (xs:List Nat) (w:World) (h:Nums .u8 w A n c xs) (hb:∀ x ∈ xs,x < 256) (hn:n≤4000) (ts:List TokP) (hts:toksP xs q 0=some ts) (hc:cuts ts < 2) :
 Calls Tryz.prog 136 #[.slice A n c] w fun e w'=>∃ A' c' x y,e = .returned (.tuple #[.slice A' ts.length c', .complex .f64 x y, .int .i64 0])∧Toks w' w'.heap.size A' ts.length c' (ts.map tkOf)∧Below w.heap.size w w':=by
 obtain rfl:=h.len
 have hcap:=h.cap
 have H:=LH h
 have Hb:=LH hb
 have Hc:=LH hc
 have Hts:=LH hts
 have hi32:(Tryz.prog.info? 231).map (fun i=>(i.zero,i.size,i.bytes))=some (some (.agg #[.int .i64 0, .string ⟨#[]⟩, .complex .f64 0 0]),3,40):=by kernel_rfl
 have Hi32:=LH hi32
 have ksc:∀ (w:World) (a:Addr) (k:FloatKind) (x y:Nat) (m:Mode),(store a (.complex k x y) m).run Tryz.prog w=stored Tryz.prog w a (.complex k x y) m:=fun w a k x y m=>run_store Tryz.prog w a _ m rfl
 clear h hb hc hi32 hts
 go_enter Tryz.func136,Tryz.ntmps136
 go_wp2_with fail
 go_loopw [5,6,7] (fun o a m wr=>∃ (i mk d c':Nat) (A':Option Addr) (done more:List TokP) (cs:List Value),o = .slice A' d c'∧a = .int .i64 (i:Int)∧m = .int .i64 (mk:Int)∧i≤xs.length∧d≤i∧mk < 2 ∧
  Hid (d=done.length)∧Hid (mk=cuts done)∧Hid (∃ q',toksP xs q' i=some more)∧Hid (done++more=ts)∧Hid (wr.ownsRow w.heap.size 231 3 (.slice A' d c') d cs)∧Hid (TokCs cs (done.map tkOf))∧Below w.heap.size w wr) (fun _ a _ _=>xs.length - (intOf a).toNat)
 case atStart=>exact ⟨0,0,0,0,none,[],ts,[],rfl,rfl,rfl,by omega,by omega,by omega,LH rfl,LH rfl,LH ⟨q,Hts.out⟩,LH rfl,LH (World.ownsRow_nil _ _ _ _),LH TokCs.nil,Below.refl _ _⟩
 case round =>
  obtain ⟨i,mk,d,c',A',done,more,cs,rfl,rfl,rfl,hi,hd,hmk,Hd,Hm,Hq,Hdm,Ho,Hcs,hB⟩:=hrel
  by_cases hlt:i < xs.length
  case neg =>
   obtain rfl:i=xs.length:=by omega
   have CT:=LH (ref_at A xs.length c xs (xs.length:Int) wr (H.out.below hB) (by omega))
   have Hend:Hid (done=ts∧d=ts.length):=LH (by
    obtain ⟨q',hq'⟩:=Hq.out
    have e:=Hdm.out
    rw [toksP_end hq' (Nat.le_refl _),List.append_nil] at e
    exact ⟨e,by rw [Hd.out,e]⟩)
   obtain ⟨ca,cb,hat⟩:∃ a b,atP xs (xs.length:Int) = .complex .f64 a b:=by
    unfold atP PV
    split
    · exact ⟨_,_,rfl⟩
    · exact ⟨_,_,rfl⟩
   rw [hat] at CT
   clear hat
   go_wp2_with (go_at_call 186;(with_reducible refine CT.out.mono ?_);rintro e w2 ⟨rfl,rfl⟩)
   refine bodyPost_ret (results_tmp3 rfl _ _ _) rfl ?_
   refine ⟨A',c',ca,cb,by rw [← Hend.out.2];rfl,?_,hB⟩
   have ht:=own_toks Ho.out Hcs.out
   rw [Hend.out.1,Hend.out.2] at ht
   exact ht
  case pos =>
   obtain ⟨q',hq'⟩:=Hq.out
   obtain ⟨hpl,hways⟩:=toksP_step hq' hlt
   have CS:=LH (rf_skip7 A xs.length c i xs wr (H.out.below hB) Hb.out (by omega) hlt hpl)
   clear Hq hq' hpl
   rcases hways with ⟨hbk,q2,hq2⟩ | ⟨hbk,t,j,rest,q2,hone,hq2,rfl⟩
   · rw [hbk,if_pos rfl] at CS
     have Hq2:=LH hq2
     clear hq2 hbk
     go_wp2_with (go_at_call 185;(with_reducible refine CS.out.mono ?_);rintro e w2 ⟨rfl,rfl⟩)
     go_roundw
     case rel=>exact ⟨i+1,mk,d,c',A',done,more,cs,rfl,rfl,rfl,by omega,by omega,by omega,Hd,Hm,LH ⟨q2,Hq2.out⟩,Hdm,Ho,Hcs,hB⟩
     case measure=>simp [intOf];omega
   · rw [hbk,if_neg Bool.false_ne_true] at CS
     obtain ⟨hij,hjn⟩:=oneP_lt hlt hone
     have CO:=LH (rf_one A xs.length c i xs wr (H.out.below hB) Hb.out (by omega) hlt t j hone)
     have Hq2:=LH hq2
     have Hm2:Hid (cuts (done++[t]) < 2):=LH (by
      have h1:=Hc.out
      rw [← Hdm.out,show done++t::rest=(done++[t])++rest by simp,cuts_app] at h1
      omega)
     obtain ⟨ca,cb,hat⟩:∃ a b,atP xs (i:Int) = .complex .f64 a b:=by
      unfold atP PV
      split
      · exact ⟨_,_,rfl⟩
      · exact ⟨_,_,rfl⟩
     rw [hat] at CO
     have Hdm2:Hid (done++[t]++rest=ts):=LH (by rw [← Hdm.out];simp)
     have Hcs2:=LH (TokCs.snoc Hcs.out (tkOf t) ca cb)
     have Hcl:Hid (cuts [t]=if t.kind=9 then 1 else 0):=LH (by
      unfold cuts
      by_cases h9:t.kind=9
      · simp [h9]
      · simp [h9])
     have Ht:Hid (tkOf t=(t.kind,str t.text)):=LH rfl
     clear hq2 hbk hone hat Hcs Hdm
     generalize htk:tkOf t=tk at *
     generalize hkd:t.kind=kd at *
     generalize htx:str t.text=tx at *
     unfold TokV at CO
     rw [htx] at CO
     have Htk:=LH htk
     clear hkd htx htk
     have h9:((kd == 9)=true∧Hid (cuts [t]=1))∨((kd == 9)=false∧Hid (cuts [t]=0)):=by
      by_cases h9:kd=9
      · exact .inl ⟨by simp [h9],LH (by rw [Hcl.out,if_pos h9])⟩
      · exact .inr ⟨by simp [h9],LH (by rw [Hcl.out,if_neg h9])⟩
     clear Hcl
     rcases h9 with ⟨e9,H9⟩ | ⟨e9,H9⟩
     all_goals
      go_wp2_with (first
       | (go_at_call 185;(with_reducible refine CS.out.mono ?_);rintro e w2 ⟨rfl,rfl⟩)
       | (go_at_call 187;(with_reducible refine CO.out.mono ?_);rintro e w2 ⟨rfl,hB2⟩
          have hB3:=below_tail hB hB2
          have hB4:=below_alloc hB3 (.cells #[.int .i64 kd, .string tx, .complex .f64 ca cb] 231)
          have hbs:w.heap.size≤w2.heap.size:=hB3.size
          have p5:=alloc_size w2 (.cells #[.int .i64 kd, .string tx, .complex .f64 ca cb] 231)
          have Ho2:=LH ((own_keepB Ho.out hB2).alloc (.cells #[.int .i64 kd, .string tx, .complex .f64 ca cb] 231)))
       | (at_builtin;refine wpl_appendT (w:=w2.alloc (.cells #[.int .i64 kd, .string tx, .complex .f64 ca cb] 231)) rfl _ _ 185 rfl w.heap.size 231 _ 3 40 Tryz.underlying185 Hi32.out (by decide) (by decide) A' d c' cs rfl Ho2.out [.int .i64 kd, .string tx, .complex .f64 ca cb] rfl (by rw [p5];rfl) (by simp [Value.oneCell']) (by omega) (by omega) (by omega) ?_;intro A4 c4 w4 ho hgr ha))
      have hmk2:mk+cuts [t] < 2:=by
       have h1:=Hm2.out
       rwa [cuts_app,← Hm.out] at h1
      rw [H9.out] at hmk2
      have HBn:=LH (below_appendG hB4 hgr Ho2.out (by omega))
      have HCn:Hid (TokCs (cs++[.int .i64 kd, .string tx, .complex .f64 ca cb]) ((done++[t]).map tkOf)):=LH (by
       have h1:=Hcs2.out
       rw [Ht.out] at h1
       rw [List.map_append,List.map_cons,List.map_nil,Htk.out,Ht.out]
       exact h1)
      have Hd2:Hid (d+1=(done++[t]).length):=LH (by rw [List.length_append,← Hd.out];rfl)
      go_roundw
      case rel =>
       first
        | exact ⟨j,mk+1,d+1,c4,A4,done++[t],rest,_,rfl,rfl,by go_num,hjn,by omega,by omega,Hd2,LH (by have h1:=Hm.out;have h2:=H9.out;rw [cuts_app];omega),LH ⟨q2,Hq2.out⟩,Hdm2,LH ho,HCn,HBn.out⟩
        | exact ⟨j,mk,d+1,c4,A4,done++[t],rest,_,rfl,rfl,rfl,hjn,by omega,by omega,Hd2,LH (by have h1:=Hm.out;have h2:=H9.out;rw [cuts_app];omega),LH ⟨q2,Hq2.out⟩,Hdm2,LH ho,HCn,HBn.out⟩
      case measure=>simp [intOf];omega
def remR (w:World) (p:Nat):Nat:=match w.cell? ⟨p,0,none⟩ with
 | some (.slice _ n _)=>n
 | _=>0
theorem RdAt.rem {w:World} {p:Nat} {ts:List Tk} (h:RdAt w p ts):remR w p=ts.length:=by
 obtain ⟨A,c,x,y,x',y',ht,hp,hk,q0,q1,q2,q3⟩:=h.parts
 unfold remR
 rw [q0]
theorem RdAt.keep {w w':World} {p:Nat} {ts:List Tk} (h:RdAt w p ts) (hs:w.heap.size≤w'.heap.size) (hk:∀ k,k≤p→k < w.heap.size→w'.heap[k]? = w.heap[k]?):RdAt w' p ts:=by
 obtain ⟨hl,A,c,x,y,x',y',hb,ht⟩:=h
 exact ⟨hl,A,c,x,y,x',y',(hk p (Nat.le_refl _) hb.lt).trans hb,ht.keep hs fun k h1 h2=>hk k (Nat.le_of_lt h1) h2⟩
theorem RdAt.app {w w':World} {p base e size n c:Nat} {A:Option Addr} {xs:List Value} {ts:List Tk} (h:RdAt w p ts) (hg:w.grownBy w' (Value.slice A n c).ownBlock) (ho:w.ownsRow base e size (.slice A n c) n xs) (hb:p < base):RdAt w' p ts :=
 h.keep hg.size fun k h1 h2=>hg.block k h2 fun e=>by have:=(ho.lt k e.symm).1;omega
theorem own_grown {w w':World} {p base e size n c:Nat} {A:Option Addr} {xs:List Value} (ho:w.ownsRow base e size (.slice A n c) n xs) (hg:w.grownBy w' (some p)) (hb:p < base):w'.ownsRow base e size (.slice A n c) n xs :=
 own_keep ho fun b h1 h2=>hg.block b h2 fun e=>by injection e with e;have:=(ho.lt b h1).1;omega
theorem grown_app {w w1 w':World} {p base e size n c:Nat} {A:Option Addr} {xs:List Value} (h:w.grownBy w1 (some p)) (hg:w1.grownBy w' (Value.slice A n c).ownBlock) (ho:w1.ownsRow base e size (.slice A n c) n xs) (hb:w.heap.size≤base):w.grownBy w' (some p) :=
 ⟨hg.os.trans h.os,hg.tape.trans h.tape,hg.output.trans h.output,Nat.le_trans h.size hg.size,fun k hk hne=>(hg.block k (Nat.lt_of_lt_of_le hk h.size) fun e=>by have:=(ho.lt k e.symm).1;omega).trans (h.block k hk hne)⟩
theorem isP_sym (ts:List Tk):isP 1 2 ts=isSym (headK ts):=by
 cases ts with
 | nil=>rfl
 | cons t ts=>rfl
theorem rd_refs (p:Nat) (ts:List Tk) (w:World) (h:RdAt w p ts) :
 Calls Tryz.prog 224 #[.pointer (some ⟨p,0,none⟩)] w fun e w'=>∃ A c cs,e = .returned (.slice A (spanS ts).1.length c) ∧
  w'.ownsRow w.heap.size 191 2 (.slice A (spanS ts).1.length c) (spanS ts).1.length cs∧RefCs cs (spanS ts).1∧RdAt w' p (spanS ts).2∧w.grownBy w' (some p):=by
 have hl:=h.len
 have hp:=h.lt
 have Hh:=LH h
 have hi16:(Tryz.prog.info? 191).map (fun i=>(i.zero,i.size,i.bytes))=some (some (.agg #[.string ⟨#[]⟩, .complex .f64 0 0]),2,32):=by kernel_rfl
 have Hi:=LH hi16
 clear h hi16
 go_enter Tryz.func224,Tryz.ntmps224
 go_wp2_with fail
 go_loopw [3] (fun o wr=>∃ (d c:Nat) (A:Option Addr) (done:List ByteArray) (us:List Tk) (cs:List Value),o = .slice A d c∧d+us.length≤4000∧Hid (d=done.length)∧Hid (done++(spanS us).1=(spanS ts).1)∧Hid ((spanS us).2=(spanS ts).2) ∧
  Hid (wr.ownsRow w.heap.size 191 2 (.slice A d c) d cs)∧Hid (RefCs cs done)∧Hid (RdAt wr p us)∧Hid (w.grownBy wr (some p))) (fun _ wr=>remR wr p)
 case atStart=>exact ⟨0,0,none,[],ts,[],rfl,by omega,LH rfl,LH rfl,LH rfl,LH (World.ownsRow_nil _ _ _ _),LH RefCs.nil,Hh,LH (grown_refl _ _)⟩
 case round =>
  obtain ⟨d,c,A,done,us,cs,rfl,hdu,Hd,Hs1,Hs2,Ho,Hc,Hr,Hg⟩:=hrel
  have CI:=LH (rd_is p 1 2 us wr Hr.out)
  rw [isP_sym] at CI
  by_cases hsym:isSym (headK us)=true
  case neg =>
   have hsn:isSym (headK us)=false:=by simpa using hsym
   have Hend:Hid (done=(spanS ts).1∧us=(spanS ts).2):=LH (by
    have h1:=Hs1.out
    have h2:=Hs2.out
    rw [spanS_no hsn] at h1 h2
    exact ⟨by simpa using h1,h2⟩)
   rw [hsn] at CI
   clear hsym hsn
   go_wp2_with (go_at_call 225;(with_reducible refine CI.out.mono ?_);rintro e w2 ⟨rfl,rfl⟩)
   go_ret
   have hdl:d=(spanS ts).1.length:=by rw [← Hend.out.1];exact Hd.out
   refine ⟨A,c,cs,by rw [← hdl];rfl,?_,?_,?_,Hg.out⟩
   · rw [← hdl];exact Ho.out
   · rw [← Hend.out.1];exact Hc.out
   · rw [← Hend.out.2];exact Hr.out
  case pos =>
   cases us with
   | nil=>cases hsym
   | cons t us =>
     have hsp:=spanS_yes (t:=t) (ts:=us) hsym
     have CT:=LH (rd_take p 1 2 t us wr Hr.out (by rw [isP_sym];exact hsym))
     have Hs3:Hid ((done++[t.2])++(spanS us).1=(spanS ts).1):=LH (by rw [← Hs1.out,hsp];simp)
     have Hs4:Hid ((spanS us).2=(spanS ts).2):=LH (by rw [← Hs2.out,hsp])
     have Hrem:Hid (remR wr p=us.length+1):=LH (by rw [Hr.out.rem];rfl)
     have hdu2:d+us.length+1≤4000:=by simp only [List.length_cons] at hdu;omega
     rw [hsym] at CI
     clear hsym hsp Hs1 Hs2 hdu
     generalize t.2=s at *
     go_wp2_with (first
      | (go_at_call 225;(with_reducible refine CI.out.mono ?_);rintro e w2 ⟨rfl,rfl⟩)
      | (go_at_call 189;(with_reducible refine CT.out.mono ?_);rintro e w2 ⟨⟨x,y,rfl⟩,hr2,hg2⟩
         have Hr2:=LH hr2
         have Hg2:=LH (grown_trans Hg.out hg2)
         have Ho2:=LH (own_grown Ho.out hg2 hp)
         have hbs:w.heap.size≤w2.heap.size:=Nat.le_trans Hg.out.size hg2.size
         clear hr2 hg2)
      | (at_builtin;refine wpl_appendT rfl _ _ 197 rfl w.heap.size 191 _ 2 32 Tryz.underlying197 Hi.out (by decide) (by decide) A d c cs rfl Ho2.out [.string s, .complex .f64 x y] rfl rfl (by simp [Value.oneCell']) (by omega) (by omega) hbs ?_;intro A4 c4 w4 ho hgr ha))
     have Hr4:=LH (Hr2.out.app hgr Ho2.out hp)
     have Hg4:=LH (grown_app Hg2.out hgr Ho2.out (Nat.le_refl _))
     have Hd2:Hid (d+1=(done++[s]).length):=LH (by rw [List.length_append,← Hd.out];rfl)
     have Hrem2:Hid (remR w4 p=us.length):=LH Hr4.out.rem
     go_roundw
     case rel=>exact ⟨d+1,c4,A4,done++[s],us,_,rfl,by omega,Hd2,Hs3,Hs4,LH ho,LH (Hc.out.snoc s x y),Hr4,Hg4⟩
     case measure=>rw [Hrem.out,Hrem2.out];omega
theorem rd_decls (p:Nat) (ts:List Tk) (w:World) (h:RdAt w p ts) (hk:headK ts=9) :
 Calls Tryz.prog 188 #[.pointer (some ⟨p,0,none⟩)] w fun e w'=>e = .returned (.slice none 0 0)∧w=w':=by
 have hl:=h.len
 have CK:=LH (rd_kind p ts w h)
 rw [hk] at CK
 obtain ⟨A,c,x,y,x',y',ht,hp,hb,q0,q1,q2,q3⟩:=h.parts
 have hn:0 < ts.length:=by
  cases ts with
  | nil=>cases hk
  | cons t ts=>simp
 generalize ts.length=n at *
 clear h ht hb hk
 go_enter Tryz.func188,Tryz.ntmps188
 go_wp2_with fail
 go_loopw [3] (fun o wr=>o = .slice none 0 0∧wr=w) (fun _ _=>0)
 case atStart=>exact ⟨rfl,rfl⟩
 case round =>
  obtain ⟨rfl,rfl⟩:=hrel
  go_wp2_with (go_at_call 191;(with_reducible refine CK.out.mono ?_);rintro e w2 ⟨rfl,rfl⟩)
  go_ret
  exact ⟨rfl,rfl⟩
end Go.Proofs.YtggbjdmpjidhgaaGreatDoor
