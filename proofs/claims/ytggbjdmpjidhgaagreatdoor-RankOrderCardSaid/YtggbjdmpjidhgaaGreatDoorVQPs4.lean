/- the reference's reading: a reader's small steps: kind, is, take. -/
import Derived.Test.YtggbjdmpjidhgaaGreatDoorVQPs1
set_option linter.unusedVariables false
set_option linter.unusedSimpArgs false
set_option maxHeartbeats 8000000
set_option maxRecDepth 100000
namespace Go.Proofs.YtggbjdmpjidhgaaGreatDoor
open Go.RowKit
theorem RdAt.parts {w:World} {p:Nat} {ts:List Tk} (h:RdAt w p ts):∃ A c x y b d,Toks w p A ts.length c ts∧p < w.heap.size∧Blk w p 236 #[.slice A ts.length c, .complex .f64 x y, .complex .f64 b d, .int .i64 0] ∧
 w.cell? ⟨p,0,none⟩=some (.slice A ts.length c)∧w.cell? ⟨p,1,none⟩=some (.complex .f64 x y)∧w.cell? ⟨p,2,none⟩=some (.complex .f64 b d)∧w.cell? ⟨p,3,none⟩=some (.int .i64 0):=by
 obtain ⟨g,A,c,x,y,b,d,a,f⟩:=h
 exact ⟨A,c,x,y,b,d,f,a.lt,a,by rw [a.cell];rfl,by rw [a.cell];rfl,by rw [a.cell];rfl,by rw [a.cell];rfl⟩
theorem RdAt.len {w:World} {p:Nat} {ts:List Tk} (h:RdAt w p ts):ts.length≤4000:=h.1
theorem RdAt.below {w w':World} {p:Nat} {ts:List Tk} (h:RdAt w p ts) (a:Below w.heap.size w w'):RdAt w' p ts:=by
 obtain ⟨d,A,c,x,y,g,j,b,f⟩:=h
 exact ⟨d,A,c,x,y,g,j,b.ext a,f.below a⟩
theorem RdAt.lt {w:World} {p:Nat} {ts:List Tk} (h:RdAt w p ts):p < w.heap.size:=by
 obtain ⟨b,A,c,x,y,f,g,a,d⟩:=h
 exact a.lt
theorem rd_kind (p:Nat) (ts:List Tk) (w:World) (h:RdAt w p ts) :
 Calls Tryz.prog 191 #[.pointer (some ⟨p,0,none⟩)] w fun e w'=>e = .returned (.int .i64 (headK ts))∧w=w':=by
 have g:=h.len
 obtain ⟨A,c,x,y,G,I,a,u,f,l,z,B,C⟩:=h.parts
 cases ts with
 | nil =>
   clear h a f
   go_enter Tryz.func191,Tryz.ntmps191
   go_wp2_with fail
   go_ret
   exact ⟨rfl,rfl⟩
 | cons t ts =>
   obtain ⟨b,v,H,J,rfl,m,q,D,E,F⟩:=a.head
   show Calls _ _ _ _ fun e w'=>e = .returned (.int .i64 t.1)∧w=w'
   obtain ⟨n,d⟩:∃ n,(t::ts).length=n:=⟨_,rfl⟩
   have r:0 < n:=by rw [← d];simp
   have j:=a.2.1
   have o:=a.2.2.1
   rw [d] at l g j
   generalize t.1=k at *
   generalize t.2=s at *
   clear h a f d
   go_enter Tryz.func191,Tryz.ntmps191
   go_wp2_with fail
   go_ret
   exact ⟨rfl,rfl⟩
def isP (a b:Int):List Tk→Bool
 | []=>false
 | t::_=>decide (t.1=a) || decide (t.1=b)
theorem rd_is (p:Nat) (a b:Int) (ts:List Tk) (w:World) (h:RdAt w p ts) :
 Calls Tryz.prog 225 #[.pointer (some ⟨p,0,none⟩), .int .i64 a, .int .i64 b] w fun e w'=>e = .returned (.bool (isP a b ts))∧w=w':=by
 have q:=h.len
 have g:=LH (rd_kind p ts w h)
 obtain ⟨A,c,x,y,F,G,f,B,l,s,C,D,E⟩:=h.parts
 cases ts with
 | nil =>
   clear h f l
   go_enter Tryz.func225,Tryz.ntmps225
   go_wp2_with fail
   go_ret
   exact ⟨rfl,rfl⟩
 | cons t ts =>
   obtain ⟨n,j⟩:∃ n,(t::ts).length=n:=⟨_,rfl⟩
   have z:0 < n:=by rw [← j];simp
   have r:=f.2.1
   have v:=f.2.2.1
   rw [j] at s q r
   have hd:isP a b (t::ts)=(decide (t.1=a) || decide (t.1=b)):=rfl
   have m:headK (t::ts)=t.1:=rfl
   rw [hd]
   rw [m] at g
   generalize t.1=k at *
   clear h f l j hd m
   by_cases d:k=a
   · have o:(k == a)=true:=by simp [d]
     rw [show (decide (k=a) || decide (k=b))=true by simp [d]]
     clear d
     go_enter Tryz.func225,Tryz.ntmps225
     go_wp2_with (go_at_call 191;(with_reducible refine g.out.mono ?_);rintro e u ⟨rfl,rfl⟩)
     go_ret
     exact ⟨rfl,rfl⟩
   · have o:(k == a)=false:=by rw [beq_eq_false_iff_ne];exact d
     rw [show (decide (k=a) || decide (k=b))=(k == b) by rw [Bool.eq_iff_iff];simp [d]]
     clear d
     go_enter Tryz.func225,Tryz.ntmps225
     go_wp2_with (go_at_call 191;(with_reducible refine g.out.mono ?_);rintro e u ⟨rfl,rfl⟩)
     go_ret
     exact ⟨rfl,rfl⟩
theorem rd_take (p:Nat) (a b:Int) (t:Tk) (ts:List Tk) (w:World) (h:RdAt w p (t::ts)) (hi:isP a b (t::ts)=true) :
 Calls Tryz.prog 189 #[.pointer (some ⟨p,0,none⟩), .int .i64 a, .int .i64 b] w fun e w'=>(∃ x y,e = .returned (.agg #[.string t.2, .complex .f64 x y]))∧RdAt w' p ts∧w.grownBy w' (some p):=by
 have H:=h.len
 have B:=alloc_below w (.cells #[.string ⟨#[]⟩, .complex .f64 0 0] 191)
 have o:=LH (rd_is p a b (t::ts) _ (h.below B))
 rw [hi] at o
 obtain ⟨A,c,x,y,N,O,g,W,l,L,Y,Z,q3⟩:=h.parts
 obtain ⟨b,n,d,f,rfl,P,V,r0,r1,r2⟩:=g.head
 have q:(t::ts).length=ts.length+1:=rfl
 have I:=g.2.1
 have T:=g.2.2.1
 rw [q] at L H I
 have z:=LH g
 have v:=LH l
 have X:∀ (w:World) (a:Addr) (k:FloatKind) (x y:Nat) (m:Mode),(store a (.complex k x y) m).run Tryz.prog w=stored Tryz.prog w a (.complex k x y) m:=fun w a k x y m=>run_store Tryz.prog w a _ m rfl
 have R:b ≠ p:=by omega
 have U:=l.frozen 0
 have fin:∀ (S:Value) (j:Option Addr),S = .slice j ts.length (c - 1)→Toks w p j ts.length (c - 1) ts →
  RdAt (((w.setCell ⟨p,0,none⟩ S).alloc (.cells #[.string t.2, .complex .f64 d f] 191)).alloc (.cells #[.int .i64 t.1, .string t.2, .complex .f64 d f] 231)) p ts ∧
  w.grownBy (((w.setCell ⟨p,0,none⟩ S).alloc (.cells #[.string t.2, .complex .f64 d f] 191)).alloc (.cells #[.int .i64 t.1, .string t.2, .complex .f64 d f] 231)) (some p) ∧
  Blk (((w.setCell ⟨p,0,none⟩ S).alloc (.cells #[.string t.2, .complex .f64 d f] 191)).alloc (.cells #[.int .i64 t.1, .string t.2, .complex .f64 d f] 231)) w.heap.size 191 #[.string t.2, .complex .f64 d f]:=by
  intro S j C D
  have u:w.grownBy (((w.setCell ⟨p,0,none⟩ S).alloc (.cells #[.string t.2, .complex .f64 d f] 191)).alloc (.cells #[.int .i64 t.1, .string t.2, .complex .f64 d f] 231)) (some p) :=
   grown_trans (grown_set w p 0 S) (grown_below _ (below_alloc (alloc_below _ _) _))
  have J:(w.setCell ⟨p,0,none⟩ S).heap.size=w.heap.size:=by simp
  refine ⟨⟨by omega,j,c - 1,x,y,N,O,?_,D.grown u (Nat.le_refl _)⟩,u,?_⟩
  · have:=((l.set 0 S).ext (alloc_below _ (.cells #[.string t.2, .complex .f64 d f] 191))).ext (alloc_below _ (.cells #[.int .i64 t.1, .string t.2, .complex .f64 d f] 231))
    rw [C] at this ⊢
    exact this
  · have:=(Blk.new (w.setCell ⟨p,0,none⟩ S) 191 #[.string t.2, .complex .f64 d f]).ext (alloc_below _ (.cells #[.int .i64 t.1, .string t.2, .complex .f64 d f] 231))
    rwa [J] at this
 have r:=g.tail
 rw [q,Nat.add_sub_cancel] at r
 have Fin:=LH fin
 have s:=LH r
 have G:c=1∨(¬ c=1):=Classical.em _
 clear h g l hi q fin r z v
 rcases G with rfl | E
 · have F:=LH (Fin.out (.slice (some ⟨b,n,none⟩) ts.length 0) (some ⟨b,n,none⟩) rfl (by have:=s.out;rwa [if_pos rfl] at this))
   rw [show ts.length=0 by omega] at F
   go_enter Tryz.func189,Tryz.ntmps189
   go_wp2_with (go_at_call 225;(with_reducible refine o.out.mono ?_);rintro e M ⟨rfl,rfl⟩)
   refine bodyPost_ret (results_cell_row (p:=6) (by kernel_rfl) _ _ w.heap.size 191 #[.string t.2, .complex .f64 d f] (0,0) _ rfl F.out.2.2 Tryz.underlying191 rfl (by kernel_rfl)) rfl ?_
   exact ⟨⟨_,_,rfl⟩,F.out.1,F.out.2.1⟩
 · have F:=LH (Fin.out (.slice (some ⟨b,n+3,none⟩) ts.length (c - 1)) (some ⟨b,n+3,none⟩) rfl (by have:=s.out;rwa [if_neg E] at this))
   go_enter Tryz.func189,Tryz.ntmps189
   go_wp2_with (go_at_call 225;(with_reducible refine o.out.mono ?_);rintro e M ⟨rfl,rfl⟩)
   refine bodyPost_ret (results_cell_row (p:=6) (by kernel_rfl) _ _ w.heap.size 191 #[.string t.2, .complex .f64 d f] (0,0) _ rfl F.out.2.2 Tryz.underlying191 rfl (by kernel_rfl)) rfl ?_
   exact ⟨⟨_,_,rfl⟩,F.out.1,F.out.2.1⟩
theorem tw_in (p:Nat→Bool) (l:List Nat):∀ m,m < (l.takeWhile p).length→p (l.getD m 0)=true:=by
 induction l with
 | nil=>intro m h;simp at h
 | cons x l b =>
   intro m h
   by_cases a:p x=true
   · rw [List.takeWhile_cons_of_pos a] at h
     cases m with
     | zero=>exact a
     | succ m=>exact b m (by simpa using h)
   · rw [List.takeWhile_cons_of_neg a] at h
     simp at h
theorem tw_out (p:Nat→Bool) (l:List Nat):(l.takeWhile p).length < l.length→p (l.getD (l.takeWhile p).length 0)=false:=by
 induction l with
 | nil=>intro h;simp at h
 | cons x l b =>
   intro h
   by_cases a:p x=true
   · rw [List.takeWhile_cons_of_pos a] at h ⊢
     exact b (by simpa using h)
   · rw [List.takeWhile_cons_of_neg a]
     simpa using a
theorem tw_len (p:Nat→Bool) (l:List Nat):(l.takeWhile p).length≤l.length:=by
 induction l with
 | nil=>simp
 | cons x l b =>
   by_cases a:p x=true
   · rw [List.takeWhile_cons_of_pos a];simp;exact b
   · rw [List.takeWhile_cons_of_neg a];simp
theorem getD_drop (xs:List Nat) (a m:Nat):(xs.drop a).getD m 0=xs.getD (a+m) 0:=by simp [List.getD_eq_getElem?_getD,List.getElem?_drop]
theorem oneP_lt {xs:List Nat} {i:Nat} {t:TokP} {j:Nat} (hi:i < xs.length) (h:oneP xs i=some (t,j)):i < j∧j≤xs.length:=by
 unfold oneP at h
 split at h
 · split at h
   · simp only [Option.some.injEq,Prod.mk.injEq] at h
     obtain ⟨_,rfl⟩:=h
     have:=tw_len innerB (xs.drop (i+1))
     rw [List.length_drop] at this
     unfold nameEnd
     omega
   · cases h
 · split at h
   · split at h
     · rename_i a
       simp only [Bool.and_eq_true,decide_eq_true_eq] at a
       simp only [Option.some.injEq,Prod.mk.injEq] at h
       omega
     · cases h
   · split at h
     · rename_i a
       unfold hasP at a
       simp only [Bool.and_eq_true,decide_eq_true_eq,List.length_cons,List.length_nil] at a
       simp only [Option.some.injEq,Prod.mk.injEq] at h
       omega
     · split at h
       · split at h
         · cases h
         · simp only [Option.some.injEq,Prod.mk.injEq] at h
           obtain ⟨_,rfl⟩:=h
           have:=tw_len lowerB (xs.drop (i+1))
           rw [List.length_drop] at this
           unfold wordEnd
           omega
       · split at h
         · cases h
         · simp only [Option.some.injEq,Prod.mk.injEq] at h
           omega
theorem rf_one (A:Option Addr) (n c i:Nat) (xs:List Nat) (w:World) (h:Nums .u8 w A n c xs) (f:∀ x ∈ xs,x < 256) (g:n≤100000) (hi:i < n) (t:TokP) (j:Nat) (a:oneP xs i=some (t,j)) :
 Calls Tryz.prog 187 #[.slice A n c, .int .i64 (i:Int)] w fun e w'=>e = .returned (.tuple #[TokV t.kind t.text (atP xs i), .int .i64 (j:Int), .int .i64 0])∧Below w.heap.size w w':=by
 have y:=h.len
 unfold oneP at a
 by_cases l:letterB (xs.getD i 0)=true
 · rw [if_pos l] at a
   split at a
   · rename_i u
     simp only [Option.some.injEq,Prod.mk.injEq] at a
     obtain ⟨rfl,rfl⟩:=a
     have:=tw_len innerB (xs.drop (i+1))
     rw [List.length_drop] at this
     refine rf_one_name A n c i (nameEnd xs i) xs w h f g hi l (by unfold nameEnd;omega) (by unfold nameEnd;omega) u (fun k v p=>?_) (fun q=>?_)
     · have:=tw_in innerB (xs.drop (i+1)) (k - (i+1)) (by unfold nameEnd at p;omega)
       rw [getD_drop,show i+1+(k - (i+1))=k by omega] at this
       exact this
     · have:=tw_out innerB (xs.drop (i+1)) (by rw [List.length_drop];unfold nameEnd at q;omega)
       rw [getD_drop] at this
       exact this
   · cases a
 · rw [if_neg l] at a
   have r:letterB (xs.getD i 0)=false:=by simpa using l
   by_cases b:xs.getD i 0=39
   · rw [if_pos b] at a
     split at a
     · rename_i s
       simp only [Bool.and_eq_true,decide_eq_true_eq] at s
       simp only [Option.some.injEq,Prod.mk.injEq] at a
       obtain ⟨rfl,rfl⟩:=a
       exact rf_one_lit A n c i xs w h f g (by omega) b s.1
     · cases a
   · rw [if_neg b] at a
     by_cases d:hasP xs i [37,37]=true
     · rw [if_pos d] at a
       simp only [Option.some.injEq,Prod.mk.injEq] at a
       obtain ⟨rfl,rfl⟩:=a
       exact rf_one_cut A n c i xs w h f g hi r b d
     · rw [if_neg d] at a
       by_cases m:xs.getD i 0=37
       · rw [if_pos m] at a
         split at a
         · cases a
         · rename_i o
           simp only [Option.some.injEq,Prod.mk.injEq] at a
           obtain ⟨rfl,rfl⟩:=a
           have:=tw_len lowerB (xs.drop (i+1))
           rw [List.length_drop] at this
           refine rf_one_word A n c i (wordEnd xs i) xs w h f g hi m (by simpa using d) (by unfold wordEnd;omega) (by unfold wordEnd;omega) (fun k v p=>?_) (fun q=>?_) o
           · have:=tw_in lowerB (xs.drop (i+1)) (k - (i+1)) (by unfold wordEnd at p;omega)
             rw [getD_drop,show i+1+(k - (i+1))=k by omega] at this
             exact this
           · have:=tw_out lowerB (xs.drop (i+1)) (by rw [List.length_drop];unfold wordEnd at q;omega)
             rw [getD_drop] at this
             exact this
       · rw [if_neg m] at a
         split at a
         · cases a
         · rename_i o
           simp only [Option.some.injEq,Prod.mk.injEq] at a
           obtain ⟨rfl,rfl⟩:=a
           exact rf_one_mark A n c i xs w h f g hi r b (by simpa using d) m o
theorem below_appendG {w wr w':World} {base e size:Nat} {A:Option Addr} {n c:Nat} {xs:List Value} (a:Below base w wr) (d:wr.grownBy w' (Value.slice A n c).ownBlock)
 (g:wr.ownsRow base e size (.slice A n c) n xs) (b:base≤wr.heap.size):Below base w w' :=
 a.grown d b fun k f=>(g.lt k f).1
def cuts (ts:List TokP):Nat:=(ts.filter fun t=>decide (t.kind=9)).length
theorem cuts_app (a b:List TokP):cuts (a++b)=cuts a+cuts b:=by simp [cuts]
theorem own_keepB {w w':World} {base e size n c:Nat} {A:Option Addr} {xs:List Value} (h:w.ownsRow base e size (.slice A n c) n xs) (a:Below w.heap.size w w'):w'.ownsRow base e size (.slice A n c) n xs:=own_keep h fun b _ d=>a.block b d
theorem toksP_end {xs:List Nat} {q i:Nat} {a:List TokP} (h:toksP xs q i=some a) (hi:xs.length≤i):a=[]:=by
 cases q with
 | zero=>cases h
 | succ q =>
   unfold toksP at h
   rw [if_pos hi] at h
   injection h with h
   exact h.symm
theorem toksP_step {xs:List Nat} {q i:Nat} {c:List TokP} (h:toksP xs q i=some c) (hi:i < xs.length):plainAt xs i=true ∧
 ((blankB (xs.getD i 0)=true∧∃ d,toksP xs d (i+1)=some c)∨(blankB (xs.getD i 0)=false∧∃ t j rest d,oneP xs i=some (t,j)∧toksP xs d j=some rest∧c=t::rest)):=by
 cases q with
 | zero=>cases h
 | succ q =>
   unfold toksP at h
   rw [if_neg (by omega)] at h
   by_cases b:plainAt xs i=true
   · rw [if_neg (by simp [b])] at h
     refine ⟨b,?_⟩
     by_cases a:blankB (xs.getD i 0)=true
     · rw [if_pos a] at h
       exact .inl ⟨a,q,h⟩
     · rw [if_neg a] at h
       refine .inr ⟨by simpa using a,?_⟩
       split at h
       · cases h
       · rename_i t j k
         rw [Option.map_eq_some_iff] at h
         obtain ⟨rest,f,g⟩:=h
         exact ⟨t,j,rest,q,k,f,g.symm⟩
   · rw [if_pos (by simp [b])] at h
     cases h
theorem rf_Tokens (A:Option Addr) (n c q:Nat) (xs:List Nat) (w:World) (h:Nums .u8 w A n c xs) (hb:∀ x ∈ xs,x < 256) (hn:n≤4000) (ts:List TokP) (aw:toksP xs q 0=some ts) (hc:cuts ts < 2) :
 Calls Tryz.prog 136 #[.slice A n c] w fun e w'=>∃ f g x y,e = .returned (.tuple #[.slice f ts.length g, .complex .f64 x y, .int .i64 0])∧Toks w' w'.heap.size f ts.length g (ts.map tkOf)∧Below w.heap.size w w':=by
 obtain rfl:=h.len
 have be:=h.cap
 have H:=LH h
 have Hb:=LH hb
 have Hc:=LH hc
 have a3:=LH aw
 have ao:(Tryz.prog.info? 231).map (fun i=>(i.zero,i.size,i.bytes))=some (some (.agg #[.int .i64 0, .string ⟨#[]⟩, .complex .f64 0 0]),3,40):=by kernel_rfl
 have a0:=LH ao
 have bi:∀ (w:World) (a:Addr) (k:FloatKind) (x y:Nat) (m:Mode),(store a (.complex k x y) m).run Tryz.prog w=stored Tryz.prog w a (.complex k x y) m:=fun w a k x y m=>run_store Tryz.prog w a _ m rfl
 clear h hb hc ao aw
 go_enter Tryz.func136,Tryz.ntmps136
 go_wp2_with fail
 go_loopw [5,6,7] (fun o a m wr=>∃ (i mk d g:Nat) (f:Option Addr) (done R:List TokP) (cs:List Value),o = .slice f d g∧a = .int .i64 (i:Int)∧m = .int .i64 (mk:Int)∧i≤xs.length∧d≤i∧mk < 2 ∧
  Hid (d=done.length)∧Hid (mk=cuts done)∧Hid (∃ Z,toksP xs Z i=some R)∧Hid (done++R=ts)∧Hid (wr.ownsRow w.heap.size 231 3 (.slice f d g) d cs)∧Hid (TokCs cs (done.map tkOf))∧Below w.heap.size w wr) (fun _ a _ _=>xs.length - (intOf a).toNat)
 case atStart=>exact ⟨0,0,0,0,none,[],ts,[],rfl,rfl,rfl,by omega,by omega,by omega,LH rfl,LH rfl,LH ⟨q,a3.out⟩,LH rfl,LH (World.ownsRow_nil _ _ _ _),LH TokCs.nil,Below.refl _ _⟩
 case round =>
  obtain ⟨i,mk,d,g,f,done,R,cs,rfl,rfl,rfl,hi,hd,bg,U,M,X,C,W,L,v⟩:=hrel
  by_cases O:i < xs.length
  case neg =>
   obtain rfl:i=xs.length:=by omega
   have CT:=LH (ref_at A xs.length c xs (xs.length:Int) wr (H.out.below v) (by omega))
   have V:Hid (done=ts∧d=ts.length):=LH (by
    obtain ⟨Z,P⟩:=X.out
    have e:=C.out
    rw [toksP_end P (Nat.le_refl _),List.append_nil] at e
    exact ⟨e,by rw [U.out,e]⟩)
   obtain ⟨l,p,D⟩:∃ a b,atP xs (xs.length:Int) = .complex .f64 a b:=by
    unfold atP PV
    split
    · exact ⟨_,_,rfl⟩
    · exact ⟨_,_,rfl⟩
   rw [D] at CT
   clear D
   go_wp2_with (go_at_call 186;(with_reducible refine CT.out.mono ?_);rintro e B ⟨rfl,rfl⟩)
   refine bodyPost_ret (results_tmp3 rfl _ _ _) rfl ?_
   refine ⟨f,g,l,p,by rw [← V.out.2];rfl,?_,v⟩
   have ht:=own_toks W.out L.out
   rw [V.out.1,V.out.2] at ht
   exact ht
  case pos =>
   obtain ⟨Z,P⟩:=X.out
   obtain ⟨ar,ba⟩:=toksP_step P O
   have I:=LH (rf_skip7 A xs.length c i xs wr (H.out.below v) Hb.out (by omega) O ar)
   clear X P ar
   rcases ba with ⟨E,S,F⟩ | ⟨E,t,j,rest,S,Y,F,rfl⟩
   · rw [E,if_pos rfl] at I
     have N:=LH F
     clear F E
     go_wp2_with (go_at_call 185;(with_reducible refine I.out.mono ?_);rintro e B ⟨rfl,rfl⟩)
     go_roundw
     case rel=>exact ⟨i+1,mk,d,g,f,done,R,cs,rfl,rfl,rfl,by omega,by omega,by omega,U,M,LH ⟨S,N.out⟩,C,W,L,v⟩
     case measure=>simp [intOf];omega
   · rw [E,if_neg Bool.false_ne_true] at I
     obtain ⟨bf,ap⟩:=oneP_lt O Y
     have G:=LH (rf_one A xs.length c i xs wr (H.out.below v) Hb.out (by omega) O t j Y)
     have N:=LH F
     have a1:Hid (cuts (done++[t]) < 2):=LH (by
      have u:=Hc.out
      rw [← C.out,show done++t::rest=(done++[t])++rest by simp,cuts_app] at u
      omega)
     obtain ⟨l,p,D⟩:∃ a b,atP xs (i:Int) = .complex .f64 a b:=by
      unfold atP PV
      split
      · exact ⟨_,_,rfl⟩
      · exact ⟨_,_,rfl⟩
     rw [D] at G
     have ag:Hid (done++[t]++rest=ts):=LH (by rw [← C.out];simp)
     have az:=LH (TokCs.snoc L.out (tkOf t) l p)
     have T:Hid (cuts [t]=if t.kind=9 then 1 else 0):=LH (by
      unfold cuts
      by_cases r:t.kind=9
      · simp [r]
      · simp [r])
     have Ht:Hid (tkOf t=(t.kind,str t.text)):=LH rfl
     clear F E Y D L C
     generalize av:tkOf t=tk at *
     generalize a8:t.kind=s at *
     generalize ax:str t.text=z at *
     unfold TokV at G
     rw [ax] at G
     have a2:=LH av
     clear a8 ax av
     have r:((s == 9)=true∧Hid (cuts [t]=1))∨((s == 9)=false∧Hid (cuts [t]=0)):=by
      by_cases r:s=9
      · exact .inl ⟨by simp [r],LH (by rw [T.out,if_pos r])⟩
      · exact .inr ⟨by simp [r],LH (by rw [T.out,if_neg r])⟩
     clear T
     rcases r with ⟨e9,J⟩ | ⟨e9,J⟩
     all_goals
      go_wp2_with (first
       | (go_at_call 185;(with_reducible refine I.out.mono ?_);rintro e B ⟨rfl,rfl⟩)
       | (go_at_call 187;(with_reducible refine G.out.mono ?_);rintro e B ⟨rfl,ak⟩
          have al:=below_tail v ak
          have a6:=below_alloc al (.cells #[.int .i64 s, .string z, .complex .f64 l p] 231)
          have bd:w.heap.size≤B.heap.size:=al.size
          have p5:=alloc_size B (.cells #[.int .i64 s, .string z, .complex .f64 l p] 231)
          have ah:=LH ((own_keepB W.out ak).alloc (.cells #[.int .i64 s, .string z, .complex .f64 l p] 231)))
       | (at_builtin;refine wpl_appendT (w:=B.alloc (.cells #[.int .i64 s, .string z, .complex .f64 l p] 231)) rfl _ _ 185 rfl w.heap.size 231 _ 3 40 Tryz.underlying185 a0.out (by decide) (by decide) f d g cs rfl ah.out [.int .i64 s, .string z, .complex .f64 l p] rfl (by rw [p5];rfl) (by simp [Value.oneCell']) (by omega) (by omega) (by omega) ?_;intro A4 c4 w4 ho a7 ha))
      have a9:mk+cuts [t] < 2:=by
       have u:=a1.out
       rwa [cuts_app,← M.out] at u
      rw [J.out] at a9
      have ab:=LH (below_appendG a6 a7 ah.out (by omega))
      have ad:Hid (TokCs (cs++[.int .i64 s, .string z, .complex .f64 l p]) ((done++[t]).map tkOf)):=LH (by
       have u:=az.out
       rw [Ht.out] at u
       rw [List.map_append,List.map_cons,List.map_nil,a2.out,Ht.out]
       exact u)
      have af:Hid (d+1=(done++[t]).length):=LH (by rw [List.length_append,← U.out];rfl)
      go_roundw
      case rel =>
       first
        | exact ⟨j,mk+1,d+1,c4,A4,done++[t],rest,_,rfl,rfl,by go_num,ap,by omega,by omega,af,LH (by have u:=M.out;have h2:=J.out;rw [cuts_app];omega),LH ⟨S,N.out⟩,ag,LH ho,ad,ab.out⟩
        | exact ⟨j,mk,d+1,c4,A4,done++[t],rest,_,rfl,rfl,rfl,ap,by omega,by omega,af,LH (by have u:=M.out;have h2:=J.out;rw [cuts_app];omega),LH ⟨S,N.out⟩,ag,LH ho,ad,ab.out⟩
      case measure=>simp [intOf];omega
def remR (w:World) (p:Nat):Nat:=match w.cell? ⟨p,0,none⟩ with
 | some (.slice _ n _)=>n
 | _=>0
theorem RdAt.rem {w:World} {p:Nat} {ts:List Tk} (h:RdAt w p ts):remR w p=ts.length:=by
 obtain ⟨A,c,x,y,l,m,f,d,b,a,g,j,k⟩:=h.parts
 unfold remR
 rw [a]
theorem RdAt.keep {w w':World} {p:Nat} {ts:List Tk} (h:RdAt w p ts) (j:w.heap.size≤w'.heap.size) (b:∀ k,k≤p→k < w.heap.size→w'.heap[k]? = w.heap[k]?):RdAt w' p ts:=by
 obtain ⟨g,A,c,x,y,m,n,a,l⟩:=h
 exact ⟨g,A,c,x,y,m,n,(b p (Nat.le_refl _) a.lt).trans a,l.keep j fun k d f=>b k (Nat.le_of_lt d) f⟩
theorem RdAt.app {w w':World} {p base e size n c:Nat} {A:Option Addr} {xs:List Value} {ts:List Tk} (h:RdAt w p ts) (a:w.grownBy w' (Value.slice A n c).ownBlock) (d:w.ownsRow base e size (.slice A n c) n xs) (g:p < base):RdAt w' p ts :=
 h.keep a.size fun k f b=>a.block k b fun e=>by have:=(d.lt k e.symm).1;omega
theorem own_grown {w w':World} {p base e size n c:Nat} {A:Option Addr} {xs:List Value} (a:w.ownsRow base e size (.slice A n c) n xs) (g:w.grownBy w' (some p)) (h:p < base):w'.ownsRow base e size (.slice A n c) n xs :=
 own_keep a fun b d f=>g.block b f fun e=>by injection e with e;have:=(a.lt b d).1;omega
theorem grown_app {w w1 w':World} {p base e size n c:Nat} {A:Option Addr} {xs:List Value} (h:w.grownBy w1 (some p)) (a:w1.grownBy w' (Value.slice A n c).ownBlock) (f:w1.ownsRow base e size (.slice A n c) n xs) (g:w.heap.size≤base):w.grownBy w' (some p) :=
 ⟨a.os.trans h.os,a.tape.trans h.tape,a.output.trans h.output,Nat.le_trans h.size a.size,fun k b d=>(a.block k (Nat.lt_of_lt_of_le b h.size) fun e=>by have:=(f.lt k e.symm).1;omega).trans (h.block k b d)⟩
theorem isP_sym (ts:List Tk):isP 1 2 ts=isSym (headK ts):=by
 cases ts with
 | nil=>rfl
 | cons t ts=>rfl
theorem rd_refs (p:Nat) (ts:List Tk) (w:World) (h:RdAt w p ts) :
 Calls Tryz.prog 224 #[.pointer (some ⟨p,0,none⟩)] w fun e w'=>∃ A c cs,e = .returned (.slice A (spanS ts).1.length c) ∧
  w'.ownsRow w.heap.size 191 2 (.slice A (spanS ts).1.length c) (spanS ts).1.length cs∧RefCs cs (spanS ts).1∧RdAt w' p (spanS ts).2∧w.grownBy w' (some p):=by
 have hl:=h.len
 have L:=h.lt
 have S:=LH h
 have J:(Tryz.prog.info? 191).map (fun i=>(i.zero,i.size,i.bytes))=some (some (.agg #[.string ⟨#[]⟩, .complex .f64 0 0]),2,32):=by kernel_rfl
 have T:=LH J
 clear h J
 go_enter Tryz.func224,Tryz.ntmps224
 go_wp2_with fail
 go_loopw [3] (fun o wr=>∃ (d c:Nat) (A:Option Addr) (done:List ByteArray) (a:List Tk) (cs:List Value),o = .slice A d c∧d+a.length≤4000∧Hid (d=done.length)∧Hid (done++(spanS a).1=(spanS ts).1)∧Hid ((spanS a).2=(spanS ts).2) ∧
  Hid (wr.ownsRow w.heap.size 191 2 (.slice A d c) d cs)∧Hid (RefCs cs done)∧Hid (RdAt wr p a)∧Hid (w.grownBy wr (some p))) (fun _ wr=>remR wr p)
 case atStart=>exact ⟨0,0,none,[],ts,[],rfl,by omega,LH rfl,LH rfl,LH rfl,LH (World.ownsRow_nil _ _ _ _),LH RefCs.nil,S,LH (grown_refl _ _)⟩
 case round =>
  obtain ⟨d,c,A,done,a,cs,rfl,H,B,n,q,C,z,g,l⟩:=hrel
  have f:=LH (rd_is p 1 2 a wr g.out)
  rw [isP_sym] at f
  by_cases b:isSym (headK a)=true
  case neg =>
   have r:isSym (headK a)=false:=by simpa using b
   have k:Hid (done=(spanS ts).1∧a=(spanS ts).2):=LH (by
    have E:=n.out
    have F:=q.out
    rw [spanS_no r] at E F
    exact ⟨by simpa using E,F⟩)
   rw [r] at f
   clear b r
   go_wp2_with (go_at_call 225;(with_reducible refine f.out.mono ?_);rintro e v ⟨rfl,rfl⟩)
   go_ret
   have G:d=(spanS ts).1.length:=by rw [← k.out.1];exact B.out
   refine ⟨A,c,cs,by rw [← G];rfl,?_,?_,?_,l.out⟩
   · rw [← G];exact C.out
   · rw [← k.out.1];exact z.out
   · rw [← k.out.2];exact g.out
  case pos =>
   cases a with
   | nil=>cases b
   | cons t a =>
     have u:=spanS_yes (t:=t) (ts:=a) b
     have CT:=LH (rd_take p 1 2 t a wr g.out (by rw [isP_sym];exact b))
     have X:Hid ((done++[t.2])++(spanS a).1=(spanS ts).1):=LH (by rw [← n.out,u];simp)
     have Y:Hid ((spanS a).2=(spanS ts).2):=LH (by rw [← q.out,u])
     have V:Hid (remR wr p=a.length+1):=LH (by rw [g.out.rem];rfl)
     have af:d+a.length+1≤4000:=by simp only [List.length_cons] at H;omega
     rw [b] at f
     clear b u n q H
     generalize t.2=s at *
     go_wp2_with (first
      | (go_at_call 225;(with_reducible refine f.out.mono ?_);rintro e v ⟨rfl,rfl⟩)
      | (go_at_call 189;(with_reducible refine CT.out.mono ?_);rintro e v ⟨⟨x,y,rfl⟩,M,j⟩
         have U:=LH M
         have P:=LH (grown_trans l.out j)
         have m:=LH (own_grown C.out j L)
         have aa:w.heap.size≤v.heap.size:=Nat.le_trans l.out.size j.size
         clear M j)
      | (at_builtin;refine wpl_appendT rfl _ _ 197 rfl w.heap.size 191 _ 2 32 Tryz.underlying197 T.out (by decide) (by decide) A d c cs rfl m.out [.string s, .complex .f64 x y] rfl rfl (by simp [Value.oneCell']) (by omega) (by omega) aa ?_;intro N Z w4 ho I ha))
     have D:=LH (U.out.app I m.out L)
     have R:=LH (grown_app P.out I m.out (Nat.le_refl _))
     have O:Hid (d+1=(done++[s]).length):=LH (by rw [List.length_append,← B.out];rfl)
     have W:Hid (remR w4 p=a.length):=LH D.out.rem
     go_roundw
     case rel=>exact ⟨d+1,Z,N,done++[s],a,_,rfl,by omega,O,X,Y,LH ho,LH (z.out.snoc s x y),D,R⟩
     case measure=>rw [V.out,W.out];omega
theorem rd_decls (p:Nat) (ts:List Tk) (w:World) (h:RdAt w p ts) (a:headK ts=9) :
 Calls Tryz.prog 188 #[.pointer (some ⟨p,0,none⟩)] w fun e w'=>e = .returned (.slice none 0 0)∧w=w':=by
 have g:=h.len
 have b:=LH (rd_kind p ts w h)
 rw [a] at b
 obtain ⟨A,c,x,y,u,v,f,k,d,l,m,q,r⟩:=h.parts
 have j:0 < ts.length:=by
  cases ts with
  | nil=>cases a
  | cons t ts=>simp
 generalize ts.length=n at *
 clear h f d a
 go_enter Tryz.func188,Tryz.ntmps188
 go_wp2_with fail
 go_loopw [3] (fun o wr=>o = .slice none 0 0∧wr=w) (fun _ _=>0)
 case atStart=>exact ⟨rfl,rfl⟩
 case round =>
  obtain ⟨rfl,rfl⟩:=hrel
  go_wp2_with (go_at_call 191;(with_reducible refine b.out.mono ?_);rintro e s ⟨rfl,rfl⟩)
  go_ret
  exact ⟨rfl,rfl⟩
end Go.Proofs.YtggbjdmpjidhgaaGreatDoor
