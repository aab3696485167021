/- words that the packed base lacks. -/
import Derived.Test.YtggbjdmpjidhgaaGreatDoorVQCtW11
set_option linter.unusedVariables false
set_option linter.unusedSimpArgs false
set_option maxHeartbeats 8000000
set_option maxRecDepth 100000
namespace Go.Proofs.YtggbjdmpjidhgaaGreatDoor
open Go.RowKit
open Ieee
def IsN (d:Datum) (n:Nat):Prop:=∃ k:Nat,d = .number false (n * 2 ^ k) (-(k:Int))
theorem IsN.zero (k:Nat):IsN (.number false 0 (-(k:Int))) 0:=⟨k,by rw [Nat.zero_mul]⟩
theorem Own.drew {w:World} {g:Nat} {t:TypeId} {k:IntKind} {a:List Nat} (h:Own w g t k a):Own w.drew g t k a:=h
theorem Nums.drew {k:IntKind} {w:World} {A:Option Addr} {n c:Nat} {xs:List Nat} (h:Nums k w A n c xs):Nums k w.drew A n c xs:=h
theorem ints_one (k:IntKind) (xs:List Int):∀ u ∈ ints k xs,u.oneCell'=true:=by
 intro u a
 simp only [ints,List.mem_map] at a
 obtain ⟨x,_,rfl⟩:=a
 rfl
section
variable {P:Program} {w:World}
end
structure WSt where
 rest:List Int
 word:List Int
 posts:List Int
def symsP (f:WSt→Int→Option (WSt × Nat)):List Int→WSt→Nat→Option (WSt × Nat)
 | [],st,top=>some (st,top)
 | s::ss,st,top =>
   if 0≤s then symsP f ss { st with word:=st.word++[s] } top
   else match f st (-1 - s) with
    | none=>none
    | some (st',n)=>symsP f ss st' (max top n)
def ruleAt (G:Gr) (i:Int):Option Rul:=if 0≤i then G.rules[i.toNat]? else none
def walkP (G:Gr):Nat→WSt→Int→Option (WSt × Nat)
 | 0,_,_=>none
 | q+1,st,non =>
   match st.rest with
   | []=>none
   | i::rest =>
     match ruleAt G i with
     | none=>none
     | some r =>
       if r.left=non then
        (symsP (walkP G q) r.right { st with rest:=rest } 0).map fun x=>({ x.1 with posts:=x.1.posts++[i] },x.2+1)
       else none
theorem ruleAt_some {G:Gr} {i:Int} {r:Rul} (h:ruleAt G i=some r):∃ j:Nat,i=(j:Int)∧G.rules[j]? = some r:=by
 unfold ruleAt at h
 split at h
 · exact ⟨i.toNat,by omega,h⟩
 · cases h
structure Wr (w0 w:World) (p:Nat) (h:GH) (gs:Int) (Ar:Option Addr) (cr:Nat) (Aw:Option Addr) (cw:Nat) (Ap:Option Addr) (cp:Nat) (st:WSt):Prop where
 blk:Blk w p 167 #[.slice h.a1 h.n1 h.c1, .slice h.a2 h.n2 h.c2, .slice h.a3 h.n3 h.c3, .int .i64 gs, .slice Ar st.rest.length cr, .slice Aw st.word.length cw, .slice Ap st.posts.length cp]
 rest:Ints .i64 w0 Ar st.rest.length cr st.rest
 word:w.ownsRow (p+1) 3 1 (.slice Aw st.word.length cw) st.word.length (ints .i64 st.word)
 posts:w.ownsRow (p+1) 3 1 (.slice Ap st.posts.length cp) st.posts.length (ints .i64 st.posts)
 apart:∀ b,(Value.slice Aw st.word.length cw).ownBlock=some b→(Value.slice Ap st.posts.length cp).ownBlock=some b→False
theorem Wr.lt {j w:World} {p:Nat} {h:GH} {f:Int} {Ar b a:Option Addr} {cr d c:Nat} {g:WSt} (k:Wr j w p h f Ar cr b d a c g):p < w.heap.size:=k.blk.lt
theorem Wr.cells {j w:World} {p:Nat} {h:GH} {g:Int} {Ar c b:Option Addr} {cr f d:Nat} {a:WSt} (k:Wr j w p h g Ar cr c f b d a):p < w.heap.size∧w.cell? ⟨p,2,none⟩=some (.slice h.a3 h.n3 h.c3)∧w.cell? ⟨p,4,none⟩=some (.slice Ar a.rest.length cr)∧w.cell? ⟨p,5,none⟩=some (.slice c a.word.length f)∧w.cell? ⟨p,6,none⟩=some (.slice b a.posts.length d) ∧
 w.frozen? ⟨p,4,none⟩=false∧w.frozen? ⟨p,5,none⟩=false∧w.frozen? ⟨p,6,none⟩=false :=
 ⟨k.blk.lt,k.blk.cell 2,k.blk.cell 4,k.blk.cell 5,k.blk.cell 6,k.blk.frozen 4,k.blk.frozen 5,k.blk.frozen 6⟩
theorem Wr.next {f w:World} {p:Nat} {h:GH} {n:Int} {Ar j g:Option Addr} {cr m l:Nat} {q:WSt} (k:Wr f w p h n Ar cr j m g l q) {rest:List Int} {a:Option Addr} {c:Nat} (r:Ints .i64 f a rest.length c rest) :
 Wr f (w.setCell ⟨p,4,none⟩ (.slice a rest.length c)) p h n a c j m g l { q with rest:=rest }∧Below p w (w.setCell ⟨p,4,none⟩ (.slice a rest.length c)):=by
 have o:∀ b,b ≠ p→(w.setCell ⟨p,4,none⟩ (.slice a rest.length c)).heap[b]? = w.heap[b]? := fun b d=>Below.heap_setCell w ⟨p,4,none⟩ _ b d
 refine ⟨⟨k.blk.set 4 _,r,own_kept k.word fun b d _ _=>o b (by omega),own_kept k.posts fun b d _ _=>o b (by omega),k.apart⟩,grown_is_below (grown_set _ _ _ _) (Nat.le_of_lt k.lt) (Nat.le_refl _)⟩
theorem Wr.putW {u w w1:World} {p:Nat} {h:GH} {t:Int} {Ar l q:Option Addr} {cr m r:Nat} {a:WSt} (k:Wr u w p h t Ar cr l m q r a) (s:Int) (c:Option Addr) (d:Nat)
 (z:w1.ownsRow (p+1) 3 1 (.slice c (a.word.length+1) d) (a.word.length+1) (ints .i64 a.word++[.int .i64 s])) (f:w.grownBy w1 (Value.slice l a.word.length m).ownBlock)
 (v:∀ b,(Value.slice c (a.word.length+1) d).ownBlock=some b→b < w.heap.size→(Value.slice l a.word.length m).ownBlock=some b) :
 Wr u (w1.setCell ⟨p,5,none⟩ (.slice c (a.word.length+1) d)) p h t Ar cr c d q r { a with word:=a.word++[s] }∧Below p w (w1.setCell ⟨p,5,none⟩ (.slice c (a.word.length+1) d)):=by
 have o:∀ b,b ≠ p→(w1.setCell ⟨p,5,none⟩ (.slice c (a.word.length+1) d)).heap[b]? = w1.heap[b]? := fun b g=>Below.heap_setCell w1 ⟨p,5,none⟩ _ b g
 have n:(a.word++[s]).length=a.word.length+1:=by simp
 have A:=f.size
 refine ⟨⟨?_,k.rest,?_,?_,?_⟩,?_⟩
 · have x:=k.blk.grown f fun e=>by have:=(k.word.lt p e.symm).1;omega
   have:=x.set 5 (.slice c (a.word.length+1) d)
   rw [n]
   exact this
 · rw [n,ints_snoc]
   exact own_kept z fun b g _ _=>o b (by omega)
 · exact own_kept k.posts fun b g j y=>(o b (by omega)).trans (f.block b y fun e=>k.apart b e.symm j)
 · rw [n]
   intro b h1 j
   exact k.apart b (v b h1 (k.posts.lt b j).2) j
 · refine ⟨f.os,f.tape,f.output,by simpa using A,fun b g=>(o b (by omega)).trans (f.block b (Nat.lt_trans g k.lt) fun e=>?_)⟩
   have:=(k.word.lt b e.symm).1
   omega
theorem Wr.putP {u w w1:World} {p:Nat} {h:GH} {t:Int} {Ar q j:Option Addr} {cr r l:Nat} {a:WSt} (k:Wr u w p h t Ar cr q r j l a) (s:Int) (c:Option Addr) (d:Nat)
 (z:w1.ownsRow (p+1) 3 1 (.slice c (a.posts.length+1) d) (a.posts.length+1) (ints .i64 a.posts++[.int .i64 s])) (f:w.grownBy w1 (Value.slice j a.posts.length l).ownBlock)
 (v:∀ b,(Value.slice c (a.posts.length+1) d).ownBlock=some b→b < w.heap.size→(Value.slice j a.posts.length l).ownBlock=some b) :
 Wr u (w1.setCell ⟨p,6,none⟩ (.slice c (a.posts.length+1) d)) p h t Ar cr q r c d { a with posts:=a.posts++[s] }∧Below p w (w1.setCell ⟨p,6,none⟩ (.slice c (a.posts.length+1) d)):=by
 have o:∀ b,b ≠ p→(w1.setCell ⟨p,6,none⟩ (.slice c (a.posts.length+1) d)).heap[b]? = w1.heap[b]? := fun b g=>Below.heap_setCell w1 ⟨p,6,none⟩ _ b g
 have n:(a.posts++[s]).length=a.posts.length+1:=by simp
 have A:=f.size
 refine ⟨⟨?_,k.rest,?_,?_,?_⟩,?_⟩
 · have x:=k.blk.grown f fun e=>by have:=(k.posts.lt p e.symm).1;omega
   have:=x.set 6 (.slice c (a.posts.length+1) d)
   rw [n]
   exact this
 · exact own_kept k.word fun b g m y=>(o b (by omega)).trans (f.block b y fun e=>k.apart b m e.symm)
 · rw [n,ints_snoc]
   exact own_kept z fun b g _ _=>o b (by omega)
 · rw [n]
   intro b h1 m
   exact k.apart b h1 (v b m (k.word.lt b h1).2)
 · refine ⟨f.os,f.tape,f.output,by simpa using A,fun b g=>(o b (by omega)).trans (f.block b (Nat.lt_trans g k.lt) fun e=>?_)⟩
   have:=(k.posts.lt b e.symm).1
   omega
structure Came (N:Nat) (st st':WSt):Prop where
 rest:st'.rest.length≤st.rest.length
 word:st'.word.length+6 * st'.rest.length≤N
 posts:st'.posts.length+st'.rest.length≤st.posts.length+st.rest.length
theorem Ints.tail {w:World} {b a n c:Nat} {f:List Int} (h:Ints .i64 w (some ⟨b,a,none⟩) n c f) (i:Nat) (hi:i≤n) :
 Ints .i64 w (if c=i then some ⟨b,a,none⟩ else some ⟨b,a+i,none⟩) (n - i) (c - i) (f.drop i):=by
 have g:=h.len
 have j:=h.cap
 by_cases d:c=i
 · rw [if_pos d]
   obtain rfl:i=n:=by omega
   rw [Nat.sub_self,← g,List.drop_length]
   exact Ints.nil _ _ _ _ (by omega)
 · rw [if_neg d]
   have:=h.part i (n - i) (c - i) (by omega) (by omega) (by omega)
   rwa [List.take_of_length_le (by rw [List.length_drop];omega)] at this
structure Less (st st':WSt):Prop where
 rest:st'.rest.length≤st.rest.length
 word:st'.word.length+6 * st'.rest.length≤st.word.length+6 * st.rest.length
 posts:st'.posts.length+st'.rest.length≤st.posts.length+st.rest.length
theorem Less.refl (a:WSt):Less a a:=⟨Nat.le_refl _,Nat.le_refl _,Nat.le_refl _⟩
def Walked (k:World) (G:Gr) (q p:Nat) (h:GH) (j:Int) (a:WSt) (non:Int) (w:World) (e:Ending) (w':World):Prop :=
 ∃ Ar cr d g c f b,Wr k w' p h j Ar cr d g c f b∧Below p w w'∧Less a b ∧
   ((walkP G q a non=none∧e = .returned (.int .i64 0))∨(∃ n:Nat,walkP G q a non=some (b,n)∧0 < n∧n≤q∧e = .returned (.int .i64 (n:Int))))
theorem walkP_nil {G:Gr} {q:Nat} {a:WSt} {non:Int} (h:a.rest=[]):walkP G q a non=none:=by
 cases q with
 | zero=>rfl
 | succ q =>
   unfold walkP
   rw [h]
theorem walkP_bad {G:Gr} {q:Nat} {a:WSt} {non i:Int} {rest:List Int} (h:a.rest=i::rest) (b:∀ r,ruleAt G i=some r→r.left ≠ non):walkP G (q+1) a non=none:=by
 unfold walkP
 rw [h]
 simp only
 split
 · rfl
 · rename_i r c
   rw [if_neg (b r c)]
theorem symsP_word {f:WSt→Int→Option (WSt × Nat)} {l:List Int} {k top:Nat} {a:WSt} {s:Int} (b:l[k]? = some s) (h0:0≤s):symsP f (l.drop k) a top=symsP f (l.drop (k+1)) { a with word:=a.word++[s] } top:=by
 rw [drop_get b,symsP,if_pos h0]
theorem symsP_none {f:WSt→Int→Option (WSt × Nat)} {l:List Int} {k top:Nat} {a:WSt} {s:Int} (c:l[k]? = some s) (h0:¬ 0≤s) (b:f a (-1 - s)=none):symsP f (l.drop k) a top=none:=by
 rw [drop_get c,symsP,if_neg h0,b]
theorem symsP_some {f:WSt→Int→Option (WSt × Nat)} {l:List Int} {k top n:Nat} {a b:WSt} {s:Int} (d:l[k]? = some s) (h0:¬ 0≤s) (c:f a (-1 - s)=some (b,n)):symsP f (l.drop k) a top=symsP f (l.drop (k+1)) b (max top n):=by
 rw [drop_get d,symsP,if_neg h0,c]
theorem walkP_good {G:Gr} {q:Nat} {a:WSt} {non i:Int} {rest:List Int} {r:Rul} (h:a.rest=i::rest) (c:ruleAt G i=some r) (b:r.left=non) :
 walkP G (q+1) a non=(symsP (walkP G q) r.right { a with rest:=rest } 0).map fun x=>({ x.1 with posts:=x.1.posts++[i] },x.2+1):=by
 rw [walkP,h]
 simp only
 rw [c]
 simp only
 rw [if_pos b]
theorem tr_walk (D:World) (h:GH) (G:Gr) (gs:Int) (hg:GrAt D h G) (az:G.Fits) (p:Nat) (cv:D.heap.size≤p):∀ (q:Nat) (a:WSt) (non:Int) (w:World) (Ar:Option Addr) (cr:Nat) (l:Option Addr) (u:Nat) (g:Option Addr) (t:Nat),
 q≤400→a.rest.length≤q→a.word.length+6 * a.rest.length≤4000→a.posts.length+a.rest.length≤4000→-100≤non→non≤100→Below D.heap.size D w→Wr D w p h gs Ar cr l u g t a →
 Calls Tryz.prog 175 #[.pointer (some ⟨p,0,none⟩), .int .i64 non] w (Walked D G q p h gs a non w):=by
 intro q
 induction q with
 | zero =>
   intro a non w Ar cr l u g t hq A W a5 bx bz hB k
   have a4:a.rest=[]:=List.eq_nil_of_length_eq_zero (by omega)
   obtain ⟨hp,z2,z4,z5,z6,v4,v5,v6⟩:=k.cells
   have T:a.rest.length=0:=by rw [a4];rfl
   rw [T] at z4
   have m:=LH k
   have f:=LH (walkP_nil (G:=G) (q:=0) (non:=non) a4)
   clear k a4 A W a5 T
   go_enter Tryz.func175,Tryz.ntmps175
   go_wp2_with fail
   go_ret
   exact ⟨Ar,cr,l,u,g,t,a,m.out,Below.refl _ _,Less.refl _, .inl ⟨f.out,rfl⟩⟩
 | succ q ih =>
   intro a non w Ar cr l u g t hq A W a5 bx bz hB k
   obtain ⟨hp,z2,z4,z5,z6,v4,v5,v6⟩:=k.cells
   cases B:a.rest with
   | nil =>
     have T:a.rest.length=0:=by rw [B];rfl
     rw [T] at z4
     have m:=LH k
     have f:=LH (walkP_nil (G:=G) (q:=q+1) (non:=non) B)
     clear k B A W a5 T ih
     go_enter Tryz.func175,Tryz.ntmps175
     go_wp2_with fail
     go_ret
     exact ⟨Ar,cr,l,u,g,t,a,m.out,Below.refl _ _,Less.refl _, .inl ⟨f.out,rfl⟩⟩
   | cons i rest =>
     have ak:=k.rest
     have ct:a.rest.length=rest.length+1:=by rw [B];rfl
     have dl:=ak.cap
     obtain ⟨b,C,i',rfl,hb,bk,q0⟩:=ak.get (j:=0) (by omega)
     obtain rfl:i=i':=by
      have:=bk.out
      rw [B] at this
      simpa using this
     rw [Nat.add_zero,← hB.cell (p:=⟨b,C,none⟩) hb] at q0
     rw [ct] at z4
     obtain ⟨a1,n1,c1,a2,n2,c2,a3,n3,c3⟩:=h
     have e3:G.rules.length=n3:=hg.rules.len
     have du:n3≤40:=by have:=az.n3;omega
     have k3:=hg.rules.cap
     simp only [] at z2 k3
     have m:=LH k
     have O:=LH B
     have Hg:=LH hg
     have Y:=LH az
     have HB:=LH hB
     have cd:=LH ak
     have IH:=LH ih
     clear k B hg az hB ak ih bk
     by_cases dq:i < 0
     · have f:Hid (walkP G (q+1) a non=none):=LH (walkP_bad O.out fun r A=>by
        obtain ⟨j,hj,_⟩:=ruleAt_some A
        omega)
       go_enter Tryz.func175,Tryz.ntmps175
       go_wp2_with fail
       go_ret
       exact ⟨_,cr,l,u,g,t,a,m.out,Below.refl _ _,Less.refl _, .inl ⟨f.out,rfl⟩⟩
     by_cases dr:(n3:Int)≤i
     · have f:Hid (walkP G (q+1) a non=none):=LH (walkP_bad O.out fun r A=>by
        obtain ⟨j,hj,cq⟩:=ruleAt_some A
        have:=(List.getElem?_eq_some_iff.1 cq).1
        omega)
       go_enter Tryz.func175,Tryz.ntmps175
       go_wp2_with fail
       go_ret
       exact ⟨_,cr,l,u,g,t,a,m.out,Below.refl _ _,Less.refl _, .inl ⟨f.out,rfl⟩⟩
     obtain ⟨d,rfl⟩:∃ d:Nat,i=(d:Int):=⟨i.toNat,by omega⟩
     have cn:d < n3:=by omega
     obtain ⟨rb,ba,r,Arr,dj,rfl,b1,bp,b6,dd,d7,a6⟩:=Hg.out.rules.get cn
     rw [← HB.out.cell (p:=⟨rb,ba+d * 3,none⟩) b1] at b6
     have aj:ruleAt G (d:Int)=some r:=by
      unfold ruleAt
      rw [if_pos (by omega),Int.toNat_natCast]
      exact bp.out
     by_cases J:r.left=non
     case neg =>
      have dv:(r.left != non)=true:=by rw [bne_iff_ne];exact J
      have f:Hid (walkP G (q+1) a non=none):=LH (walkP_bad O.out fun r' ai=>by
       rw [aj] at ai
       injection ai with ai
       rw [← ai]
       exact J)
      clear aj J
      generalize r.left=rl at *
      go_enter Tryz.func175,Tryz.ntmps175
      go_wp2_with fail
      go_ret
      exact ⟨_,cr,l,u,g,t,a,m.out,Below.refl _ _,Less.refl _, .inl ⟨f.out,rfl⟩⟩
     case pos =>
      rw [J] at b6
      have bj:=LH (walkP_good (q:=q) O.out aj J)
      rw [← HB.out.cell (p:=⟨rb,ba+d * 3+1,none⟩) b1] at dd
      have dy:rb ≠ p:=by omega
      have a7:=List.mem_of_getElem? bp.out
      have dt:=Y.out.len r a7
      have b3:=Y.out.sym r a7
      have dn:=Y.out.n2
      have dp:=Y.out.n1
      have dm:=a6.cap
      have hT:=cd.out.tail 1 (by omega)
      rw [show a.rest.length - 1=rest.length by omega,show a.rest.drop 1=rest by rw [O.out];rfl] at hT
      have ce:=LH a6
      have HT:=LH hT
      have bv:(Tryz.prog.info? 3).map (fun i=>(i.zero,i.size,i.bytes))=some (some (.int .i64 0),1,8):=by kernel_rfl
      have bl:=LH bv
      have a8:∀ s ∈ r.right,-16≤s∧s < 24:=fun s hs=>by have:=b3 s hs;omega
      have cf:=LH a8
      clear aj J a7 b3 a6 hT bv a8
      generalize r.right=right at *
      obtain ⟨X,ad⟩:∃ X,(if cr=1 then some (⟨b,C,none⟩:Addr) else some ⟨b,C+1,none⟩)=X:=⟨_,rfl⟩
      rw [ad] at HT
      have b0:=m.out.next HT.out
      have Z:=LH b0
      have cm:(cr=1∧X=some ⟨b,C,none⟩)∨(¬ cr=1∧X=some ⟨b,C+1,none⟩):=by
       by_cases hc:cr=1
       · exact .inl ⟨hc,by rw [← ad,if_pos hc]⟩
       · exact .inr ⟨hc,by rw [← ad,if_neg hc]⟩
      clear b0 ad
      rcases cm with ⟨bu,rfl⟩ | ⟨bu,rfl⟩
      case' inl =>
       have b2:rest.length=0:=by omega
       subst bu
       rw [b2] at Z
       go_enter Tryz.func175,Tryz.ntmps175
       go_wp2_with fail
       obtain ⟨a0,ay⟩:=Z.out
       generalize w.setCell ⟨p,4,none⟩ (.slice (some ⟨b,C,none⟩) 0 (1 - 1))=W1 at *
       clear b2
      case' inr =>
       go_enter Tryz.func175,Tryz.ntmps175
       go_wp2_with fail
       obtain ⟨a0,ay⟩:=Z.out
       generalize w.setCell ⟨p,4,none⟩ (.slice (some ⟨b,C+1,none⟩) rest.length (cr - 1))=W1 at *
      all_goals
       have cb:=LH a0
       have b9:=LH ay
       clear a0 ay Z
       go_loopw [6,65] (fun v6 dc wr=>∃ (k top:Nat) (c:WSt) (M:Option Addr) (R:Nat) (F:Option Addr) (I:Nat) (E:Option Addr) (H:Nat),v6 = .int .i64 (top:Int)∧dc = .int .i64 (k:Int)∧k≤right.length∧top≤q∧c.rest.length≤rest.length ∧
        c.word.length+6 * c.rest.length+(right.length - k)≤a.word.length+6 * (rest.length+1)∧c.posts.length+c.rest.length+1≤a.posts.length+(rest.length+1)∧Hid (Wr D wr p ⟨a1,n1,c1,a2,n2,c2,some ⟨rb,ba,none⟩,n3,c3⟩ gs M R F I E H c)∧Hid (Below p W1 wr) ∧
        Hid (symsP (walkP G q) right { a with rest:=rest } 0=symsP (walkP G q) (right.drop k) c top)) (fun _ v _=>right.length - (intOf v).toNat)
       case atStart =>
        exact ⟨0,0,_,_,_,_,_,_,_,rfl,rfl,Nat.zero_le _,Nat.zero_le _,Nat.le_refl _,by simp only [];omega,by simp only [];omega,cb,LH (Below.refl _ _),LH rfl⟩
       case round =>
        obtain ⟨k,top,c,M,R,F,I,E,H,rfl,rfl,hk,c0,m1,m2,m3,o,aq,ab⟩:=hrel
        have aw:Below p w wr:=b9.out.trans aq.out
        have bh:=LH aw
        have bg:=LH (HB.out.trans (aw.mono cv))
        obtain ⟨dx,y2,y4,y5,y6,u4,u5,u6⟩:=o.out.cells
        clear aw
        by_cases cs:k < right.length
        case neg =>
         have bw:k=right.length:=by omega
         have ar:Hid (walkP G (q+1) a non=some ({ c with posts:=c.posts++[(d:Int)] },top+1)):=LH (by
          rw [bj.out,ab.out,List.drop_eq_nil_of_le (by omega),symsP]
          rfl)
         have bn:=LH o.out.posts
         have di:=LH bw
         subst bw
         go_wp2_with (first
          | (at_builtin;refine wpl_appendT rfl _ _ 27 rfl (p+1) 3 _ 1 8 Tryz.underlying27 bl.out (by decide) (by decide) E c.posts.length H (ints .i64 c.posts) rfl bn.out [.int .i64 (d:Int)] rfl rfl (by simp [Value.oneCell']) (by omega) (by omega) (by omega) ?_;intro L P w4 V z S
             have y:=o.out.blk.grown z (by intro e;have:=(bn.out.lt p e.symm).1;omega)
             have x5:w4.cell? ⟨p,6,none⟩=some (.slice E c.posts.length H):=y.cell 6
             have x6:=y.frozen 6
             have N:=LH (o.out.putP (d:Int) L P V z S)
             clear y V z S))
         go_ret
         have cx:(c.posts++[(d:Int)]).length=c.posts.length+1:=by simp
         refine ⟨M,R,F,I,L,P,{ c with posts:=c.posts++[(d:Int)] },N.out.1,bh.out.trans N.out.2,⟨?_,?_,?_⟩, .inr ⟨top+1,ar.out,by omega,by omega,?_⟩⟩
         · show c.rest.length≤a.rest.length
           omega
         · show c.word.length+6 * c.rest.length≤a.word.length+6 * a.rest.length
           omega
         · show (c.posts++[(d:Int)]).length+c.rest.length≤a.posts.length+a.rest.length
           rw [cx]
           omega
         · first
            | rfl
            | (congr 2;omega)
        case pos =>
         obtain ⟨sb,so,s,rfl,a8,Hs,qs⟩:=(ce.out.below bg.out).get cs
         have dz:=cf.out s (List.mem_of_getElem? Hs.out)
         by_cases h0:0≤s
         case pos =>
          have bo:=LH o.out.word
          have cc:=LH h0
          go_wp2_with (first
           | (at_builtin;refine wpl_appendT rfl _ _ 27 rfl (p+1) 3 _ 1 8 Tryz.underlying27 bl.out (by decide) (by decide) F c.word.length I (ints .i64 c.word) rfl bo.out [.int .i64 s] rfl rfl (by simp [Value.oneCell']) (by omega) (by omega) (by omega) ?_;intro L P w4 V z S
              have y:=o.out.blk.grown z (by intro e;have:=(bo.out.lt p e.symm).1;omega)
              have x5:w4.cell? ⟨p,5,none⟩=some (.slice F c.word.length I):=y.cell 5
              have x6:=y.frozen 5
              have N:=LH (o.out.putW s L P V z S)
              clear y V z S))
          have W:(c.word++[s]).length=c.word.length+1:=by simp
          go_roundw
          case rel=>exact ⟨k+1,top,{ c with word:=c.word++[s] },M,R,L,P,E,H,rfl,by go_num,by omega,c0,m1,by show (c.word++[s]).length+6 * c.rest.length+(right.length - (k+1))≤a.word.length+6 * (rest.length+1);rw [W];omega,m3,LH N.out.1,LH (aq.out.trans N.out.2),LH (by rw [ab.out,symsP_word Hs.out (by have:=cc.out;omega)])⟩
          case measure=>simp [intOf];omega
         case neg =>
          have bm:=LH h0
          have d0:IntKind.i64.wrap (-1 - s)=-1 - s:=IntWalk.i64_in _ (by omega)
          have CI:=LH (IH.out c (-1 - s) wr M R F I E H (by omega) (by omega) (by omega) (by omega) (by omega) (by omega) bg.out o.out)
          go_wp2_with fail
          (with_reducible refine CI.out.mono ?_)
          rintro e w5 ⟨be,bs,bf,bt,bd,br,b5,k5,af,x,⟨U,rfl⟩ | ⟨n,U,bx,bz,rfl⟩⟩
          · have ar:Hid (walkP G (q+1) a non=none):=LH (by rw [bj.out,ab.out,symsP_none Hs.out (by have:=bm.out;omega) U];rfl)
            have au:=LH k5
            have ap:=LH af
            have L1:=x.rest
            have L2:=x.word
            have L3:=x.posts
            clear k5 af x U
            go_wp2_with fail
            go_ret
            exact ⟨be,bs,bf,bt,bd,br,b5,au.out,bh.out.trans ap.out,⟨by omega,by omega,by omega⟩, .inl ⟨ar.out,rfl⟩⟩
          · have cg:=LH (symsP_some (top:=top) Hs.out (by have:=bm.out;omega) U)
            have au:=LH k5
            have ap:=LH af
            have L1:=x.rest
            have L2:=x.word
            have L3:=x.posts
            have dw:((n:Int) == 0)=false:=by rw [beq_eq_false_iff_ne];omega
            clear k5 af x U
            go_wp2_with fail
            refine ⟨⟨k+1,max top n,b5,be,bs,bf,bt,bd,br,by rw [show max (top:Int) (n:Int)=((max top n:Nat):Int) by omega],by go_num,by omega,by omega,by omega,by omega,by omega,au,LH (aq.out.trans ap.out),LH (by rw [ab.out,cg.out])⟩,?_⟩
            simp [intOf]
            omega
def readT (G:Gr) (t:List Int):Option (List Int × List Int × Nat) :=
 if G.right && decide (t.length≤300) then
  match walkP G t.length ⟨t,[],[]⟩ G.start with
  | none=>none
  | some (st,n)=>if st.rest=[] then some (st.word,st.posts,n) else none
 else none
def WellRead (w':World) (p:Nat) (a ps:List Int):Prop :=
 ∃ c f b d,w'.cell? ⟨p,5,none⟩=some (.slice c a.length f)∧w'.cell? ⟨p,6,none⟩=some (.slice b ps.length d)∧Ints .i64 w' c a.length f a∧Ints .i64 w' b ps.length d ps
theorem tr_read (h:GH) (G:Gr) (At:Option Addr) (n c:Nat) (t:List Int) (w:World) (z:GrAt w h G) (F:∀ t ∈ G.terms,t.name.size≤maxLen) (u:Ints .i64 w At n c t) (au:n≤400) (h1:h.n1≤100) (V:h.n2≤100) (W:h.n3≤100) :
 Calls Tryz.prog 122 #[GV h G.start, .slice At n c] w fun e w'=>Below w.heap.size w w' ∧
  ((readT G t=none∧∃ a,e = .returned (.tuple #[.pointer a, .int .i64 0]))∨(∃ I ps k p,readT G t=some (I,ps,k)∧0 < k∧k≤400∧e = .returned (.tuple #[.pointer (some ⟨p,0,none⟩), .int .i64 (k:Int)])∧p < w'.heap.size∧WellRead w' p I ps)):=by
 obtain rfl:=u.len
 have ap:=u.cap
 obtain ⟨a1,n1,c1,a2,n2,c2,a3,n3,c3⟩:=h
 simp only [] at h1 V W
 have B:=alloc_below w (.cells #[.slice a1 n1 c1, .slice a2 n2 c2, .slice a3 n3 c3, .int .i64 G.start] 26)
 have Z:=GBox.new w 26 ⟨a1,n1,c1,a2,n2,c2,a3,n3,c3⟩ G.start
 have P:=LH z
 have R:=LH u
 have M:=LH (cf_Right ⟨a1,n1,c1,a2,n2,c2,a3,n3,c3⟩ G _ (z.below B) F (by simp only [];omega) (by simp only [];omega))
 clear z u F
 go_enter Tryz.func122,Tryz.ntmps122
 go_wp2_with fail
 generalize w.alloc (.cells #[.slice a1 n1 c1, .slice a2 n2 c2, .slice a3 n3 c3, .int .i64 G.start] 26)=W0 at *
 (with_reducible refine M.out.mono ?_)
 rintro e o ⟨rfl,D⟩
 have j:=below_tail B D
 have aa:=Z.below D
 have ⟨y5,y0,y1,y2,y3⟩:=aa
 simp only [] at y0 y1 y2 y3
 rcases m:G.right with _ | _
 · have d:Hid (readT G t=none):=LH (by unfold readT;rw [m];rfl)
   clear m
   go_wp2_with fail
   refine bodyPost_ret (results_tmp2 rfl _ _ _) rfl ?_
   exact ⟨j, .inl ⟨d.out,_,rfl⟩⟩
 by_cases ao:(300:Int) < (t.length:Int)
 · have d:Hid (readT G t=none):=LH (by unfold readT;rw [m,show decide (t.length≤300)=false by rw [decide_eq_false_iff_not];omega];rfl)
   clear m
   go_wp2_with fail
   refine bodyPost_ret (results_tmp2 rfl _ _ _) rfl ?_
   exact ⟨j, .inl ⟨d.out,_,rfl⟩⟩
 have r:=Gr.fits m
 have av:=r.st
 have aq:=r.n2
 have q:Hid (readT G t=match walkP G t.length ⟨t,[],[]⟩ G.start with | none=>none | some (st,n)=>if st.rest=[] then some (st.word,st.posts,n) else none):=LH (by
  unfold readT
  rw [m,show decide (t.length≤300)=true by rw [decide_eq_true_iff];omega]
  rfl)
 have E:Wr w (o.alloc (.cells #[.slice a1 n1 c1, .slice a2 n2 c2, .slice a3 n3 c3, .int .i64 G.start, .slice At t.length c, .slice none 0 0, .slice none 0 0] 167)) o.heap.size ⟨a1,n1,c1,a2,n2,c2,a3,n3,c3⟩ G.start At c none 0 none 0 ⟨t,[],[]⟩ :=
  ⟨Blk.new _ _ _,R.out,World.ownsRow_nil _ _ _ _,World.ownsRow_nil _ _ _ _,fun b Y _=>by cases Y⟩
 have y:=below_alloc j (.cells #[.slice a1 n1 c1, .slice a2 n2 c2, .slice a3 n3 c3, .int .i64 G.start, .slice At t.length c, .slice none 0 0, .slice none 0 0] 167)
 have N:=LH (tr_walk w ⟨a1,n1,c1,a2,n2,c2,a3,n3,c3⟩ G G.start P.out r o.heap.size j.size t.length ⟨t,[],[]⟩ G.start _ At c none 0 none 0 (by omega) (Nat.le_refl _) (by show 0+6 * t.length≤4000;omega) (by show 0+t.length≤4000;omega) (by omega) (by omega) y E)
 have ad:w.heap.size≤o.heap.size:=j.size
 clear m r E
 go_wp2_with fail
 have ak:=LH j
 have O:=LH y
 generalize o.alloc (.cells #[.slice a1 n1 c1, .slice a2 n2 c2, .slice a3 n3 c3, .int .i64 G.start, .slice At t.length c, .slice none 0 0, .slice none 0 0] 167)=W2 at *
 generalize o.heap.size=p at *
 clear j y
 (with_reducible refine N.out.mono ?_)
 rintro e w3 ⟨aj,an,L,U,J,T,g,v,C,X,A⟩
 obtain ⟨ae,z2,z4,z5,z6,_,_,_⟩:=v.cells
 have x:=LH (O.out.trans (C.mono ad))
 have H:WellRead w3 p g.word g.posts:=⟨L,U,J,T,z5,z6,own_sl v.word,own_sl v.posts⟩
 have S:=LH H
 clear v C X H
 by_cases l:g.rest=[]
 · have s:g.rest.length=0:=by rw [l];rfl
   rw [s] at z4
   rcases A with ⟨f,rfl⟩ | ⟨k,f,ab,ar,rfl⟩
   · have d:Hid (readT G t=none):=LH (by rw [q.out,f])
     clear f l s
     go_wp2_with fail
     refine bodyPost_ret (results_tmp2 rfl _ _ _) rfl ?_
     exact ⟨x.out, .inl ⟨d.out,_,rfl⟩⟩
   · have d:Hid (readT G t=some (g.word,g.posts,k)):=LH (by rw [q.out,f];exact if_pos l)
     clear f l s
     go_wp2_with fail
     refine bodyPost_ret (results_tmp2 rfl _ _ _) rfl ?_
     exact ⟨x.out, .inr ⟨_,_,k,p,d.out,ab,by omega,rfl,ae,S.out⟩⟩
 · have s:0 < g.rest.length:=List.length_pos_iff.2 l
   have d:Hid (readT G t=none):=LH (by
    rcases A with ⟨f,_⟩ | ⟨k,f,_⟩
    · rw [q.out,f]
    · rw [q.out,f];exact if_neg l)
   generalize g.rest.length=rl at *
   rcases A with ⟨_,rfl⟩ | ⟨k,_,_,_,rfl⟩
   all_goals
    clear l
    go_wp2_with fail
    refine bodyPost_ret (results_tmp2 rfl _ _ _) rfl ?_
    exact ⟨x.out, .inl ⟨d.out,_,rfl⟩⟩
theorem tr_Word (h:GH) (G:Gr) (At:Option Addr) (n c:Nat) (t:List Int) (w:World) (q:GrAt w h G) (s:∀ t ∈ G.terms,t.name.size≤maxLen) (u:Ints .i64 w At n c t) (E:n≤400) (h1:h.n1≤100) (C:h.n2≤100) (D:h.n3≤100) :
 Calls Tryz.prog 69 #[GV h G.start, .slice At n c] w fun e w'=>Below w.heap.size w w' ∧
  ((readT G t=none∧e = .returned (.tuple #[.slice none 0 0, .int .i64 1]))∨(∃ b ps k A m,readT G t=some (b,ps,k)∧e = .returned (.tuple #[.slice A b.length m, .int .i64 0])∧Ints .i64 w' A b.length m b)):=by
 have d:=alloc_below w (.cells #[.slice h.a1 h.n1 h.c1, .slice h.a2 h.n2 h.c2, .slice h.a3 h.n3 h.c3, .int .i64 G.start] 26)
 have y:=LH (tr_read h G At n c t _ (q.below d) s (u.below d) E h1 C D)
 have o:=LH d
 clear q s u
 go_enter Tryz.func69,Tryz.ntmps69
 go_wp2_with fail
 generalize w.alloc (.cells #[.slice h.a1 h.n1 h.c1, .slice h.a2 h.n2 h.c2, .slice h.a3 h.n3 h.c3, .int .i64 G.start] 26)=J at *
 (with_reducible refine y.out.mono ?_)
 rintro e L ⟨g,⟨f,a,rfl⟩ | ⟨b,ps,k,p,f,N,O,rfl,R,F⟩⟩
 · have j:=LH (below_tail o.out g)
   have l:=LH f
   clear f g d
   go_wp2_with fail
   refine bodyPost_ret (results_tmp2 rfl _ _ _) rfl ?_
   exact ⟨j.out, .inl ⟨l.out,rfl⟩⟩
 · have j:=LH (below_tail o.out g)
   have l:=LH f
   obtain ⟨x,B,H,M,S,T,v,r⟩:=F
   have z:=LH v
   have I:=LH r
   have P:((k:Int) == 0)=false:=by rw [beq_eq_false_iff_ne];omega
   clear f g d v r
   go_wp2_with fail
   refine bodyPost_ret (results_tmp2 rfl _ _ _) rfl ?_
   exact ⟨j.out, .inr ⟨b,ps,k,x,B,l.out,rfl,z.out⟩⟩
inductive Fs (G:Gr):List Int→List Int→List Int→List Int→Nat→Prop
 | nil:Fs G [] [] [] [] 0
 | term {s:Int} {ss ps qs wd:List Int} {m:Nat}:0≤s→Fs G ss ps qs wd m→Fs G (s::ss) ps qs (s::wd) m
 | non {s i:Int} {r:Rul} {ss p1 q1 w1 ps qs wd:List Int} {m1 m:Nat}:s < 0→ruleAt G i=some r→r.left=-1 - s→Fs G r.right p1 q1 w1 m1→Fs G ss ps qs wd m→Fs G (s::ss) (i::(p1++ps)) (q1++i::qs) (w1++wd) (max (m1+1) m)
def Stp (G:Gr) (a:WSt) (non:Int) (b:WSt) (n:Nat):Prop :=
 ∃ i r c d w1 m,ruleAt G i=some r∧r.left=non∧Fs G r.right c d w1 m∧n=m+1∧a.rest=i::(c++b.rest)∧b.word=a.word++w1∧b.posts=a.posts++(d++[i])
theorem symsP_sound {G:Gr} {f:WSt→Int→Option (WSt × Nat)} (v:∀ a non b n,f a non=some (b,n)→Stp G a non b n) :
 ∀ (ss:List Int) (a:WSt) (top:Nat) (b:WSt) (n:Nat),symsP f ss a top=some (b,n) →
   ∃ ps c d m,Fs G ss ps c d m∧n=max top m∧a.rest=ps++b.rest∧b.word=a.word++d∧b.posts=a.posts++c:=by
 intro ss
 induction ss with
 | nil =>
   intro a top b n h
   simp only [symsP,Option.some.injEq,Prod.mk.injEq] at h
   obtain ⟨rfl,rfl⟩:=h
   exact ⟨[],[],[],0, .nil,by omega,by simp,by simp,by simp⟩
 | cons s ss o =>
   intro a top b n h
   unfold symsP at h
   split at h
   · rename_i h0
     obtain ⟨ps,c,d,m,h1,l,g,j,k⟩:=o _ _ _ _ h
     exact ⟨ps,c,s::d,m, .term h0 h1,l,g,by rw [j];simp,k⟩
   · rename_i h0
     split at h
     · cases h
     · rename_i B n1 u
       obtain ⟨i,r,z,A,w1,y,a1,a2,a3,x,p,q,t⟩:=v _ _ _ _ u
       obtain ⟨ps,c,d,m,h1,l,g,j,k⟩:=o _ _ _ _ h
       exact ⟨_,_,_,_, .non (by omega) a1 a2 a3 h1,by omega,by rw [p,g];simp,by rw [j,q];simp,by rw [k,t];simp⟩
theorem walkP_sound {G:Gr}:∀ (q:Nat) (a:WSt) (non:Int) (b:WSt) (n:Nat),walkP G q a non=some (b,n)→Stp G a non b n:=by
 intro q
 induction q with
 | zero=>intro a non b n h;cases h
 | succ q l =>
   intro a non b n h
   unfold walkP at h
   split at h
   · cases h
   · rename_i i rest k
     split at h
     · cases h
     · rename_i r hi
       split at h
       · rename_i j
         cases c:symsP (walkP G q) r.right { a with rest:=rest } 0 with
         | none=>rw [c] at h;cases h
         | some x =>
           obtain ⟨t,u⟩:=x
           rw [c] at h
           simp only [Option.map_some,Option.some.injEq,Prod.mk.injEq] at h
           obtain ⟨rfl,rfl⟩:=h
           obtain ⟨ps,o,p,m,h1,s,d,f,g⟩:=symsP_sound (fun a non b n=>l a non b n) _ _ _ _ _ c
           exact ⟨i,r,ps,o,p,m,hi,j,h1,by omega,by rw [k];simp only [] at d;rw [d],f,by simp only [g,List.append_assoc]⟩
       · cases h
theorem readT_parts {G:Gr} {t f ps:List Int} {k:Nat} (h:readT G t=some (f,ps,k)):G.right=true∧t.length≤300∧Fs G [-1 - G.start] t ps f k:=by
 unfold readT at h
 split at h
 · rename_i b
   rw [Bool.and_eq_true,decide_eq_true_iff] at b
   split at h
   · cases h
   · rename_i u n l
     split at h
     · rename_i j
       simp only [Option.some.injEq,Prod.mk.injEq] at h
       obtain ⟨rfl,rfl,rfl⟩:=h
       obtain ⟨i,r,p,q,w1,m,a1,a2,a3,g,a,c,d⟩:=walkP_sound _ _ _ _ _ l
       have o:=(Gr.fits b.1).st
       have:=Fs.non (s:=-1 - G.start) (ss:=[]) (by omega) a1 (by omega) a3 .nil
       simp only [List.append_nil] at this
       rw [j,List.append_nil] at a
       simp only [List.nil_append] at c d
       simp only [] at a
       rw [a,c,d,g]
       refine ⟨b.1,by rw [← a];exact b.2,?_⟩
       rw [show max (m+1) 0=m+1 by omega] at this
       exact this
     · cases h
 · cases h
end Go.Proofs.YtggbjdmpjidhgaaGreatDoor
