/- grammars: the reference's Right, walked. -/
import Derived.Test.YtggbjdmpjidhgaaGreatDoorVQGrS1
import Derived.Shelf.Abstract
import Derived.Test.YtggbjdmpjidhgaaGreatDoorVQGrP2
import Derived.Maps.OwnOps
import Derived.Maps.OwnSet
set_option linter.unusedVariables false
set_option linter.unusedSimpArgs false
set_option maxHeartbeats 8000000
set_option maxRecDepth 100000
namespace Go.Proofs.YtggbjdmpjidhgaaGreatDoor
open Go.RowKit
theorem rf_nons (h:GH) (G:Gr) (w:World) (o:GrAt w h G) (U:h.n1≤1000) :
 Calls Tryz.prog 65 #[GV h G.start] w fun e w'=>e = .returned (.bool G.nonsOK)∧Below w.heap.size w w':=by
 obtain ⟨a1,n1,c1,a2,n2,c2,a3,n3,c3⟩:=h
 have A:Strs w a2 n2 c2 G.nons:=o.nons
 have W:G.nons.length=n2:=A.len
 have af:=A.cap
 simp only [] at U
 have r:Hid (G.nonsOK=(decide (1≤n2∧n2≤16) && allI G.nonOK G.nons)):=LH (by unfold Gr.nonsOK;rw [W])
 by_cases n:1≤n2∧n2≤16
 case neg =>
  have u:Hid (G.nonsOK=false):=LH (by rw [r.out];simp only [n,decide_false,Bool.false_and])
  have Y:((n2:Int) < 1)∨((1:Int)≤(n2:Int)∧(16:Int) < (n2:Int)):=by omega
  clear o n
  rcases Y with d | ⟨d,d2⟩
  all_goals
   go_enter Tryz.func65,Tryz.ntmps65
   go_wp2_with fail
   go_ret
   exact ⟨by rw [u.out];rfl,alloc_below _ _⟩
 have D:Hid (G.nonsOK=allI G.nonOK G.nons):=LH (by rw [r.out];simp only [n,and_self,decide_true,Bool.true_and])
 obtain ⟨ai,aj⟩:=n
 have S:=LH o
 clear r o
 go_enter Tryz.func65,Tryz.ntmps65
 have N:=GBox.new w 26 ⟨a1,n1,c1,a2,n2,c2,a3,n3,c3⟩ G.start
 go_wp2_with fail
 go_loopw [3] (fun i wr=>∃ (k:Nat),k≤n2∧i = .int .i64 (k:Int)∧Below w.heap.size w wr∧GBox wr w.heap.size ⟨a1,n1,c1,a2,n2,c2,a3,n3,c3⟩ G.start∧Hid (∀ j,j < k→∀ y,G.nons[j]? = some y→(!G.nonOK j y)=false)) (fun i _=>n2 - (intOf i).toNat)
 case atStart=>exact ⟨0,Nat.zero_le _,rfl,alloc_below _ _,N,LH fun j hj=>by omega⟩
 case round =>
  clear N
  obtain ⟨k,hk,rfl,c,v,E⟩:=hrel
  have ⟨z5,z0,z1,z2,z3⟩:=v
  simp only [] at z0 z1 z2 z3
  by_cases V:k < n2
  · obtain ⟨b,R,s,rfl,L,F,q0⟩:=A.get V
    rw [← c.cell (by exact L)] at q0
    have ae:b < wr.heap.size:=Nat.lt_of_lt_of_le L c.size
    have z:=S.out.below c
    have H:=fun w=>ref_name s w
    have I:=fun (x:Ext wr)=>rf_non ⟨a1,n1,c1,some ⟨b,R,none⟩,n2,c2,a3,n3,c3⟩ G s (bl wr x) (z.below (bl_below wr x)) (by simp only [];omega)
    have J:=fun (x:Ext wr)=>rf_term ⟨a1,n1,c1,some ⟨b,R,none⟩,n2,c2,a3,n3,c3⟩ G s (bl wr x) (z.below (bl_below wr x)) (by simp only [];omega)
    have O:G.nonOK k s=(nameB (bytesOf s) && decide (G.non s=(k:Int)) && decide (G.term s < 0)):=rfl
    have C:=LH O
    have X:=(findI_lo (fun t=>decide (t=s)) G.nons).1
    have bc:=bl_cell wr
    have Hx:=LH v
    have a:=LH c
    clear O z v c
    generalize nameB (bytesOf s)=f at *
    generalize G.non s=p at *
    generalize G.term s=B at *
    have l:=LH H
    have m:=LH I
    have CT:=LH J
    clear H I J X
    have Z:(f=false∨(f=true∧p ≠ (k:Int))∨(f=true∧p=(k:Int)∧0≤B))∨(f=true∧p=(k:Int)∧B < 0):=by
     cases f
     · simp
     · simp only [Bool.true_eq_false,false_or,true_and]
       omega
    rcases Z with M | ⟨rfl,rfl,g⟩
    · have q:Hid (G.nonsOK=false):=LH (by
       rw [D.out]
       refine allI_false F.out ?_
       rw [C.out]
       rcases M with rfl | ⟨rfl,g⟩ | ⟨rfl,rfl,g⟩
       · simp
       · simp [g]
       · simp;omega)
      rcases M with rfl | ⟨rfl,g⟩ | ⟨rfl,rfl,g⟩
      · go_wp2_with fail
        refine wp_region_below (by kernel_rfl) (by kernel_rfl) ?_
        repeat (go_big_quiet_step (first
         | (go_at_call 119;with_reducible exact bl_of_same (l.out _))
         | (go_at_call 120;with_reducible exact bl_of (m.out _))
         | (go_at_call 117;with_reducible exact bl_of (CT.out _))))
        refine wpQuiet_nil ?_
        rintro _ ⟨x,rfl⟩
        go_wp2_with fail
        go_ret
        exact ⟨by rw [q.out];rfl,a.out.trans ((bl_below wr x).mono a.out.size)⟩
      · have d:(p != (k:Int))=true:=by rw [bne_iff_ne];exact g
        clear g
        go_wp2_with fail
        refine wp_region_below (by kernel_rfl) (by kernel_rfl) ?_
        repeat (go_big_quiet_step (first
         | (go_at_call 119;with_reducible exact bl_of_same (l.out _))
         | (go_at_call 120;with_reducible exact bl_of (m.out _))
         | (go_at_call 117;with_reducible exact bl_of (CT.out _))))
        refine wpQuiet_nil ?_
        rintro _ ⟨x,rfl⟩
        go_wp2_with fail
        go_ret
        exact ⟨by rw [q.out];rfl,a.out.trans ((bl_below wr x).mono a.out.size)⟩
      · go_wp2_with fail
        refine wp_region_below (by kernel_rfl) (by kernel_rfl) ?_
        repeat (go_big_quiet_step (first
         | (go_at_call 119;with_reducible exact bl_of_same (l.out _))
         | (go_at_call 120;with_reducible exact bl_of (m.out _))
         | (go_at_call 117;with_reducible exact bl_of (CT.out _))))
        refine wpQuiet_nil ?_
        rintro _ ⟨x,rfl⟩
        go_wp2_with fail
        go_ret
        exact ⟨by rw [q.out];rfl,a.out.trans ((bl_below wr x).mono a.out.size)⟩
    · have T:Hid ((!G.nonOK k s)=false):=LH (by rw [C.out];simp;omega)
      have d:decide (0≤B)=false:=by simp;omega
      go_wp2_with fail
      refine wp_region_below (by kernel_rfl) (by kernel_rfl) ?_
      repeat (go_big_quiet_step (first
       | (go_at_call 119;with_reducible exact bl_of_same (l.out _))
       | (go_at_call 120;with_reducible exact bl_of (m.out _))
       | (go_at_call 117;with_reducible exact bl_of (CT.out _))))
      refine wpQuiet_nil ?_
      rintro _ ⟨x,rfl⟩
      go_wp2_with fail
      go_roundw
      case rel=>exact ⟨k+1,by omega,by go_num,a.out.trans ((bl_below wr x).mono a.out.size),Hx.out.below (bl_below wr x),LH (next_noneI E.out F.out T.out)⟩
      case measure=>simp [intOf];omega
  · obtain rfl:k=n2:=by omega
    have u:Hid (G.nonsOK=true):=LH (by
     rw [D.out]
     refine allI_true fun j y P=>?_
     have:=E.out j (by have:=(List.getElem?_eq_some_iff.1 P).1;omega) y P
     simpa using this)
    go_wp2_with fail
    go_ret
    exact ⟨by rw [u.out];rfl,c⟩
def RBox (w:World) (g:Nat) (left:Int) (Ar:Option Addr) (a cr:Nat) (b:Int):Prop :=
 g < w.heap.size∧w.cell? ⟨g,0,none⟩=some (.int .i64 left)∧w.cell? ⟨g,1,none⟩=some (.slice Ar a cr)∧w.cell? ⟨g,2,none⟩=some (.int .i64 b)
theorem RBox.new (w:World) (t:TypeId) (left:Int) (Ar:Option Addr) (a cr:Nat) (b:Int):RBox (w.alloc (.cells #[.int .i64 left, .slice Ar a cr, .int .i64 b] t)) w.heap.size left Ar a cr b:=by
 refine ⟨by simp,?_,?_,?_⟩ <;> (rw [alloc_cell];rfl)
theorem RBox.below {w w':World} {g:Nat} {left:Int} {Ar:Option Addr} {c cr:Nat} {d:Int} (k:RBox w g left Ar c cr d) (b:Below w.heap.size w w'):RBox w' g left Ar c cr d:=by
 obtain ⟨a,f,h,j⟩:=k
 refine ⟨Nat.lt_of_lt_of_le a b.size,?_,?_,?_⟩
 · rw [b.cell (p:=⟨g,0,none⟩) a];exact f
 · rw [b.cell (p:=⟨g,1,none⟩) a];exact h
 · rw [b.cell (p:=⟨g,2,none⟩) a];exact j
theorem two_boxes (w:World) (t u:TypeId) (h:GH) (a left:Int) (Ar:Option Addr) (b cr:Nat) (c:Int) :
 let X:=(w.alloc (.cells #[.slice h.a1 h.n1 h.c1, .slice h.a2 h.n2 h.c2, .slice h.a3 h.n3 h.c3, .int .i64 a] t)).alloc (.cells #[.int .i64 left, .slice Ar b cr, .int .i64 c] u)
 Below w.heap.size w X∧GBox X w.heap.size h a∧RBox X (w.heap.size+1) left Ar b cr c:=by
 intro X
 have g:=GBox.new w t h a
 have f:=alloc_size w (.cells #[.slice h.a1 h.n1 h.c1, .slice h.a2 h.n2 h.c2, .slice h.a3 h.n3 h.c3, .int .i64 a] t)
 refine ⟨(alloc_below w _).alloc (by rw [f];omega) _,g.below (alloc_below _ _),?_⟩
 have d:=RBox.new (w.alloc (.cells #[.slice h.a1 h.n1 h.c1, .slice h.a2 h.n2 h.c2, .slice h.a3 h.n3 h.c3, .int .i64 a] t)) u left Ar b cr c
 rw [f] at d
 exact d
theorem rf_rule (h:GH) (G:Gr) (r:Rul) (Ar:Option Addr) (cr:Nat) (w:World) (p:GrAt w h G) (B:Ints .i64 w Ar r.right.length cr r.right) (U:∀ s ∈ r.right,InI64 s) (J:h.n1≤1000) (L:h.n2≤1000) :
 Calls Tryz.prog 66 #[GV h G.start, .agg #[.int .i64 r.left, .slice Ar r.right.length cr, .int .i64 r.prec]] w fun e w'=>e = .returned (.bool (G.ruleOK r))∧Below w.heap.size w w':=by
 obtain ⟨a1,n1,c1,a2,n2,c2,a3,n3,c3⟩:=h
 have o:G.terms.length=n1:=p.terms.len
 have ag:=B.cap
 simp only [] at J L
 have t:Hid (G.ruleOK r=(decide (r.right.length≤6) && decide (-1≤r.prec∧r.prec < (n1:Int)) && r.right.all (G.symOK r.prec))):=LH (by unfold Gr.ruleOK;rw [o])
 clear o
 have C:(6 < (r.right.length:Int)∨((r.right.length:Int)≤6∧r.prec < -1)∨((r.right.length:Int)≤6∧-1≤r.prec∧(n1:Int)≤r.prec))∨((r.right.length:Int)≤6∧-1≤r.prec∧r.prec < (n1:Int)):=by omega
 rcases C with R | ⟨g1,a,I⟩
 · have v:Hid (G.ruleOK r=false):=LH (by
    rw [t.out]
    rcases R with g | ⟨g,a⟩ | ⟨g,a,I⟩
    · have:decide (r.right.length≤6)=false:=by simp;omega
      rw [this];rfl
    · have:decide (-1≤r.prec∧r.prec < (n1:Int))=false:=by simp;omega
      rw [this];simp
    · have:decide (-1≤r.prec∧r.prec < (n1:Int))=false:=by simp;omega
      rw [this];simp)
   clear p
   rcases R with g | ⟨g,a⟩ | ⟨g,a,I⟩
   all_goals
    go_enter Tryz.func66,Tryz.ntmps66
    go_wp2_with fail
    go_ret
    exact ⟨by rw [v.out];rfl,(two_boxes w _ _ ⟨a1,n1,c1,a2,n2,c2,a3,n3,c3⟩ _ _ _ _ _ _).1⟩
 have u:Hid (G.ruleOK r=r.right.all (G.symOK r.prec)):=LH (by
  rw [t.out]
  have o:decide (r.right.length≤6)=true:=by simp;omega
  have Z:decide (-1≤r.prec∧r.prec < (n1:Int))=true:=by simp;omega
  rw [o,Z];rfl)
 have V:=LH p
 have W:=LH B
 have X:=LH U
 clear t p B U
 go_enter Tryz.func66,Tryz.ntmps66
 obtain ⟨M,O,P⟩:=two_boxes w 26 52 ⟨a1,n1,c1,a2,n2,c2,a3,n3,c3⟩ G.start r.left Ar r.right.length cr r.prec
 go_wp2_with fail
 go_loopw [5] (fun i wr=>∃ (k:Nat),k≤r.right.length∧i = .int .i64 (k:Int)∧Below w.heap.size w wr∧GBox wr w.heap.size ⟨a1,n1,c1,a2,n2,c2,a3,n3,c3⟩ G.start∧RBox wr (w.heap.size+1) r.left Ar r.right.length cr r.prec∧Hid (∀ j,j < k→∀ y,r.right[j]? = some y→(!G.symOK r.prec y)=false)) (fun i _=>r.right.length - (intOf i).toNat)
 case atStart=>exact ⟨0,Nat.zero_le _,rfl,M,O,P,LH fun j hj=>by omega⟩
 case round =>
  clear M O P
  obtain ⟨k,hk,rfl,d,D,f,z⟩:=hrel
  have ⟨z5,z0,z1,z2,z3⟩:=D
  have ⟨y5,y0,y1,y2⟩:=f
  simp only [] at z0 z1 z2 z3
  by_cases aa:k < r.right.length
  · obtain ⟨b,aj,s,rfl,N,l,q0⟩:=W.out.get aa
    rw [← d.cell (by exact N)] at q0
    have af:b < wr.heap.size:=Nat.lt_of_lt_of_le N d.size
    have T:=V.out.below d
    have F:=fun (x:Ext wr)=>rf_has ⟨a1,n1,c1,a2,n2,c2,a3,n3,c3⟩ G s (bl wr x) (T.below (bl_below wr x)) (X.out s (List.mem_of_getElem? l.out)) J L
    have S:G.symOK r.prec s=(G.has s && !(decide (0≤s) && decide (r.prec=-1))):=rfl
    have n:=LH S
    have bc:=bl_cell wr
    have Hx:=LH D
    have E:=LH f
    have c:=LH d
    clear S T D f d
    generalize G.has s=m at *
    have CH:=LH F
    clear F
    have C:(m=false∨(m=true∧0≤s∧r.prec=-1))∨(m=true∧0≤s∧r.prec ≠ -1)∨(m=true∧s < 0):=by
     cases m
     · simp
     · simp only [Bool.true_eq_false,false_or,true_and]
       omega
    rcases C with (rfl | ⟨rfl,g,a⟩) | ⟨rfl,g,a⟩ | ⟨rfl,g⟩
    · have q:Hid (G.ruleOK r=false):=LH (by rw [u.out];exact all_false l.out (by rw [n.out];rfl))
      go_wp2_with fail
      refine wp_region_below (by kernel_rfl) (by kernel_rfl) ?_
      repeat (go_big_quiet_step ((go_at_call 51;with_reducible exact bl_of (CH.out _))))
      refine wpQuiet_nil ?_
      rintro _ ⟨x,rfl⟩
      go_wp2_with fail
      go_ret
      exact ⟨by rw [q.out];rfl,c.out.trans ((bl_below wr x).mono c.out.size)⟩
    · have q:Hid (G.ruleOK r=false):=LH (by rw [u.out];exact all_false l.out (by rw [n.out];simp [g,a]))
      have H:decide (0≤s)=true:=by simp;omega
      have Y:(r.prec == -1)=true:=by rw [beq_iff_eq];exact a
      clear a
      go_wp2_with fail
      refine wp_region_below (by kernel_rfl) (by kernel_rfl) ?_
      repeat (go_big_quiet_step ((go_at_call 51;with_reducible exact bl_of (CH.out _))))
      refine wpQuiet_nil ?_
      rintro _ ⟨x,rfl⟩
      go_wp2_with fail
      go_ret
      exact ⟨by rw [q.out];rfl,c.out.trans ((bl_below wr x).mono c.out.size)⟩
    · have A:Hid ((!G.symOK r.prec s)=false):=LH (by rw [n.out];simp [a])
      have H:decide (0≤s)=true:=by simp;omega
      have Y:(r.prec == -1)=false:=by rw [beq_eq_false_iff_ne];exact a
      clear a
      go_wp2_with fail
      refine wp_region_below (by kernel_rfl) (by kernel_rfl) ?_
      repeat (go_big_quiet_step ((go_at_call 51;with_reducible exact bl_of (CH.out _))))
      refine wpQuiet_nil ?_
      rintro _ ⟨x,rfl⟩
      go_wp2_with fail
      go_roundw
      case rel=>exact ⟨k+1,by omega,by go_num,c.out.trans ((bl_below wr x).mono c.out.size),Hx.out.below (bl_below wr x),E.out.below (bl_below wr x),LH (next_none z.out l.out A.out)⟩
      case measure=>simp [intOf];omega
    · have A:Hid ((!G.symOK r.prec s)=false):=LH (by rw [n.out];simp;omega)
      have H:decide (0≤s)=false:=by simp;omega
      go_wp2_with fail
      refine wp_region_below (by kernel_rfl) (by kernel_rfl) ?_
      repeat (go_big_quiet_step ((go_at_call 51;with_reducible exact bl_of (CH.out _))))
      refine wpQuiet_nil ?_
      rintro _ ⟨x,rfl⟩
      go_wp2_with fail
      go_roundw
      case rel=>exact ⟨k+1,by omega,by go_num,c.out.trans ((bl_below wr x).mono c.out.size),Hx.out.below (bl_below wr x),E.out.below (bl_below wr x),LH (next_none z.out l.out A.out)⟩
      case measure=>simp [intOf];omega
  · obtain rfl:k=r.right.length:=by omega
    have v:Hid (G.ruleOK r=true):=LH (by
     rw [u.out]
     refine all_true fun j y f=>?_
     have:=z.out j (List.getElem?_eq_some_iff.1 f).1 y f
     simpa using this)
    go_wp2_with fail
    go_ret
    exact ⟨by rw [v.out];rfl,d⟩
theorem lefts_next {G:Gr} {k:Nat} {r:Rul} {top:Int} (h:G.leftsGo (G.rules.take k) (-1)=some top) (a:G.rules[k]? = some r) :
 G.leftsGo (G.rules.take (k+1)) (-1)=if 0≤r.left∧r.left≤top+1∧G.ruleOK r=true then some (max top r.left) else none:=by
 rw [List.take_add_one,a]
 show G.leftsGo (_++[r]) _=_
 rw [Gr.leftsGo_snoc,h]
 rfl
theorem lefts_bad {G:Gr} {k:Nat} (h:G.leftsGo (G.rules.take k) (-1)=none):G.leftsGo G.rules (-1)=none:=by
 rw [← List.take_append_drop k G.rules]
 exact G.leftsGo_none _ _ _ h
theorem rf_right9 (h:GH) (G:Gr) (w:World) (x:GrAt w h G) (M:h.n1≤1000) (h2:h.n2≤1000) (h3:h.n3≤1000) :
 Calls Tryz.prog 29 #[GV h G.start] w fun e w'=>e = .returned (.bool G.right)∧Below w.heap.size w w':=by
 have cT:=fun W (p:GrAt W h G)=>rf_terms h G W p
 have cN:=fun W (p:GrAt W h G)=>rf_nons h G W p M
 have af:=fun W r Ar cr (p:GrAt W h G) O hw=>rf_rule h G r Ar cr W p O hw M h2
 obtain ⟨a1,n1,c1,a2,n2,c2,a3,n3,c3⟩:=h
 have C:G.nons.length=n2:=x.nons.len
 have e3:G.rules.length=n3:=x.rules.len
 have ht:Ruls w a3 n3 c3 G.rules:=x.rules
 have bf:=ht.cap
 simp only [] at M h2 h3
 have z:Hid (G.right=(G.termsOK && G.nonsOK && decide (1≤n3∧n3≤40) && decide (0≤G.start∧G.start < (n2:Int)) && decide (G.leftsGo G.rules (-1)=some ((n2:Int) - 1)))):=LH (by unfold Gr.right;rw [C,e3])
 clear C
 generalize a0:G.start=c at *
 clear a0
 generalize G.termsOK=l at *
 generalize G.nonsOK=n at *
 have P:(l=false∨(l=true∧n=false)∨(l=true∧n=true∧(n3:Int) < 1)∨(l=true∧n=true∧1≤(n3:Int)∧40 < (n3:Int))∨(l=true∧n=true∧1≤(n3:Int)∧(n3:Int)≤40∧c < 0)∨(l=true∧n=true∧1≤(n3:Int)∧(n3:Int)≤40∧0≤c∧(n2:Int)≤c)) ∨
  (l=true∧n=true∧1≤(n3:Int)∧(n3:Int)≤40∧0≤c∧c < (n2:Int)):=by
  cases l
  · simp
  · cases n
    · simp
    · simp only [Bool.true_eq_false,false_or,true_and]
      omega
 have j:=LH x
 have CT:=LH cT
 have S:=LH cN
 have an:=LH af
 clear x cT cN af
 have F:=GBox.new w 26 ⟨a1,n1,c1,a2,n2,c2,a3,n3,c3⟩ c
 have m:=alloc_below w (.cells #[.slice a1 n1 c1, .slice a2 n2 c2, .slice a3 n3 c3, .int .i64 c] 26)
 rcases P with v | ⟨rfl,rfl,g1,s,E,g4⟩
 · have A:Hid (G.right=false):=LH (by
    rw [z.out]
    rcases v with rfl | ⟨rfl,rfl⟩ | ⟨rfl,rfl,g⟩ | ⟨rfl,rfl,g,s⟩ | ⟨rfl,rfl,g,s,E⟩ | ⟨rfl,rfl,g,s,E,g4⟩
    · simp
    · simp
    · have:decide (1≤n3∧n3≤40)=false:=by simp;omega
      rw [this];simp
    · have:decide (1≤n3∧n3≤40)=false:=by simp;omega
      rw [this];simp
    · have:decide (0≤c∧c < (n2:Int))=false:=by simp;omega
      rw [this];simp
    · have:decide (0≤c∧c < (n2:Int))=false:=by simp;omega
      rw [this];simp)
   clear z
   rcases v with rfl | ⟨rfl,rfl⟩ | ⟨rfl,rfl,g⟩ | ⟨rfl,rfl,g,s⟩ | ⟨rfl,rfl,g,s,E⟩ | ⟨rfl,rfl,g,s,E,g4⟩
   · go_enter Tryz.func29,Tryz.ntmps29
     go_wp2_with fail
     (with_reducible refine (CT.out _ (j.out.below m)).mono ?_)
     rintro e w1 ⟨rfl,d⟩
     go_wp2_with fail
     go_ret
     exact ⟨by rw [A.out];rfl,below_tail m d⟩
   all_goals
    go_enter Tryz.func29,Tryz.ntmps29
    go_wp2_with fail
    (with_reducible refine (CT.out _ (j.out.below m)).mono ?_)
    rintro e w1 ⟨rfl,d⟩
    have a:=below_tail m d
    have ⟨z5,z0,z1,z2,z3⟩:=F.below d
    simp only [] at z0 z1 z2 z3
    clear d
    go_wp2_with fail
    (with_reducible refine (S.out _ (j.out.below a)).mono ?_)
    rintro e w2 ⟨rfl,o⟩
    obtain ⟨be,_⟩:=bcell o
    have ao:=LH (below_tail a o)
    clear o a m F
    go_wp2_with fail
    go_ret
    exact ⟨by rw [A.out];rfl,ao.out⟩
 · have V:Hid (G.right=decide (G.leftsGo G.rules (-1)=some ((n2:Int) - 1))):=LH (by
    rw [z.out]
    have e1:decide (1≤n3∧n3≤40)=true:=by simp;omega
    have C:decide (0≤c∧c < (n2:Int))=true:=by simp;omega
    rw [e1,C];rfl)
   clear z
   go_enter Tryz.func29,Tryz.ntmps29
   go_wp2_with fail
   (with_reducible refine (CT.out _ (j.out.below m)).mono ?_)
   rintro e w1 ⟨rfl,d⟩
   have a:=below_tail m d
   have f:=F.below d
   have ⟨z5,z0,z1,z2,z3⟩:=f
   simp only [] at z0 z1 z2 z3
   clear d
   go_wp2_with fail
   (with_reducible refine (S.out _ (j.out.below a)).mono ?_)
   rintro e w2 ⟨rfl,o⟩
   have aj:=below_tail a o
   have R:=f.below o
   clear z0 z1 z2 z3 z5
   have ⟨z5,z0,z1,z2,z3⟩:=R
   simp only [] at z0 z1 z2 z3
   clear o a m F f
   go_wp2_with fail
   clear z0 z1 z2 z3 z5
   go_loopw [3,4,5] (fun tp i t wr=>∃ (k:Nat) (top:Int),k≤n3∧i = .int .i64 (k:Int)∧tp = .int .i64 top∧-1≤top∧top≤(k:Int)∧Below w.heap.size w wr∧GBox wr w.heap.size ⟨a1,n1,c1,a2,n2,c2,a3,n3,c3⟩ c∧Hid (G.leftsGo (G.rules.take k) (-1)=some top)) (fun _ i _ _=>n3 - (intOf i).toNat)
   case atStart=>exact ⟨0,-1,Nat.zero_le _,rfl,rfl,by omega,by omega,aj,R,LH rfl⟩
   case round =>
    clear aj R
    obtain ⟨k,top,hk,rfl,rfl,bi,bj,N,hx,X⟩:=hrel
    have ⟨z5,z0,z1,z2,z3⟩:=hx
    simp only [] at z0 z1 z2 z3
    by_cases ay:k < n3
    · obtain ⟨b,bk,r,Ar,cr,rfl,hb,Hr,q0,q1,q2,hi⟩:=ht.get ay
      rw [← N.cell (by exact hb)] at q0 q1 q2
      have ak:=lefts_next X.out Hr.out
      have a:=N.alloc (Nat.le_of_lt z5) (.cells #[.int .i64 r.left, .slice Ar r.right.length cr, .int .i64 r.prec] 52)
      have f:=hx.below (alloc_below wr (.cells #[.int .i64 r.left, .slice Ar r.right.length cr, .int .i64 r.prec] 52))
      have y:=RBox.new wr 52 r.left Ar r.right.length cr r.prec
      have cR:=fun W p O=>an.out W r Ar cr p O (j.out.wf r (List.mem_of_getElem? Hr.out))
      generalize G.ruleOK r=B at *
      have T:=LH cR
      have Z:=LH ak
      clear cR ak
      have P:(r.left < 0∨(0≤r.left∧top+1 < r.left)∨(0≤r.left∧r.left≤top+1∧B=false))∨(0≤r.left∧r.left≤top+1∧B=true∧top < r.left)∨(0≤r.left∧r.left≤top+1∧B=true∧r.left≤top):=by
       cases B
       · simp only [Bool.false_eq_true,and_false,false_and,or_false,and_true]
         omega
       · simp only [Bool.true_eq_false,and_false,or_false,true_and,and_true]
         omega
      rcases P with v | az
      · have I:Hid (G.right=false):=LH (by
         rw [V.out]
         have:G.leftsGo G.rules (-1)=none:=by
          refine lefts_bad (k:=k+1) ?_
          rw [Z.out,if_neg]
          intro ⟨h5,h6,h7⟩
          rcases v with g | ⟨g,q⟩ | ⟨g,q,D⟩
          · omega
          · omega
          · rw [h7] at D;cases D
         rw [this];rfl)
        rcases v with g | ⟨g,q⟩ | ⟨g,q,rfl⟩
        · clear f y
          go_wp2_with fail
          go_ret
          exact ⟨by rw [I.out];rfl,a⟩
        · clear f y
          go_wp2_with fail
          go_ret
          exact ⟨by rw [I.out];rfl,a⟩
        · have H:=LH a
          have J:=LH (j.out.below a)
          have L:=LH (hi.below a)
          clear a f y
          go_wp2_with fail
          (with_reducible refine (T.out _ J.out L.out).mono ?_)
          rintro e w6 ⟨rfl,u⟩
          go_wp2_with fail
          go_ret
          exact ⟨by rw [I.out];rfl,below_tail H.out u⟩
      · have H:=LH a
        have J:=LH (j.out.below a)
        have L:=LH (hi.below a)
        have ap:=LH f
        have aq:=LH y
        clear a f y
        rcases az with ⟨g,q,rfl,D⟩ | ⟨g,q,rfl,D⟩
        all_goals
         have Y:Hid (G.leftsGo (G.rules.take (k+1)) (-1)=some (max top r.left)):=LH (by rw [Z.out,if_pos ⟨g,q,rfl⟩])
         go_wp2_with fail
         (with_reducible refine (T.out _ J.out L.out).mono ?_)
         rintro e w6 ⟨rfl,u⟩
         have ⟨y5,y0,y1,y2⟩:=aq.out.below u
         have ab:=LH (ap.out.below u)
         have U:=LH (below_tail H.out u)
         clear u z0 z1 z2 z3 y1 y2
         go_wp2_with fail
         go_roundw
         case rel=>first
          | exact ⟨k+1,r.left,by omega,by go_num,rfl,by omega,by omega,U.out,ab.out,LH (by rw [Y.out,Int.max_eq_right (by omega)])⟩
          | exact ⟨k+1,top,by omega,by go_num,rfl,by omega,by omega,U.out,ab.out,LH (by rw [Y.out,Int.max_eq_left (by omega)])⟩
         case measure=>simp [intOf];omega
    · obtain rfl:k=n3:=by omega
      have A:Hid (G.right=(top == (n2:Int) - 1)):=LH (by
       rw [V.out]
       have:=X.out
       rw [List.take_of_length_le (by omega)] at this
       rw [this,Bool.eq_iff_iff]
       simp)
      have bg:IntKind.i64.wrap ((n2:Int) - 1)=(n2:Int) - 1:=IntWalk.i64_in _ (by omega)
      go_wp2_with fail
      go_ret
      exact ⟨by rw [A.out];rfl,N⟩
theorem cf_non (s:Int) (w:World) (a:InI64 s) (b:s < 0) :
 Calls Tryz.prog 87 #[.int .i64 s] w fun e w'=>e = .returned (.int .i64 (-1 - s))∧w=w':=by
 obtain ⟨c,d⟩:=a
 go_enter Tryz.func87,Tryz.ntmps87
 go_wp2_with fail
 go_ret
 exact ⟨rfl,rfl⟩
def withinB (n a b:Int):Bool:=decide (a≤n∧n≤b)
theorem cf_within (n a b:Int) (w:World) :
 Calls Tryz.prog 99 #[.int .i64 n, .int .i64 a, .int .i64 b] w fun e w'=>e = .returned (.bool (withinB n a b))∧w=w':=by
 have c:withinB n a b=(decide (a≤n) && decide (n≤b)):=by unfold withinB;rw [Bool.decide_and]
 rw [c]
 clear c
 by_cases h:a≤n
 all_goals
  go_enter Tryz.func99,Tryz.ntmps99
  go_wp2_with fail
  go_ret
  exact ⟨by first | rfl | (simp [h];done) | (simp [h];omega),rfl⟩
theorem cf_has (h:GH) (G:Gr) (s:Int) (w:World) (a:GrAt w h G) (b:InI64 s) (o:h.n1≤1000) (p:h.n2≤1000) :
 Calls Tryz.prog 46 #[GV h G.start, .int .i64 s] w fun e w'=>e = .returned (.bool (G.has s))∧Below w.heap.size w w':=by
 obtain ⟨a1,n1,c1,a2,n2,c2,a3,n3,c3⟩:=h
 have g:G.terms.length=n1:=a.terms.len
 have j:G.nons.length=n2:=a.nons.len
 have m:G.has s=if 0≤s then decide (s < (n1:Int)) else decide (-1 - s < (n2:Int)):=by unfold Gr.has;rw [g,j]
 rw [m]
 simp only [] at o p
 clear m g j a
 by_cases k:0≤s
 · rw [if_pos k]
   obtain ⟨r,t⟩:=b
   go_enter Tryz.func46,Tryz.ntmps46
   go_wp2_with fail
   go_ret
   exact ⟨by simp,alloc_below _ _⟩
 · rw [if_neg k]
   have f:=fun w=>cf_non s w b (by omega)
   obtain ⟨r,t⟩:=b
   have d:decide (s < 0)=true:=by simp;omega
   go_enter Tryz.func46,Tryz.ntmps46
   have q:=GBox.new w 26 ⟨a1,n1,c1,a2,n2,c2,a3,n3,c3⟩ G.start
   have l:=alloc_below w (.cells #[.slice a1 n1 c1, .slice a2 n2 c2, .slice a3 n3 c3, .int .i64 G.start] 26)
   have n:=LH f
   clear f
   go_wp2_with fail
   generalize w.alloc (.cells #[.slice a1 n1 c1, .slice a2 n2 c2, .slice a3 n3 c3, .int .i64 G.start] 26)=c at *
   obtain ⟨B,u,v,y,z⟩:=q
   simp only [] at u v y z
   have A:=bl_cell c
   refine wp_region_below (by kernel_rfl) (by kernel_rfl) ?_
   repeat (go_big_quiet_step ((go_at_call 87;with_reducible exact bl_of_same (n.out _))))
   refine wpQuiet_nil ?_
   rintro _ ⟨x,rfl⟩
   go_wp2_with fail
   go_ret
   exact ⟨by simp,l.trans ((bl_below c x).mono l.size)⟩
theorem cf_named (s:ByteArray) (w:World) (d:s.size≤maxLen) :
 Calls Tryz.prog 159 #[.string s] w fun e w'=>e = .returned (.bool (namedB s))∧Below w.heap.size w w':=by
 have c1:=lx_name s w
 have c2:=lx_Literal s w d
 unfold namedB
 generalize nameB (bytesOf s)=p at *
 generalize litB (bytesOf s)=q at *
 have a:=LH c1
 have b:=LH c2
 clear c1 c2
 cases p
 · go_enter Tryz.func159,Tryz.ntmps159
   go_wp2_with (first
    | (go_at_call 103;(with_reducible refine a.out.mono ?_);rintro e w' ⟨rfl,rfl⟩)
    | (go_at_call 203;(with_reducible refine b.out.mono ?_);rintro e w' ⟨rfl,c⟩))
   go_ret
   exact ⟨rfl,c⟩
 · go_enter Tryz.func159,Tryz.ntmps159
   go_wp2_with (first
    | (go_at_call 103;(with_reducible refine a.out.mono ?_);rintro e w' ⟨rfl,rfl⟩)
    | (go_at_call 203;(with_reducible refine b.out.mono ?_);rintro e w' ⟨rfl,c⟩))
   go_ret
   exact ⟨rfl,Below.refl _ _⟩
def Tells {α:Type} (g:FuncId) (a:Array Value) (enc:α→Value) (w:World) (xs:List α) (p:α→Bool):Prop :=
 ∀ s ∈ xs,∀ w',Below w.heap.size w w'→Calls Tryz.prog g (#[enc s]++a) w' fun e b=>e = .returned (.bool (p s))∧Below w'.heap.size w' b
theorem sl_index_ints (A:Option Addr) (n c:Nat) (xs:List Int) (g:FuncId) (t:Array Value) (p:Int→Bool) (w:World) (F:∀ args w,(callFunc g args).run Tryz.prog w = .ok (.enter g args) w)
 (h:Ints .i64 w A n c xs) (u:Tells g t (Value.int .i64) w xs p) :
 Calls Tryz.prog 86 #[.slice A n c, .func (.func g) #[] t] w fun e w'=>e = .returned (.int .i64 (findI p xs))∧Below w.heap.size w w':=by
 obtain rfl:=h.len
 have G:=h.cap
 have x:=LH u
 clear u
 go_enter Tryz.func86,Tryz.ntmps86
 go_wp2_with fail
 go_loopw [5,8] (fun _ i wr=>∃ k:Nat,k≤xs.length∧i = .int .i64 (k:Int)∧Below w.heap.size w wr∧Hid (∀ j,j < k→∀ y,xs[j]? = some y→p y=false)) (fun _ i _=>xs.length - (intOf i).toNat)
 case atStart=>exact ⟨0,Nat.zero_le _,rfl,Below.refl _ _,LH fun j H=>by omega⟩
 case round =>
  obtain ⟨k,I,rfl,f,o⟩:=hrel
  by_cases C:k < xs.length
  · obtain ⟨b,J,s,rfl,B,q,D⟩:=h.get C
    rw [← f.cell (by exact B)] at D
    have a:=x.out s (List.mem_of_getElem? q.out) wr f
    cases d:p s
    · rw [d] at a
      have z:=LH d
      have l:=LH a
      clear d a
      go_wp2_with (go_at_fn g;refine l.out.mono ?_;rintro e E ⟨rfl,r⟩)
      go_roundw
      case rel=>exact ⟨k+1,by omega,by go_num,below_tail f r,LH (next_none o.out q.out z.out)⟩
      case measure=>simp [intOf];omega
    · rw [d] at a
      have m:=LH (findI_at q.out d o.out)
      have l:=LH a
      clear d a
      go_wp2_with (go_at_fn g;refine l.out.mono ?_;rintro e E ⟨rfl,r⟩)
      go_ret
      exact ⟨by rw [m.out];rfl,below_tail f r⟩
  · obtain rfl:k=xs.length:=by omega
    have m:Hid (findI p xs=-1):=LH (findI_none fun j y v=>o.out j (List.getElem?_eq_some_iff.1 v).1 y v)
    go_wp2_with fail
    go_ret
    exact ⟨by rw [m.out];rfl,f⟩
theorem sl_index_strs (A:Option Addr) (n c:Nat) (xs:List ByteArray) (g:FuncId) (t:Array Value) (p:ByteArray→Bool) (w:World) (F:∀ args w,(callFunc g args).run Tryz.prog w = .ok (.enter g args) w)
 (h:Strs w A n c xs) (u:Tells g t Value.string w xs p) :
 Calls Tryz.prog 164 #[.slice A n c, .func (.func g) #[] t] w fun e w'=>e = .returned (.int .i64 (findI p xs))∧Below w.heap.size w w':=by
 obtain rfl:=h.len
 have G:=h.cap
 have x:=LH u
 clear u
 go_enter Tryz.func164,Tryz.ntmps164
 go_wp2_with fail
 go_loopw [5,8] (fun _ i wr=>∃ k:Nat,k≤xs.length∧i = .int .i64 (k:Int)∧Below w.heap.size w wr∧Hid (∀ j,j < k→∀ y,xs[j]? = some y→p y=false)) (fun _ i _=>xs.length - (intOf i).toNat)
 case atStart=>exact ⟨0,Nat.zero_le _,rfl,Below.refl _ _,LH fun j H=>by omega⟩
 case round =>
  obtain ⟨k,I,rfl,f,o⟩:=hrel
  by_cases C:k < xs.length
  · obtain ⟨b,J,s,rfl,B,q,D⟩:=h.get C
    rw [← f.cell (by exact B)] at D
    have a:=x.out s (List.mem_of_getElem? q.out) wr f
    cases d:p s
    · rw [d] at a
      have z:=LH d
      have l:=LH a
      clear d a
      go_wp2_with (go_at_fn g;refine l.out.mono ?_;rintro e E ⟨rfl,r⟩)
      go_roundw
      case rel=>exact ⟨k+1,by omega,by go_num,below_tail f r,LH (next_none o.out q.out z.out)⟩
      case measure=>simp [intOf];omega
    · rw [d] at a
      have m:=LH (findI_at q.out d o.out)
      have l:=LH a
      clear d a
      go_wp2_with (go_at_fn g;refine l.out.mono ?_;rintro e E ⟨rfl,r⟩)
      go_ret
      exact ⟨by rw [m.out];rfl,below_tail f r⟩
  · obtain rfl:k=xs.length:=by omega
    have m:Hid (findI p xs=-1):=LH (findI_none fun j y v=>o.out j (List.getElem?_eq_some_iff.1 v).1 y v)
    go_wp2_with fail
    go_ret
    exact ⟨by rw [m.out];rfl,f⟩
theorem findI_any {α:Type} (p:α→Bool) (l:List α):decide (0≤findI p l)=l.any p:=by
 rw [Bool.eq_iff_iff,decide_eq_true_iff,List.any_eq_true]
 constructor
 · intro h
   obtain ⟨k,d⟩:∃ k:Nat,findI p l=(k:Int):=⟨(findI p l).toNat,by omega⟩
   obtain ⟨x,b,a,_⟩:=findI_pos d
   exact ⟨x,List.mem_of_getElem? b,a⟩
 · rintro ⟨x,b,a⟩
   have f:=(findI_lo p l).1
   by_cases h:findI p l < 0
   · obtain ⟨j,c⟩:=List.getElem?_of_mem b
     rw [findI_neg h j x c] at a
     cases a
   · omega
theorem sl_contains_ints (A:Option Addr) (n c:Nat) (xs:List Int) (g:FuncId) (a:Array Value) (p:Int→Bool) (w:World) (j:∀ args w,(callFunc g args).run Tryz.prog w = .ok (.enter g args) w)
 (h:Ints .i64 w A n c xs) (d:Tells g a (Value.int .i64) w xs p) :
 Calls Tryz.prog 44 #[.slice A n c, .func (.func g) #[] a] w fun e w'=>e = .returned (.bool (xs.any p))∧Below w.heap.size w w':=by
 have b:=sl_index_ints A n c xs g a p w j h d
 rw [← findI_any]
 generalize findI p xs=r at *
 have f:=LH b
 clear b d h
 go_enter Tryz.func44,Tryz.ntmps44
 go_wp2_with (go_at_call 86;(with_reducible refine f.out.mono ?_);rintro e l ⟨rfl,k⟩)
 go_ret
 exact ⟨rfl,k⟩
theorem sl_contains_strs (A:Option Addr) (n c:Nat) (xs:List ByteArray) (g:FuncId) (a:Array Value) (p:ByteArray→Bool) (w:World) (j:∀ args w,(callFunc g args).run Tryz.prog w = .ok (.enter g args) w)
 (h:Strs w A n c xs) (d:Tells g a Value.string w xs p) :
 Calls Tryz.prog 101 #[.slice A n c, .func (.func g) #[] a] w fun e w'=>e = .returned (.bool (xs.any p))∧Below w.heap.size w w':=by
 have b:=sl_index_strs A n c xs g a p w j h d
 rw [← findI_any]
 generalize findI p xs=r at *
 have f:=LH b
 clear b d h
 go_enter Tryz.func101,Tryz.ntmps101
 go_wp2_with (go_at_call 164;(with_reducible refine f.out.mono ?_);rintro e l ⟨rfl,k⟩)
 go_ret
 exact ⟨rfl,k⟩
theorem enters_rule1:∀ args w,(callFunc 167 args).run Tryz.prog w = .ok (.enter 167 args) w:=fun args w=>by kernel_rfl
theorem enters_right1:∀ args w,(callFunc 102 args).run Tryz.prog w = .ok (.enter 102 args) w:=fun args w=>by kernel_rfl
theorem cf_right1 (s:ByteArray) (w:World) :
 Calls Tryz.prog 102 #[.string s] w fun e w'=>e = .returned (.bool (!nameB (bytesOf s)))∧w=w':=by
 have c1:=lx_name s w
 generalize nameB (bytesOf s)=p at *
 have a:=LH c1
 clear c1
 go_enter Tryz.func102,Tryz.ntmps102
 go_wp2_with (go_at_call 103;(with_reducible refine a.out.mono ?_);rintro e w' ⟨rfl,rfl⟩)
 go_ret
 exact ⟨rfl,rfl⟩
theorem cf_rule1 (h:GH) (G:Gr) (m p:Nat) (s left:Int) (Ar:Option Addr) (A cr:Nat) (a:Int) (w:World) (o:GrAt w h G) (v:InI64 s) (r:h.n1≤1000) (t:h.n2≤1000)
 (y:GBox w m h G.start) (z:RBox w p left Ar A cr a) :
 Calls Tryz.prog 167 #[.int .i64 s, .pointer (some ⟨m,0,none⟩), .pointer (some ⟨p,0,none⟩)] w fun e w'=>e = .returned (.bool (!G.symOK a s))∧Below w.heap.size w w':=by
 have l:=cf_has h G s w o v r t
 obtain ⟨a1,n1,c1,a2,n2,c2,a3,n3,c3⟩:=h
 have n:G.symOK a s=(G.has s && !(decide (0≤s) && decide (a=-1))):=rfl
 rw [n]
 obtain ⟨L,B,C,D,E⟩:=y
 obtain ⟨J,F,H,I⟩:=z
 simp only [] at B C D E
 generalize G.has s=b at *
 have CH:=LH l
 clear l o n
 have x:(b=false)∨(b=true∧s < 0)∨(b=true∧0≤s∧a=-1)∨(b=true∧0≤s∧a ≠ -1):=by
  cases b
  · simp
  · simp only [Bool.true_eq_false,false_or,true_and];omega
 rcases x with rfl | ⟨rfl,g⟩ | ⟨rfl,g,f⟩ | ⟨rfl,g,f⟩
 · go_enter Tryz.func167,Tryz.ntmps167
   go_wp2_with (go_at_call 46;(with_reducible refine CH.out.mono ?_);rintro e k ⟨rfl,c⟩)
   go_ret
   exact ⟨rfl,c⟩
 · have d:decide (0≤s)=false:=by simp;omega
   go_enter Tryz.func167,Tryz.ntmps167
   go_wp2_with (go_at_call 46;(with_reducible refine CH.out.mono ?_);rintro e k ⟨rfl,c⟩)
   go_ret
   exact ⟨by simp [d],c⟩
 · have d:decide (0≤s)=true:=by simp;omega
   have q:(a == -1)=true:=by rw [beq_iff_eq];exact f
   have j:Hid (decide (a=-1)=true):=LH (by simp [f])
   clear f
   go_enter Tryz.func167,Tryz.ntmps167
   go_wp2_with (go_at_call 46;(with_reducible refine CH.out.mono ?_);rintro e k ⟨rfl,c⟩;have u:=(bcell c).1)
   go_ret
   exact ⟨by rw [d,j.out];rfl,c⟩
 · have d:decide (0≤s)=true:=by simp;omega
   have q:(a == -1)=false:=by rw [beq_eq_false_iff_ne];exact f
   have j:Hid (decide (a=-1)=false):=LH (by simp [f])
   clear f
   go_enter Tryz.func167,Tryz.ntmps167
   go_wp2_with (go_at_call 46;(with_reducible refine CH.out.mono ?_);rintro e k ⟨rfl,c⟩;have u:=(bcell c).1)
   go_ret
   exact ⟨by rw [d,j.out];rfl,c⟩
theorem cf_rule (h:GH) (G:Gr) (r:Rul) (Ar:Option Addr) (cr:Nat) (w:World) (n:GrAt w h G) (o:Ints .i64 w Ar r.right.length cr r.right) (z:∀ s ∈ r.right,InI64 s) (x:h.n1≤1000) (y:h.n2≤1000) :
 Calls Tryz.prog 104 #[GV h G.start, .agg #[.int .i64 r.left, .slice Ar r.right.length cr, .int .i64 r.prec]] w fun e w'=>e = .returned (.bool (G.ruleOK r))∧Below w.heap.size w w':=by
 have c1:=fun F R (s:Int) w' (L:GrAt w' h G) p O P=>cf_rule1 h G F R s r.left Ar r.right.length cr r.prec w' L p x y O P
 obtain ⟨a1,n1,u,a2,n2,c2,a3,n3,c3⟩:=h
 have v:G.terms.length=n1:=n.terms.len
 have T:=o.cap
 simp only [] at x y
 have d:Hid (G.ruleOK r=(decide (r.right.length≤6) && decide (-1≤r.prec∧r.prec < (n1:Int)) && r.right.all (G.symOK r.prec))):=LH (by unfold Gr.ruleOK;rw [v])
 clear v
 have j:=fun w=>cf_within r.prec (-1) ((n1:Int) - 1) w
 have A:withinB r.prec (-1) ((n1:Int) - 1)=decide (-1≤r.prec∧r.prec < (n1:Int)):=by
  unfold withinB
  rw [Bool.eq_iff_iff,decide_eq_true_iff,decide_eq_true_iff];omega
 rw [A] at j
 clear A
 generalize decide (-1≤r.prec∧r.prec < (n1:Int))=f at *
 have q:=LH j
 have B:=LH c1
 have C:=LH n
 have D:=LH o
 have E:=LH z
 clear j c1 n o z
 obtain ⟨a,l,m⟩:=two_boxes w 26 52 ⟨a1,n1,u,a2,n2,c2,a3,n3,c3⟩ G.start r.left Ar r.right.length cr r.prec
 have U:IntKind.i64.wrap ((n1:Int) - 1)=(n1:Int) - 1:=IntWalk.i64_in _ (by omega)
 have N:(6 < (r.right.length:Int))∨((r.right.length:Int)≤6∧f=false)∨((r.right.length:Int)≤6∧f=true):=by
  cases f <;> simp <;> omega
 rcases N with g | ⟨g,rfl⟩ | ⟨g,rfl⟩
 · have b:Hid (G.ruleOK r=false):=LH (by
    rw [d.out]
    have:decide (r.right.length≤6)=false:=by simp;omega
    rw [this];rfl)
   clear l m
   have c:=LH a
   clear a
   go_enter Tryz.func104,Tryz.ntmps104
   go_wp2_with fail
   go_ret
   exact ⟨by rw [b.out];rfl,c.out⟩
 · have b:Hid (G.ruleOK r=false):=LH (by rw [d.out];simp)
   clear l m
   have c:=LH a
   clear a
   go_enter Tryz.func104,Tryz.ntmps104
   go_wp2_with fail
   (with_reducible refine (q.out _).mono ?_)
   rintro e S ⟨rfl,rfl⟩
   go_wp2_with fail
   go_ret
   exact ⟨by rw [b.out];rfl,c.out⟩
 · have b:Hid (G.ruleOK r=r.right.all (G.symOK r.prec)):=LH (by
    rw [d.out]
    have:decide (r.right.length≤6)=true:=by simp;omega
    rw [this];rfl)
   go_enter Tryz.func104,Tryz.ntmps104
   go_wp2_with fail
   (with_reducible refine (q.out _).mono ?_)
   rintro e S ⟨rfl,rfl⟩
   go_wp2_with fail
   generalize (w.alloc (.cells #[.slice a1 n1 u, .slice a2 n2 c2, .slice a3 n3 c3, .int .i64 G.start] 26)).alloc (.cells #[.int .i64 r.left, .slice Ar r.right.length cr, .int .i64 r.prec] 52)=t at *
   have H:Tells 167 #[.pointer (some ⟨w.heap.size,0,none⟩), .pointer (some ⟨w.heap.size+1,0,none⟩)] (Value.int .i64) t r.right (fun s=>!G.symOK r.prec s):=fun s p w' k =>
    B.out w.heap.size (w.heap.size+1) s w' ((C.out.below a).below k) (E.out s p) (l.below k) (m.below k)
   have J:=sl_contains_ints Ar r.right.length cr r.right _ _ _ t enters_rule1 (D.out.below a) H
   (with_reducible refine J.mono ?_)
   rintro e V ⟨rfl,I⟩
   go_wp2_with fail
   go_ret
   have M:(!r.right.any fun s=>!G.symOK r.prec s)=r.right.all (G.symOK r.prec):=by
    rw [List.all_eq_not_any_not]
   exact ⟨by rw [b.out,← M];rfl,below_tail a I⟩
open Go.RowKit Go.Shelf Go.Sort
theorem grow_none (w:World):grow w #[]=w:=by unfold grow;simp
theorem cf_alone (A:Option Addr) (n c:Nat) (a:List ByteArray) (w:World) (h:Strs w A n c a) (J:n≤1000) :
 Calls Tryz.prog 100 #[.slice A n c] w fun e w'=>e = .returned (.bool (decide a.Nodup))∧Below w.heap.size w w':=by
 obtain rfl:=h.len
 have O:=h.cap
 have p:=values_in A a.length c w
 have r:=alloc_below w (.cells #[.slice A a.length c] 23)
 have l:=alloc_cell w 23 #[.slice A a.length c] 0
 simp only [List.getElem?_toArray,List.getElem?_cons_zero] at l
 have o:=sorted_s w.heap.size a.length c A a J (w.alloc (.cells #[.slice A a.length c] 23)) (by simp) l (h.below r)
 have S:=alloc_size w (.cells #[.slice A a.length c] 23)
 have B:=LH p
 have z:=LH o
 clear p o l
 go_enter Tryz.func100,Tryz.ntmps100
 go_wp2_with fail
 (with_reducible refine B.out.mono ?_)
 rintro e w1 ⟨rfl,rfl⟩
 go_wp2_with fail
 (with_reducible refine z.out.mono ?_)
 rintro e b ⟨H,L⟩
 have k:=below_tail r H
 rcases L with ⟨rfl,rfl⟩ | ⟨g,cap,rfl,N,R,P,s⟩
 · have D:=LH (Tryz.slices_Compact_string_empty none 0 b)
   go_wp2_with fail
   (with_reducible refine D.out.mono ?_)
   rintro e M ⟨rfl,rfl⟩
   go_wp2_with fail
   go_ret
   exact ⟨by simp,k⟩
 · have u:((byL a).mergeSort fun x y=>decide (x≤y)).length=a.length:=by simp [byL]
   have f:=Tryz.slices_Compact_string g 0 cap ((byL a).mergeSort fun x y=>decide (x≤y)) b s (by omega) (by omega)
   rw [u] at f
   have t:decide a.Nodup=decide ((Lib.compact ((byL a).mergeSort fun x y=>decide (x≤y))).length=a.length):=by
    have:=sorted_len (byL a)
    rw [byL_nodup,show (byL a).length=a.length by simp [byL]] at this
    rw [Bool.eq_iff_iff,decide_eq_true_iff,decide_eq_true_iff]
    exact this.symm
   have E:=LH t
   have C:Hid (∀ q d,Below w.heap.size w (putRow encStr (Sort.ahead b q) g 0 d)):=LH fun q d=>by
    have:=k.grown (grownBy_sorted (n:=q) (os:=#[]) (g:=g) d) k.size (fun j I=>by cases I;omega)
    rwa [grow_none] at this
   generalize (Lib.compact ((byL a).mergeSort fun x y=>decide (x≤y))).length=m at *
   have v:=LH f
   clear f s t u
   go_wp2_with fail
   (with_reducible refine v.out.mono ?_)
   rintro e M ⟨rfl,q,rfl⟩
   have G:=LH (C.out q (Lib.compact ((byL a).mergeSort fun x y=>decide (x≤y))++List.replicate (a.length - m) []).toArray)
   generalize putRow encStr (Sort.ahead b q) g 0 (Lib.compact ((byL a).mergeSort fun x y=>decide (x≤y))++List.replicate (a.length - m) []).toArray=T at *
   have F:Hid (((m:Int) == (a.length:Int))=decide (m=a.length)):=LH (by rw [Bool.eq_iff_iff];simp;omega)
   go_wp2_with fail
   go_ret
   exact ⟨by rw [E.out,← F.out];rfl,G.out⟩
end Go.Proofs.YtggbjdmpjidhgaaGreatDoor
