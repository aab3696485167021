/- grammars: levels, walked. -/
import Derived.Test.YtggbjdmpjidhgaaGreatDoorVQGrW3
import Derived.Outline
import Derived.Test.YtggbjdmpjidhgaaGreatDoorVQGrShelf
import Derived.Test.YtggbjdmpjidhgaaGreatDoorVQGrS1
import Derived.Test.YtggbjdmpjidhgaaGreatDoorVQGrP2
import Derived.Test.YtggbjdmpjidhgaaGreatDoorVQKit
set_option linter.unusedVariables false
set_option linter.unusedSimpArgs false
set_option maxHeartbeats 8000000
set_option maxRecDepth 100000
namespace Go.Proofs.YtggbjdmpjidhgaaGreatDoor
open Go.RowKit
open Go.RowKit Go.Maps
theorem law3:Keyed Tryz.prog 3:=int_keyed Tryz.underlying3
theorem zero3 (w:World):(zeroValue 3).run Tryz.prog w = .ok (.int .i64 0) w:=by kernel_rfl
structure Ways (D:DataW Unit) (p:List Trm):Prop where
 tidy:Tidy D
 at_:∀ L:Int,1≤L→D.atKey (.int .i64 L) (.lit (.int .i64 0)) = .lit (.int .i64 (wayOf p L))
 has_:∀ L:Int,1≤L→has D (.int .i64 L)=hasL p L
 size_:Maps.size D=cntL p
theorem key_int (L:Int):WideAt.IsKeyLit (.int .i64 L):=trivial
theorem Ways.start:Ways (.map []) []:=⟨tidy_empty,fun L _=>rfl,fun L _=>rfl,rfl⟩
theorem Ways.zero {D:DataW Unit} {p:List Trm} {t:Trm} (h:Ways D p) (b:t.level=0):Ways D (p++[t]) :=
 ⟨h.tidy,fun L a=>by rw [h.at_ L a,wayOf_snoc,if_neg (by omega)],fun L a=>by rw [h.has_ L a,hasL_snoc,show decide (t.level=L)=false from by simp;omega,Bool.or_false],by rw [h.size_,cntL_zero p t b]⟩
theorem Ways.more {D:DataW Unit} {p:List Trm} {t:Trm} (h:Ways D p) (d:1≤t.level) (f:t.level≤24):Ways (D.put (.int .i64 t.level) (.lit (.int .i64 t.assoc))) (p++[t]):=by
 refine ⟨h.tidy.put (key_int _) _,fun L c=>?_,fun L c=>?_,?_⟩
 · rw [wayOf_snoc]
   by_cases b:t.level=L
   · subst b
     rw [if_pos rfl,atKey_put_same h.tidy.isMap (key_int _)]
   · rw [if_neg b,atKey_put_other (by intro a;injection a with _ a;exact b a.symm),h.at_ L c]
 · rw [hasL_snoc]
   by_cases b:t.level=L
   · subst b
     rw [has_put_same h.tidy.isMap (key_int _)];simp
   · rw [has_put_other (by intro a;injection a with _ a;exact b a.symm),h.has_ L c]
     simp [b]
 · rw [size_put h.tidy,h.has_ _ d,h.size_,cntL_snoc p t d f]
theorem cf_levels (A:Option Addr) (n c:Nat) (l:List Trm) (w:World) (h:Trms w A n c l) (hn:n≤1000) (C:∀ t ∈ l,0≤t.level∧t.level≤24∧0≤t.assoc∧t.assoc≤3) :
 Calls Tryz.prog 160 #[.slice A n c] w fun e w'=>e = .returned (.bool (levelsP l))∧Below w.heap.size w w':=by
 obtain rfl:=h.len
 have a2:=h.cap
 have Hb:=LH C
 clear C
 have ap:=@run_makeMap Tryz.prog
 have U:=alloc_below w (.map #[] 0)
 have W:=World.ownsMap_made w Tryz.prog 3 (plainElem (H:=Unit) Tryz.prog 3)
 go_enter Tryz.func160,Tryz.ntmps160
 go_wp2_with fail
 go_loopw [4,6,7,11] (fun top _ _ i wr=>∃ (k:Nat) (D:DataW Unit),k≤l.length∧i = .int .i64 (k:Int)∧top = .int .i64 (topL (l.take k))∧wr.ownsMap Tryz.prog 3 (plainElem Tryz.prog 3) w.heap.size k D∧Below w.heap.size w wr∧Hid (Ways D (l.take k))∧Hid (0≤topL (l.take k)∧topL (l.take k)≤24)∧Hid (∀ j,j < k→∀ y,l[j]? = some y→(!consAt l j y)=false)) (fun _ _ _ i _=>l.length - (intOf i).toNat)
 case atStart=>exact ⟨0, .map [],Nat.zero_le _,rfl,rfl,W,U,LH Ways.start,LH (by simp [topL]),LH fun j Z=>by omega⟩
 case round =>
  clear W U ap
  obtain ⟨k,D,hk,rfl,rfl,E,B,z,I,G⟩:=hrel
  have a4:=E.lt
  by_cases ao:k < l.length
  · obtain ⟨b,a6,t,rfl,C,r,q0,q1,q2⟩:=h.get ao
    rw [← B.cell (by exact C)] at q0 q1 q2
    have am:=Hb.out t (List.mem_of_getElem? r.out)
    have ab:l.take (k+1)=l.take k++[t]:=by rw [List.take_add_one,r.out];rfl
    have s:=LH ab
    obtain ⟨g1,g2,g3,g4⟩:=am
    obtain ⟨t1,t2⟩:=I.out
    have V:∀ o,Below w.heap.size w (wr.alloc o):=fun o=>B.alloc B.size o
    have v:=LH V
    have x:Hid (∀ o,(wr.alloc o).ownsMap Tryz.prog 3 (plainElem Tryz.prog 3) w.heap.size k D):=LH fun o=>E.alloc o
    clear V ab E
    by_cases m:t.level=0
    · have d1:(t.level == 0)=true:=by rw [beq_iff_eq];exact m
      have p:=LH m
      clear m
      go_wp2_with fail
      go_roundw
      case rel=>exact ⟨k+1,D,by omega,by go_num,by rw [s.out,topL_snoc,if_pos p.out],(x.out _).mono (by omega),v.out _,by rw [s.out];exact LH (z.out.zero p.out),by rw [s.out,topL_snoc,if_pos p.out];exact I,LH (next_noneI G.out r.out (by simp [consAt,p.out]))⟩
      case measure=>simp [intOf];omega
    · have d1:(t.level == 0)=false:=by rw [beq_eq_false_iff_ne];exact m
      have p:=LH m
      have R:1≤t.level:=by omega
      have L:keyOf Tryz.prog 3 (.int .i64 t.level)=some (.int .i64 t.level):=keyOf_int_mk Tryz.underlying3 (WalkArith.wf_i64 (by omega))
      have aa:=z.out.at_ t.level R
      have X:consAt l k t=(decide (wayOf (l.take k) t.level=0) || decide (wayOf (l.take k) t.level=t.assoc)):=by
       unfold consAt
       rw [show decide (t.level=0)=false from by simp [m],Bool.false_or]
      have M:=LH X
      generalize wayOf (l.take k) t.level=f at *
      have N:=LH aa
      clear m aa X
      by_cases g:f ≠ 0∧f ≠ t.assoc
      · have F:Hid (levelsP l=false):=LH (by
         have:consOK l=false:=allI_false r.out (by rw [M.out];simp [g.1,g.2])
         unfold levelsP;rw [this];rfl)
        have P:(f != 0)=true:=by rw [bne_iff_ne];exact g.1
        have d3:(f != t.assoc)=true:=by rw [bne_iff_ne];exact g.2
        clear g
        go_wp2_with (at_lookup;refine wpList_lookup_own_int _ rfl _ _ 154 rfl 3 3 .i64 law3 Tryz.underlying154 Tryz.underlying3 (zero3 _) w.heap.size k _ rfl (x.out _) _ _ rfl L ?_;intro c' d au;rw [N.out] at d;injection d with d;injection d with _ d;subst d)
        go_ret
        exact ⟨by rw [F.out];rfl,v.out _⟩
      · have ag:Hid ((!consAt l k t)=false):=LH (by
         rw [M.out]
         by_cases q:f=0
         · simp [q]
         · by_cases u:f=t.assoc
           · simp [u]
           · exact absurd ⟨q,u⟩ g)
        have hw:(f != 0)=false∨((f != 0)=true∧(f != t.assoc)=false):=by
         rw [bne_eq_false_iff_eq,bne_eq_false_iff_eq,bne_iff_ne]
         by_cases q:f=0
         · exact .inl q
         · exact .inr ⟨q,by by_cases u:f=t.assoc;exact u;exact absurd ⟨q,u⟩ g⟩
        have O:Hid (topL (l.take (k+1))=max (topL (l.take k)) t.level):=LH (by rw [s.out,topL_snoc,if_neg p.out])
        have J:=alloc_cell wr 91 #[.string t.name, .int .i64 t.level, .int .i64 t.assoc] 1
        simp only [List.getElem?_toArray,List.getElem?_cons_zero,List.getElem?_cons_succ] at J
        have af:=LH J
        clear g J
        rcases hw with P | ⟨P,d3⟩
        all_goals
         go_wp2_with (first
          | (at_lookup;refine wpList_lookup_own_int _ rfl _ _ 154 rfl 3 3 .i64 law3 Tryz.underlying154 Tryz.underlying3 (zero3 _) w.heap.size k _ rfl (x.out _) _ _ rfl L ?_;intro c' d au;rw [N.out] at d;injection d with d;injection d with _ d;subst d)
          | (at_mapUpdate;refine wpList_mapUpdate_own _ rfl _ _ _ 154 rfl 3 3 law3 Tryz.underlying154 _ w.heap.size k _ rfl (x.out _) (by unfold maxLen;omega) _ _ _ rfl rfl L _ [] (plainElem_int Tryz.underlying3 (WalkArith.wf_i64 (by omega))) ?_;intro w4 aq Y;have r1:=(World.cell?_of_block (a:=⟨wr.heap.size,1,none⟩) (Y.block wr.heap.size (by simp) (by intro S;injection S with S;omega))).trans af.out))
         go_roundw
         case rel=>exact ⟨k+1,_,by omega,by go_num,by rw [O.out],aq,(v.out _).grown Y (v.out _).size (fun j Z=>by cases Z;exact Nat.le_refl _),by rw [s.out];exact LH (z.out.more R g2),LH (by rw [O.out];omega),LH (next_noneI G.out r.out ag.out)⟩
         case measure=>simp [intOf];omega
  · obtain rfl:k=l.length:=by omega
    have hL:((l.length:Int) < (l.length:Int))=False:=by simp
    have F:Hid (levelsP l=(((Maps.size D:Nat):Int) == topL l)):=LH (by
     have hc:consOK l=true:=allI_true fun j y hy=>by
      have:=G.out j (List.getElem?_eq_some_iff.1 hy).1 y hy
      simpa using this
     have T:=z.out.size_
     have h2:=I.out
     rw [List.take_of_length_le (Nat.le_refl _)] at T h2
     unfold levelsP
     rw [hc,T,Bool.true_and,Bool.eq_iff_iff,decide_eq_true_iff,beq_iff_eq])
    go_wp2_with (at_len;refine wpList_len_own _ rfl _ 154 rfl 3 3 Tryz.underlying154 _ w.heap.size _ _ rfl E ?_)
    go_ret
    exact ⟨by rw [F.out];rfl,B⟩
theorem withinB_true {n a b:Int} (h:withinB n a b=true):a≤n∧n≤b:=by unfold withinB at h;simpa using h
def termsP (l:List Trm):Bool:=l.all basicT && (decide (l.length≤24) && levelsP l)
theorem cf_terms (A:Option Addr) (n c:Nat) (l:List Trm) (w:World) (h:Trms w A n c l) (hn:n≤1000) (V:∀ t ∈ l,t.name.size≤maxLen) :
 Calls Tryz.prog 98 #[.slice A n c] w fun e w'=>e = .returned (.bool (termsP l))∧Below w.heap.size w w':=by
 obtain rfl:=h.len
 have a3:=h.cap
 have Hs:=LH V
 have Hh:=LH h
 clear V
 go_enter Tryz.func98,Tryz.ntmps98
 go_wp2_with fail
 go_loopw [4,7] (fun _ i wr=>∃ (k:Nat),k≤l.length∧i = .int .i64 (k:Int)∧Below w.heap.size w wr∧Hid (∀ j,j < k→∀ y,l[j]? = some y→(!basicT y)=false)) (fun _ i _=>l.length - (intOf i).toNat)
 case atStart=>exact ⟨0,Nat.zero_le _,rfl,Below.refl _ _,LH fun j hj=>by omega⟩
 case round =>
  obtain ⟨k,hk,rfl,f,N⟩:=hrel
  by_cases ar:k < l.length
  · obtain ⟨b,a6,t,rfl,hb,C,q0,q1,q2⟩:=h.get ar
    rw [← f.cell (by exact hb)] at q0 q1 q2
    have W:=Hs.out t (List.mem_of_getElem? C.out)
    have G:=f.alloc f.size (.cells #[.string t.name, .int .i64 t.level, .int .i64 t.assoc] 91)
    have p0:=alloc_cell wr 91 #[.string t.name, .int .i64 t.level, .int .i64 t.assoc] 0
    have v:=alloc_cell wr 91 #[.string t.name, .int .i64 t.level, .int .i64 t.assoc] 1
    have J:=alloc_cell wr 91 #[.string t.name, .int .i64 t.level, .int .i64 t.assoc] 2
    have p5:=alloc_size wr (.cells #[.string t.name, .int .i64 t.level, .int .i64 t.assoc] 91)
    simp only [List.getElem?_toArray,List.getElem?_cons_zero,List.getElem?_cons_succ] at p0 v J
    go_wp2_with fail
    generalize wr.alloc (.cells #[.string t.name, .int .i64 t.level, .int .i64 t.assoc] 91)=O at *
    have m:wr.heap.size < O.heap.size:=by omega
    clear p5 q0 q1 q2
    generalize wr.heap.size=gt at *
    have q:=LH ((cf_named t.name O W).mono fun e w' I=>And.intro I.1 (And.intro (bcell I.2).1 (LH (G.trans (I.2.mono G.size)))))
    have P:=fun w=>cf_within t.level 0 24 w
    have R:=fun w=>cf_within t.assoc 0 3 w
    have U:basicT t=(namedB t.name && withinB t.level 0 24 && withinB t.assoc 0 3 && (decide (t.level=0) == decide (t.assoc=0))):=rfl
    have X:withinB t.level 0 24=true→0≤t.level∧t.level≤24:=withinB_true
    have Y:withinB t.assoc 0 3=true→0≤t.assoc∧t.assoc≤3:=withinB_true
    have s:=LH U
    clear U
    generalize namedB t.name=g at *
    generalize withinB t.level 0 24=u at *
    generalize withinB t.assoc 0 3=D at *
    have z:=LH P
    have L:=LH R
    have ak:=LH X
    have a0:=LH Y
    clear P R W G X Y
    have aw:g=false∨(g=true∧u=false)∨(g=true∧u=true∧D=false)∨(g=true∧u=true∧D=true):=by cases g <;> cases u <;> cases D <;> simp
    have T:basicT t=false→termsP l=false:=fun hf=>by
     have:=all_false (p:=basicT) C.out hf
     unfold termsP;rw [this];rfl
    have r:=LH T
    clear T
    rcases aw with rfl | ⟨rfl,rfl⟩ | ⟨rfl,rfl,rfl⟩ | ⟨rfl,rfl,rfl⟩
    · go_wp2_with (go_at_call 159;(with_reducible refine q.out.mono ?_);rintro e x ⟨rfl,d,a⟩)
      go_ret
      exact ⟨by rw [r.out (by rw [s.out];rfl)];rfl,a.out⟩
    · go_wp2_with (first
       | (go_at_call 159;(with_reducible refine q.out.mono ?_);rintro e x ⟨rfl,d,a⟩;have aa:=(d _ 1 m).trans v)
       | (go_at_call 99;(with_reducible refine (z.out _).mono ?_);rintro e w4 ⟨rfl,rfl⟩))
      go_ret
      exact ⟨by rw [r.out (by rw [s.out];rfl)];rfl,a.out⟩
    · have Hy:=ak.out rfl
      go_wp2_with (first
       | (go_at_call 159;(with_reducible refine q.out.mono ?_);rintro e x ⟨rfl,d,a⟩;have aa:=(d _ 1 m).trans v;have ax:=(d _ 2 m).trans J)
       | (go_at_call 99;(with_reducible refine (z.out _).mono ?_);rintro e w4 ⟨rfl,rfl⟩)
       | (go_at_call 99;(with_reducible refine (L.out _).mono ?_);rintro e w5 ⟨rfl,rfl⟩))
      go_ret
      exact ⟨by rw [r.out (by rw [s.out];rfl)];rfl,a.out⟩
    · have ap:((t.level == 0)=true∧(t.assoc == 0)=true∧basicT t=true)∨((t.level == 0)=false∧(t.assoc == 0)=false∧basicT t=true)∨((t.level == 0)=true∧(t.assoc == 0)=false∧basicT t=false)∨((t.level == 0)=false∧(t.assoc == 0)=true∧basicT t=false):=by
       rw [beq_iff_eq,beq_iff_eq,beq_eq_false_iff_ne,beq_eq_false_iff_ne,s.out]
       by_cases g1:t.level=0 <;> by_cases g2:t.assoc=0 <;> simp [g1,g2]
      rcases ap with ⟨E,F,o⟩ | ⟨E,F,o⟩ | ⟨E,F,o⟩ | ⟨E,F,o⟩
      all_goals
       have Hx:=LH o
       clear o
       go_wp2_with (first
        | (go_at_call 159;(with_reducible refine q.out.mono ?_);rintro e x ⟨rfl,d,a⟩;have aa:=(d _ 1 m).trans v;have ax:=(d _ 2 m).trans J)
        | (go_at_call 99;(with_reducible refine (z.out _).mono ?_);rintro e w4 ⟨rfl,rfl⟩)
        | (go_at_call 99;(with_reducible refine (L.out _).mono ?_);rintro e w5 ⟨rfl,rfl⟩))
       first
        | (go_ret;exact ⟨by rw [r.out Hx.out];rfl,a.out⟩)
        | (go_roundw
           case rel=>exact ⟨k+1,by omega,by go_num,a.out,LH (next_none N.out C.out (by rw [Hx.out];rfl))⟩
           case measure=>simp [intOf];omega)
  · obtain rfl:k=l.length:=by omega
    have H:l.all basicT=true:=all_true fun j y Z=>by
     have:=N.out j (List.getElem?_eq_some_iff.1 Z).1 y Z
     simpa using this
    have ah:=LH H
    have M:Hid (termsP l=(decide (l.length≤24) && levelsP l)):=LH (by unfold termsP;rw [H];rfl)
    clear H
    by_cases S:l.length≤24
    · have CL:=LH (cf_levels A l.length c l wr (Hh.out.below f) hn fun t ht=>by
       have:=basicT_facts ((List.all_eq_true.1 ah.out) t ht)
       exact ⟨this.2.1,this.2.2.1,this.2.2.2.1,this.2.2.2.2.1⟩)
      have B:Hid (termsP l=levelsP l):=LH (by rw [M.out,decide_eq_true S];rfl)
      go_wp2_with (go_at_call 160;(with_reducible refine CL.out.mono ?_);rintro e x ⟨rfl,ao⟩)
      go_ret
      exact ⟨by rw [B.out];rfl,below_tail f ao⟩
    · have B:Hid (termsP l=false):=LH (by rw [M.out,decide_eq_false S];rfl)
      go_wp2_with fail
      go_ret
      exact ⟨by rw [B.out];rfl,f⟩
theorem clone_strs (A:Option Addr) (n c:Nat) (d:List ByteArray) (w:World) (h:Strs w A n c d) (B:n≤1000) :
 Calls Tryz.prog 97 #[.slice A n c] w fun e w'=>∃ f g,e = .returned (.slice f n g)∧w'.ownsRow w.heap.size 9 1 (.slice f n g) n (d.map Value.string)∧Below w.heap.size w w':=by
 obtain rfl:=h.len
 cases A with
 | none =>
   have o:d=[]:=by
    cases d with
    | nil=>rfl
    | cons z d =>
      obtain ⟨b,p,e,_⟩:=h.2.2.2 (by simp)
      cases e
   subst o
   refine (Tryz.slices_Clone_string_nil 0 c w).mono ?_
   rintro e w' ⟨rfl,rfl⟩
   exact ⟨none,0,rfl,World.ownsRow_nil w' _ _ _,Below.refl _ _⟩
 | some a =>
   by_cases r:d.length=0
   · have o:=List.eq_nil_of_length_eq_zero r
     subst o
     refine (Tryz.slices_Clone_string_zero a c w).mono ?_
     rintro e w' ⟨x,rfl,k,_,l⟩
     obtain ⟨f,g,rfl⟩:=own_form k
     exact ⟨f,g,rfl,k,l⟩
   · obtain ⟨b,p,s,e,l,_,_⟩:=h.get (j:=0) (by omega)
     injection e with e
     subst e
     have t:∀ j,j < d.length→w.cell? ⟨b,p+j,none⟩=some (.string (d.getD j ByteArray.empty)):=fun j v=>by
      obtain ⟨y,C,D,m,_,q,u⟩:=h.get v
      injection m with m
      injection m with e3 e4
      subst e3 e4
      rw [u,List.getD_eq_getElem?_getD,q.out];rfl
     refine (Tryz.slices_Clone_string b p d.length c d w (Nat.le_refl _) (by omega) t).mono ?_
     rintro e w' ⟨x,rfl,k,_,l⟩
     obtain ⟨f,g,rfl⟩:=own_form k
     rw [List.take_of_length_le (Nat.le_refl _)] at k
     exact ⟨f,g,rfl,k,l⟩
theorem nodup_find {β:Type} (f:β→ByteArray) (l:List β):(l.map f).Nodup ↔ ∀ (i:Nat) x,l[i]? = some x→findI (fun y=>decide (f y=f x)) l=(i:Int):=by
 constructor
 · intro p i x b
   refine findI_at b (by simp) fun j a y g=>?_
   rw [decide_eq_false_iff_not]
   intro c
   have:=List.pairwise_iff_getElem.1 p j i (by rw [List.length_map];exact (List.getElem?_eq_some_iff.1 g).1) (by rw [List.length_map];exact (List.getElem?_eq_some_iff.1 b).1) a
   rw [List.getElem_map,List.getElem_map] at this
   obtain ⟨d,k⟩:=List.getElem?_eq_some_iff.1 g
   obtain ⟨q,m⟩:=List.getElem?_eq_some_iff.1 b
   rw [k,m] at this
   exact this c
 · intro h
   refine List.pairwise_iff_getElem.2 fun i j hi a n=>?_
   rw [List.length_map] at hi a
   rw [List.getElem_map,List.getElem_map]
   intro c
   have d:=h j l[j] (List.getElem?_eq_getElem a)
   obtain ⟨x,b,r,o⟩:=findI_pos d
   have:=o i n l[i] (List.getElem?_eq_getElem hi)
   simp [c] at this
theorem findI_lt {α:Type} {p:α→Bool} {l:List α}:findI p l < 0 ↔ ∀ x ∈ l,p x=false:=by
 constructor
 · intro h x b
   obtain ⟨j,a⟩:=List.getElem?_of_mem b
   exact findI_neg h j x a
 · intro h
   rw [findI_none fun j y c=>h y (List.mem_of_getElem? c)];omega
theorem allI_iff {α:Type} {p:Nat→α→Bool} {l:List α}:allI p l=true ↔ ∀ (j:Nat) y,l[j]? = some y→p j y=true:=⟨fun h j y a=>allI_get h a,allI_true⟩
def Gr.names (G:Gr):List ByteArray:=G.nons++G.terms.map Trm.name
def Gr.aheadP (G:Gr):Bool:=termsP G.terms && withinB G.nons.length 1 16 && withinB G.rules.length 1 40 && decide G.names.Nodup && withinB G.start 0 ((G.nons.length:Int) - 1)
def Gr.rightP (G:Gr):Bool:=G.aheadP && !(G.nons.any fun s=>!nameB (bytesOf s)) && decide (G.leftsGo G.rules (-1)=some ((G.nons.length:Int) - 1))
theorem names_nodup (G:Gr):G.names.Nodup ↔ (∀ (i:Nat) s,G.nons[i]? = some s→G.non s=(i:Int)∧G.term s < 0)∧∀ (i:Nat) t,G.terms[i]? = some t→G.term t.name=(i:Int):=by
 unfold Gr.names
 rw [List.nodup_append]
 have g:=nodup_find id G.nons
 have h:=nodup_find Trm.name G.terms
 rw [List.map_id] at g
 rw [g,h]
 constructor
 · rintro ⟨b,c,j⟩
   refine ⟨fun i s a=>⟨b i s a,findI_lt.2 fun t f=>?_⟩,c⟩
   rw [decide_eq_false_iff_not]
   intro d
   exact j s (List.mem_of_getElem? a) t.name (List.mem_map_of_mem f) d.symm
 · rintro ⟨b,c⟩
   refine ⟨fun i s a=>(b i s a).1,c,fun s a n k d=>?_⟩
   obtain ⟨t,f,rfl⟩:=List.mem_map.1 k
   obtain ⟨i,hi⟩:=List.getElem?_of_mem a
   have:=findI_lt.1 (b i s hi).2 t f
   simp [d] at this
theorem right_same (G:Gr):G.rightP=G.right:=by
 rw [Bool.eq_iff_iff]
 unfold Gr.rightP Gr.right Gr.aheadP Gr.termsOK Gr.nonsOK termsP withinB
 simp only [Bool.and_eq_true,decide_eq_true_eq,List.all_eq_true,names_nodup,allI_iff,Gr.termOK,Gr.nonOK,Bool.not_eq_true',List.any_eq_false,Bool.not_eq_true,Bool.not_eq_false']
 constructor
 · rintro ⟨⟨⟨⟨⟨⟨⟨f,c,h⟩,g⟩,o⟩,k,l⟩,q⟩,p⟩,n⟩
   rw [levels_same _ f,List.all_eq_true] at h
   exact ⟨⟨⟨⟨⟨c,fun j t a=>⟨⟨l j t a,f t (List.mem_of_getElem? a)⟩,h t (List.mem_of_getElem? a)⟩⟩,by omega,fun j s b=>⟨⟨by simpa using p s (List.mem_of_getElem? b),(k j s b).1⟩,(k j s b).2⟩⟩,by omega⟩,by omega⟩,n⟩
 · rintro ⟨⟨⟨⟨⟨f,c⟩,h,g⟩,o⟩,k⟩,l⟩
   have m:∀ t ∈ G.terms,basicT t=true:=fun t a=>by
    obtain ⟨j,d⟩:=List.getElem?_of_mem a
    exact (c j t d).1.2
   refine ⟨⟨⟨⟨⟨⟨⟨m,f,?_⟩,by omega⟩,by omega⟩,fun i s b=>⟨(g i s b).1.2,(g i s b).2⟩,fun i t a=>(c i t a).1.1⟩,by omega⟩,fun s b=>?_⟩,l⟩
   · rw [levels_same _ m,List.all_eq_true]
     intro t a
     obtain ⟨j,d⟩:=List.getElem?_of_mem a
     exact (c j t d).2
   · obtain ⟨j,d⟩:=List.getElem?_of_mem b
     simpa using (g j s d).1.1
theorem Tryz.infoStr:(Tryz.prog.info? 9).map (fun i=>(i.zero,i.size,i.bytes))=some (some (.string ByteArray.empty),1,16):=by kernel_rfl
theorem names_take (G:Gr) {k:Nat} {t:Trm} (a:G.terms[k]? = some t):(G.nons++(G.terms.take (k+1)).map Trm.name).map Value.string=(G.nons++(G.terms.take k).map Trm.name).map Value.string++[.string t.name]:=by
 rw [List.take_add_one,a];simp
theorem leftsP_bad (G:Gr) {k:Nat} {r:Rul} {T:Int} (j:G.rules[k]? = some r) (h:G.leftsGo (G.rules.take k) (-1)=some T) (d:(withinB r.left 0 (T+1) && G.ruleOK r)=false):G.rightP=false:=by
 have g:G.leftsGo (G.rules.take (k+1)) (-1)=none:=by
  rw [List.take_add_one,j,Option.toList_some,Gr.leftsGo_snoc,h]
  simp only [Option.bind_some]
  rw [if_neg]
  rintro ⟨a,b,c⟩
  rw [c] at d
  unfold withinB at d
  simp [a,b] at d
 have f:=Gr.leftsGo_none G (G.rules.take (k+1)) (G.rules.drop (k+1)) (-1) g
 rw [List.take_append_drop] at f
 unfold Gr.rightP
 rw [f];simp
theorem leftsP_good (G:Gr) {k:Nat} {r:Rul} {T:Int} (c:G.rules[k]? = some r) (h:G.leftsGo (G.rules.take k) (-1)=some T) (a:withinB r.left 0 (T+1)=true) (b:G.ruleOK r=true):G.leftsGo (G.rules.take (k+1)) (-1)=some (max T r.left):=by
 rw [List.take_add_one,c,Option.toList_some,Gr.leftsGo_snoc,h]
 simp only [Option.bind_some]
 have:=withinB_true a
 rw [if_pos ⟨this.1,this.2,b⟩]
theorem cf_Right (h:GH) (G:Gr) (w:World) (u:GrAt w h G) (hs:∀ t ∈ G.terms,t.name.size≤maxLen) (h1:h.n1≤100) (h2:h.n2≤100) :
 Calls Tryz.prog 56 #[GV h G.start] w fun e w'=>e = .returned (.bool G.right)∧Below w.heap.size w w':=by
 rw [← right_same]
 obtain ⟨a1,n1,c1,a2,n2,c2,a3,n3,c3⟩:=h
 have e1:G.terms.length=n1:=u.terms.len
 have e2:G.nons.length=n2:=u.nons.len
 have e3:G.rules.length=n3:=u.rules.len
 have k1:=u.terms.cap
 have g:=u.rules.cap
 simp only [] at h1 h2 k1 g
 have L:=LH u
 have Hs:=LH hs
 have a4:Hid (G.rightP=(G.aheadP && !(G.nons.any fun s=>!nameB (bytesOf s)) && decide (G.leftsGo G.rules (-1)=some ((n2:Int) - 1)))):=LH (by unfold Gr.rightP;rw [e2])
 have aw:Hid (G.aheadP=(termsP G.terms && withinB n2 1 16 && withinB n3 1 40 && decide G.names.Nodup && withinB G.start 0 ((n2:Int) - 1))):=LH (by unfold Gr.aheadP;rw [e2,e3])
 clear hs
 have ai:=alloc_below w (.cells #[.slice a1 n1 c1, .slice a2 n2 c2, .slice a3 n3 c3, .int .i64 G.start] 26)
 have ak:=GBox.new w 26 ⟨a1,n1,c1,a2,n2,c2,a3,n3,c3⟩ G.start
 go_enter Tryz.func56,Tryz.ntmps56
 have ⟨z5,z0,z1,z2,z3⟩:=ak
 simp only [] at z0 z1 z2 z3
 go_wp2_with fail
 generalize w.alloc (.cells #[.slice a1 n1 c1, .slice a2 n2 c2, .slice a3 n3 c3, .int .i64 G.start] 26)=o at *
 have P:=L.out.below ai
 (with_reducible refine (clone_strs a2 n2 c2 G.nons o P.nons (by omega)).mono ?_)
 rintro e w2 ⟨A2,C2,rfl,x,m⟩
 have bf:=ak.below m
 have ⟨y5,y0,y1,y2,y3⟩:=bf
 simp only [] at y0 y1 y2 y3
 clear z0 z1 z2 z3
 go_wp2_with fail
 go_loopw [3,5,15] (fun v _ i wr=>∃ (k:Nat) (A:Option Addr) (c:Nat),k≤n1∧i = .int .i64 (k:Int)∧v = .slice A (n2+k) c∧wr.ownsRow o.heap.size 9 1 (.slice A (n2+k) c) (n2+k) ((G.nons++(G.terms.take k).map Trm.name).map Value.string)∧Below o.heap.size o wr) (fun _ _ i _=>n1 - (intOf i).toNat)
 case atStart=>exact ⟨0,A2,C2,Nat.zero_le _,rfl,rfl,by simpa using x,m⟩
 case round =>
  clear x m bf y0 y1 y2 y3 y5
  obtain ⟨k,A,c,hk,rfl,rfl,x,m⟩:=hrel
  by_cases R:k < n1
  · obtain ⟨b,bu,t,rfl,l,Ht,S,U,V⟩:=P.terms.get R
    rw [← m.cell (by exact l)] at S U V
    have cu:o.heap.size≤wr.heap.size:=m.size
    have z:=m.alloc cu (.cells #[.string t.name, .int .i64 t.level, .int .i64 t.assoc] 91)
    have bm:=x.alloc (.cells #[.string t.name, .int .i64 t.level, .int .i64 t.assoc] 91)
    have p0:=alloc_cell wr 91 #[.string t.name, .int .i64 t.level, .int .i64 t.assoc] 0
    have p5:=alloc_size wr (.cells #[.string t.name, .int .i64 t.level, .int .i64 t.assoc] 91)
    simp only [List.getElem?_toArray,List.getElem?_cons_zero,List.getElem?_cons_succ] at p0
    have cv:o.heap.size≤(wr.alloc (.cells #[.string t.name, .int .i64 t.level, .int .i64 t.assoc] 91)).heap.size:=by omega
    go_wp2_with (at_builtin;refine wpl_append1 (w:=wr.alloc (.cells #[.string t.name, .int .i64 t.level, .int .i64 t.assoc] 91)) rfl _ _ 23 rfl o.heap.size 9 (.string ByteArray.empty) 16 Tryz.underlying23 Tryz.infoStr rfl _ (n2+k) _ _ rfl bm (.string t.name) (by rw [p5];rfl) rfl (by omega) (by omega) (by omega) ?_;intro A4 c4 w4 ho cw)
    go_roundw
    case rel=>exact ⟨k+1,A4,c4,by omega,by go_num,by rw [Nat.add_assoc],by rw [names_take G Ht.out];exact ho,below_append z cw bm cv⟩
    case measure=>simp [intOf];omega
  · obtain rfl:k=n1:=by omega
    rw [List.take_of_length_le (by omega)] at x
    have bl:Strs wr A (n2+k) c G.names:=own_sl x
    have bd:=ai.trans (m.mono ai.size)
    have q:=ak.below m
    have ⟨x5,x0,x1,x2,x3⟩:=q
    simp only [] at x0 x1 x2 x3
    have bg:∀ j,Below wr.heap.size wr j→GBox j w.heap.size ⟨a1,k,c1,a2,n2,c2,a3,n3,c3⟩ G.start:=fun j l=>q.below l
    have CT:=LH ((cf_terms a1 k c1 G.terms wr (P.terms.below m) (by omega) Hs.out).mono fun e w' a=>And.intro a.1 (And.intro (bcell a.2).1 (LH a.2)))
    have cA:=fun j (l:Below wr.heap.size wr j)=>(cf_alone A (n2+k) c G.names j (bl.below l) (by omega)).mono fun e w' a=>And.intro a.1 (And.intro (bcell a.2).1 (LH (below_tail l a.2)))
    have a8:=fun w=>cf_within (n2:Int) 1 16 w
    have a9:=fun w=>cf_within (n3:Int) 1 40 w
    have ba:=fun w=>cf_within G.start 0 ((n2:Int) - 1) w
    have br:withinB (n2:Int) 1 16=true→1≤(n2:Int)∧(n2:Int)≤16:=withinB_true
    have bs:withinB (n3:Int) 1 40=true→1≤(n3:Int)∧(n3:Int)≤40:=withinB_true
    have dh:IntKind.i64.wrap ((n2:Int) - 1)=(n2:Int) - 1:=IntWalk.i64_in _ (by omega)
    have ci:=LH P
    generalize termsP G.terms=p at *
    generalize withinB (n2:Int) 1 16=y at *
    generalize withinB (n3:Int) 1 40=F at *
    generalize decide G.names.Nodup=M at *
    generalize withinB G.start 0 ((n2:Int) - 1)=b5 at *
    have CA:=LH cA
    have X:=LH a8
    have Y:=LH a9
    have Z:=LH ba
    have cm:=LH br
    have cn:=LH bs
    have ay:=LH bg
    have I:=LH bd
    clear cA a8 a9 ba br bs bg bd x u bl q R hk
    have cz:((p=false)∨(p=true∧y=false)∨(p=true∧y=true∧F=false)∨(p=true∧y=true∧F=true∧M=false)∨(p=true∧y=true∧F=true∧M=true∧b5=false))∨(p=true∧y=true∧F=true∧M=true∧b5=true):=by cases p <;> cases y <;> cases F <;> cases M <;> cases b5 <;> simp
    rcases cz with H | ⟨rfl,rfl,rfl,rfl,rfl⟩
    · have az:Hid (G.rightP=false):=LH (by
       rw [a4.out,aw.out]
       rcases H with rfl | ⟨rfl,rfl⟩ | ⟨rfl,rfl,rfl⟩ | ⟨rfl,rfl,rfl,rfl⟩ | ⟨rfl,rfl,rfl,rfl,rfl⟩ <;> simp)
      rcases H with rfl | ⟨rfl,rfl⟩ | ⟨rfl,rfl,rfl⟩ | ⟨rfl,rfl,rfl,rfl⟩ | ⟨rfl,rfl,rfl,rfl,rfl⟩
      all_goals
       go_wp2_with (first
        | (go_at_call 98;(with_reducible refine CT.out.mono ?_);rintro e j ⟨rfl,f,d⟩;have B:=(f _ 1 x5).trans x1;have p2:=(f _ 2 x5).trans x2;have C:=(f _ 3 x5).trans x3)
        | (go_at_call 99;(with_reducible refine (X.out _).mono ?_);rintro e w4 ⟨rfl,rfl⟩)
        | (go_at_call 99;(with_reducible refine (Y.out _).mono ?_);rintro e w5 ⟨rfl,rfl⟩)
        | (go_at_call 99;(with_reducible refine (Z.out _).mono ?_);rintro e w6 ⟨rfl,rfl⟩)
        | (go_at_call 100;(with_reducible refine (CA.out _ d.out).mono ?_);rintro e w7 ⟨rfl,n,D⟩;have r1:=(n _ 1 (Nat.lt_of_lt_of_le x5 d.out.size)).trans B;have r3:=(n _ 3 (Nat.lt_of_lt_of_le x5 d.out.size)).trans C))
       go_ret
       first
        | exact ⟨by rw [az.out];rfl,below_tail I.out D.out⟩
        | exact ⟨by rw [az.out];rfl,below_tail I.out d.out⟩
    · have a0:Hid (G.rightP=(!(G.nons.any fun s=>!nameB (bytesOf s)) && decide (G.leftsGo G.rules (-1)=some ((n2:Int) - 1)))):=LH (by rw [a4.out,aw.out];simp)
      have df:=cm.out rfl
      have dg:=cn.out rfl
      have hC:=fun j (l:Below wr.heap.size wr j)=>(sl_contains_strs a2 n2 c2 G.nons 102 #[] (fun s=>!nameB (bytesOf s)) j enters_right1 ((ci.out.nons.below m).below l) (fun s _ w' _=>(cf_right1 s w').mono fun e w' a=>⟨a.1,by rw [← a.2];exact Below.refl _ _⟩)).mono fun e w' a=>And.intro a.1 (And.intro (bcell a.2).1 (LH (below_tail l a.2)))
      generalize (G.nons.any fun s=>!nameB (bytesOf s))=b6 at *
      have HC:=LH hC
      clear hC
      rcases (by cases b6 <;> simp:b6=true∨b6=false) with rfl | rfl
      · go_wp2_with (first
         | (go_at_call 98;(with_reducible refine CT.out.mono ?_);rintro e j ⟨rfl,f,d⟩;have B:=(f _ 1 x5).trans x1;have p2:=(f _ 2 x5).trans x2;have C:=(f _ 3 x5).trans x3)
         | (go_at_call 99;(with_reducible refine (X.out _).mono ?_);rintro e w4 ⟨rfl,rfl⟩)
         | (go_at_call 99;(with_reducible refine (Y.out _).mono ?_);rintro e w5 ⟨rfl,rfl⟩)
         | (go_at_call 99;(with_reducible refine (Z.out _).mono ?_);rintro e w6 ⟨rfl,rfl⟩)
         | (go_at_call 100;(with_reducible refine (CA.out _ d.out).mono ?_);rintro e w7 ⟨rfl,n,D⟩;have r1:=(n _ 1 (Nat.lt_of_lt_of_le x5 d.out.size)).trans B;have r3:=(n _ 3 (Nat.lt_of_lt_of_le x5 d.out.size)).trans C)
         | (go_at_call 101;(with_reducible refine (HC.out _ D.out).mono ?_);rintro e w8 ⟨rfl,bj,E⟩))
        go_ret
        exact ⟨by rw [a0.out];rfl,below_tail I.out E.out⟩
      · have ce:Hid (G.rightP=decide (G.leftsGo G.rules (-1)=some ((n2:Int) - 1))):=LH (by rw [a0.out];simp)
        go_wp2_with (first
         | (go_at_call 98;(with_reducible refine CT.out.mono ?_);rintro e j ⟨rfl,f,d⟩;have B:=(f _ 1 x5).trans x1;have p2:=(f _ 2 x5).trans x2;have C:=(f _ 3 x5).trans x3)
         | (go_at_call 99;(with_reducible refine (X.out _).mono ?_);rintro e w4 ⟨rfl,rfl⟩)
         | (go_at_call 99;(with_reducible refine (Y.out _).mono ?_);rintro e w5 ⟨rfl,rfl⟩)
         | (go_at_call 99;(with_reducible refine (Z.out _).mono ?_);rintro e w6 ⟨rfl,rfl⟩)
         | (go_at_call 100;(with_reducible refine (CA.out _ d.out).mono ?_);rintro e w7 ⟨rfl,n,D⟩;have r1:=(n _ 1 (Nat.lt_of_lt_of_le x5 d.out.size)).trans B;have r3:=(n _ 3 (Nat.lt_of_lt_of_le x5 d.out.size)).trans C)
         | (go_at_call 101;(with_reducible refine (HC.out _ D.out).mono ?_);rintro e w8 ⟨rfl,bj,E⟩;have ⟨v5,v0,v1,v2,v3⟩:=ay.out w8 E.out;simp only [] at v0 v1 v2 v3))
        have bh:=ay.out w8 E.out
        have bc:=below_tail I.out E.out
        clear v5 v0 v1 v2 v3 B p2 C r1 r3 f n bj x5 x0 x1 x2 x3
        go_loopw [6,8,64] (fun nx _ i wz=>∃ (g:Nat) (T:Int),g≤n3∧i = .int .i64 (g:Int)∧nx = .int .i64 (T+1)∧-1≤T∧T≤1000∧Hid (G.leftsGo (G.rules.take g) (-1)=some T)∧Below w.heap.size w wz∧GBox wz w.heap.size ⟨a1,k,c1,a2,n2,c2,a3,n3,c3⟩ G.start) (fun _ _ i _=>n3 - (intOf i).toNat)
        case atStart=>exact ⟨0,-1,Nat.zero_le _,rfl,rfl,by omega,by omega,LH rfl,bc,bh⟩
        case round =>
         clear bh bc
         obtain ⟨g,T,dc,rfl,rfl,c9,da,HT,O,q⟩:=hrel
         have ⟨z5',z0,z1,z2,z3⟩:=q
         simp only [] at z0 z1 z2 z3
         by_cases R:g < n3
         · obtain ⟨b,bu,r,Ar,cr,rfl,l,Hr,S,U,V,bn⟩:=L.out.rules.get R
           rw [← O.cell (by exact l)] at S U V
           have bo:=L.out.wf r (List.mem_of_getElem? Hr.out)
           have z:=O.alloc O.size (.cells #[.int .i64 r.left, .slice Ar r.right.length cr, .int .i64 r.prec] 52)
           have al:=q.below (alloc_below wr (.cells #[.int .i64 r.left, .slice Ar r.right.length cr, .int .i64 r.prec] 52))
           have bt:=RBox.new wr 52 r.left Ar r.right.length cr r.prec
           have p5:=alloc_size wr (.cells #[.int .i64 r.left, .slice Ar r.right.length cr, .int .i64 r.prec] 52)
           go_wp2_with fail
           generalize wr.alloc (.cells #[.int .i64 r.left, .slice Ar r.right.length cr, .int .i64 r.prec] 52)=W1 at *
           have ⟨s5,s0,s1,s2,s3⟩:=al
           have ⟨u5,u0,u1,u2⟩:=bt
           simp only [] at s0 s1 s2 s3 u0 u1 u2
           clear S U V z0 z1 z2 z3 q
           generalize wr.heap.size=gr at *
           have cR:=cf_rule ⟨a1,k,c1,a2,n2,c2,some ⟨b,bu,none⟩,n3,c3⟩ G r Ar cr W1 (L.out.below z) (bn.below z) bo (by simp only [];omega) (by simp only [];omega)
           have cW:=fun w=>cf_within r.left 0 (T+1) w
           have H:=@leftsP_bad G g r T Hr.out HT.out
           have bk:=@leftsP_good G g r T Hr.out HT.out
           have bq:withinB r.left 0 (T+1)=true→0≤r.left∧r.left≤T+1:=withinB_true
           generalize withinB r.left 0 (T+1)=N at *
           generalize G.ruleOK r=b8 at *
           have CR:=LH (cR.mono fun e w' a=>And.intro a.1 (And.intro (bcell a.2).1 (LH a.2)))
           have W:=LH cW
           have ax:=LH H
           have cg:=LH bk
           have ck:=LH bq
           have aa:=LH z
           have cl:=LH al
           clear cR cW H bk bq bo bn z al bt
           rcases (by cases N <;> cases b8 <;> simp:(N=false)∨(N=true∧b8=false)∨(N=true∧b8=true)) with rfl | ⟨rfl,rfl⟩ | ⟨rfl,rfl⟩
           · go_wp2_with (go_at_call 99;(with_reducible refine (W.out _).mono ?_);rintro e w9 ⟨rfl,rfl⟩)
             go_ret
             exact ⟨by rw [ax.out rfl];rfl,aa.out⟩
           · go_wp2_with (first
              | (go_at_call 99;(with_reducible refine (W.out _).mono ?_);rintro e w9 ⟨rfl,rfl⟩)
              | (go_at_call 104;(with_reducible refine CR.out.mono ?_);rintro e c6 ⟨rfl,bi,J⟩))
             go_ret
             exact ⟨by rw [ax.out rfl];rfl,below_tail aa.out J.out⟩
           · have di:=ck.out rfl
             have aj:=cg.out rfl rfl
             have db:=G.leftsGo_bd _ _ _ (by omega) aj
             have dd:(G.rules.take (g+1)).length≤40:=by rw [List.length_take];omega
             have cd:=LH aj
             clear aj
             have de:max (T+1) (r.left+1)=max T r.left+1:=by omega
             go_wp2_with (first
              | (go_at_call 99;(with_reducible refine (W.out _).mono ?_);rintro e w9 ⟨rfl,rfl⟩)
              | (go_at_call 104;(with_reducible refine CR.out.mono ?_);rintro e c6 ⟨rfl,bi,J⟩;have v0:=(bi _ 0 u5).trans u0))
             go_roundw
             case rel=>exact ⟨g+1,max T r.left,by omega,by go_num,rfl,by omega,by omega,cd,below_tail aa.out J.out,cl.out.below J.out⟩
             case measure=>simp [intOf];omega
         · obtain rfl:g=n3:=by omega
           have ad:=HT.out
           rw [List.take_of_length_le (by omega)] at ad
           have cf:Hid (G.rightP=(T+1 == (n2:Int))):=LH (by
            rw [ce.out,ad,Bool.eq_iff_iff,decide_eq_true_iff,beq_iff_eq]
            constructor
            · intro h;injection h with h;omega
            · intro h;congr 1;omega)
           clear ad
           go_wp2_with fail
           go_ret
           exact ⟨by rw [cf.out];rfl,O⟩
def Blk (w:World) (g:Nat) (t:TypeId) (cs:Array Value):Prop:=w.heap[g]? = some (.cells cs t (0,0))
theorem Blk.lt {w:World} {g:Nat} {t:TypeId} {cs:Array Value} (h:Blk w g t cs):g < w.heap.size:=by
 rcases Nat.lt_or_ge g w.heap.size with b | a
 · exact b
 · unfold Blk at h;rw [Array.getElem?_eq_none a] at h;cases h
theorem Blk.cell {w:World} {g:Nat} {t:TypeId} {cs:Array Value} (h:Blk w g t cs) (i:Nat):w.cell? ⟨g,i,none⟩=cs[i]? := by
 unfold Blk at h
 simp [World.cell?,h]
theorem Blk.frozen {w:World} {g:Nat} {t:TypeId} {cs:Array Value} (h:Blk w g t cs) (i:Nat):w.frozen? ⟨g,i,none⟩=false:=by
 unfold Blk at h
 simp [World.frozen?,h]
theorem Blk.set {w:World} {g:Nat} {t:TypeId} {cs:Array Value} (h:Blk w g t cs) (i:Nat) (v:Value):Blk (w.setCell ⟨g,i,none⟩ v) g t (cs.setIfInBounds i v):=by
 unfold Blk at h ⊢
 simp [World.setCell,Array.getElem?_modify,h]
theorem Blk.below {w w':World} {g B:Nat} {t:TypeId} {cs:Array Value} (h:Blk w g t cs) (a:Below B w w') (b:g < B):Blk w' g t cs:=(a.block g b).trans h
theorem Blk.ext {w w':World} {g:Nat} {t:TypeId} {cs:Array Value} (h:Blk w g t cs) (a:Below w.heap.size w w'):Blk w' g t cs:=h.below a h.lt
theorem Blk.new (w:World) (t:TypeId) (cs:Array Value):Blk (w.alloc (.cells cs t)) w.heap.size t cs:=heap_alloc_new w _
theorem Blk.grown {w w':World} {g:Nat} {t:TypeId} {cs:Array Value} {row:Option Nat} (h:Blk w g t cs) (a:w.grownBy w' row) (b:some g ≠ row):Blk w' g t cs:=(a.block g h.lt b).trans h
theorem Blk.other {w:World} {g:Nat} {t:TypeId} {cs:Array Value} (h:Blk w g t cs) (a i:Nat) (v:Value) (b:g ≠ a):Blk (w.setCell ⟨a,i,none⟩ v) g t cs:=(Below.heap_setCell w ⟨a,i,none⟩ v g b).trans h
theorem grown_refl (w:World) (r:Option Nat):w.grownBy w r:=⟨rfl,rfl,rfl,Nat.le_refl _,fun _ _ _=>rfl⟩
theorem grown_trans {a b c:World} {r:Option Nat} (h:a.grownBy b r) (k:b.grownBy c r):a.grownBy c r :=
 ⟨k.os.trans h.os,k.tape.trans h.tape,k.output.trans h.output,Nat.le_trans h.size k.size,fun i hi d=>(k.block i (Nat.lt_of_lt_of_le hi h.size) d).trans (h.block i hi d)⟩
theorem grown_set (w:World) (g i:Nat) (v:Value):w.grownBy (w.setCell ⟨g,i,none⟩ v) (some g) :=
 ⟨rfl,rfl,rfl,by simp,fun k _ a=>Below.heap_setCell w ⟨g,i,none⟩ v k fun h=>a (by rw [h])⟩
theorem grown_below {w w':World} (r:Option Nat) (h:Below w.heap.size w w'):w.grownBy w' r:=⟨h.os,h.tape,h.output,h.size,fun k a _=>h.block k a⟩
theorem grown_is_below {w w':World} {B:Nat} {g:Nat} (h:w.grownBy w' (some g)) (b:B≤w.heap.size) (c:B≤g):Below B w w' :=
 ⟨h.os,h.tape,h.output,h.size,fun k d=>h.block k (by omega) (by intro a;injection a with a;omega)⟩
theorem grown_frozen {w w':World} {g:Nat} (h:w.grownBy w' (some g)) {b o:Nat} (d:b < w.heap.size) (f:b ≠ g):w'.cell? ⟨b,o,none⟩=w.cell? ⟨b,o,none⟩ :=
 World.cell?_of_block (a:=⟨b,o,none⟩) (h.block b d (by intro c;injection c with c;exact f c))
theorem Blk.drew {w:World} {g:Nat} {t:TypeId} {cs:Array Value} (h:Blk w g t cs):Blk w.drew g t cs:=h
theorem below_alloc {w w':World} (h:Below w.heap.size w w') (o:Obj):Below w.heap.size w (w'.alloc o):=h.alloc h.size o
theorem below_set {w w':World} (h:Below w.heap.size w w') (g i:Nat) (v:Value) (a:w.heap.size≤g):Below w.heap.size w (w'.setCell ⟨g,i,none⟩ v):=h.trans (grown_is_below (grown_set _ _ _ _) h.size a)
def bools (N:List Bool):List Value:=N.map Value.bool
def BoolT (w:World) (g:Nat) (N:List Bool):Prop:=Blk w g 4 (bools N).toArray
def SetT (w:World) (g:Nat) (F:List Nat):Prop:=Blk w g 49 (nums .u32 F).toArray
theorem BoolT.at {w:World} {g:Nat} {N:List Bool} (h:BoolT w g N) {i:Nat} (hi:i < N.length):w.cell? ⟨g,i,none⟩=some (.bool (N.getD i false)):=by
 rw [Blk.cell h];simp [bools,hi]
theorem SetT.at {w:World} {g:Nat} {F:List Nat} (h:SetT w g F) {i:Nat} (hi:i < F.length):w.cell? ⟨g,i,none⟩=some (.int .u32 ((F.getD i 0:Nat):Int)):=by
 rw [Blk.cell h];simp [nums,hi]
theorem BoolT.put {w:World} {g:Nat} {N:List Bool} (h:BoolT w g N) (i:Nat) (b:Bool):BoolT (w.setCell ⟨g,i,none⟩ (.bool b)) g (N.set i b):=by
 have:=Blk.set h i (.bool b)
 unfold BoolT
 rwa [show (bools (N.set i b)).toArray=(bools N).toArray.setIfInBounds i (.bool b) by simp [bools,List.map_set]]
theorem SetT.put {w:World} {g:Nat} {F:List Nat} (h:SetT w g F) (i v:Nat):SetT (w.setCell ⟨g,i,none⟩ (.int .u32 (v:Int))) g (F.set i v):=by
 have:=Blk.set h i (.int .u32 (v:Int))
 unfold SetT
 rwa [show (nums .u32 (F.set i v)).toArray=(nums .u32 F).toArray.setIfInBounds i (.int .u32 (v:Int)) by simp [nums,List.map_set]]
theorem BoolT.new (w:World) (N:List Bool):BoolT (w.alloc (.cells (bools N).toArray 4)) w.heap.size N:=Blk.new w _ _
theorem SetT.new (w:World) (F:List Nat):SetT (w.alloc (.cells (nums .u32 F).toArray 49)) w.heap.size F:=Blk.new w _ _
theorem Tryz.infoBool:(Tryz.prog.info? 4).map (fun i=>(i.zero,i.size,i.bytes))=some (some (.bool false),1,1):=by kernel_rfl
theorem made_bools (n:Nat):madeCells #[Value.bool false] n=(bools (List.replicate n false)).toArray:=by
 apply Array.ext
 · simp [madeCells,bools]
 · intro j a b
   simp [madeCells,bools,Nat.mod_one]
theorem make_bools (n:Nat) (h:n≤1000) (w:World) :
 (Instr.makeSlice 97 (.int .i64 (n:Int)) (.int .i64 (n:Int))).run Tryz.prog w = .ok (.slice (some ⟨w.heap.size,0,none⟩) n n) (w.alloc (.cells (bools (List.replicate n false)).toArray 4)):=by
 obtain ⟨i,d,g,f,c⟩:=info_parts Tryz.infoBool
 have b:(i.bytes:Int) * (n:Int)≤281474976710656:=by rw [c];omega
 have a:=run_make (P:=Tryz.prog) w 97 4 i (.bool false) Tryz.underlying97 d g .i64 .i64 n n (by omega) (by omega) b (by omega)
 simp only [Int.toNat_natCast] at a
 rw [a,f,Nat.mul_one]
 simp only [Value.cells,made_bools]
theorem make_sets (n:Nat) (a:n≤1000) (w:World) :
 (Instr.makeSlice 30 (.int .i64 (n:Int)) (.int .i64 (n:Int))).run Tryz.prog w = .ok (.slice (some ⟨w.heap.size,0,none⟩) n n) (w.alloc (.cells (nums .u32 (List.replicate n 0)).toArray 49)) :=
 run_make_nums (P:=Tryz.prog) 30 49 .u32 4 Tryz.underlying30 Tryz.infoU32 n (by omega) (by omega) w
theorem non_place {s:Int} {n:Nat} (a:s < 0) (b:-(n:Int)≤s) (c:n≤1000):∃ j:Nat,j < n∧nonI s=j∧IntKind.i64.wrap (-1 - s)=(j:Int) :=
 ⟨nonI s,by unfold nonI;omega,rfl,by rw [IntWalk.i64_in _ (by omega)];unfold nonI;omega⟩
theorem rf_all (Ar:Option Addr) (A cr g n:Nat) (ss:List Int) (N:List Bool) (b:Bool) (w:World) (q:Ints .i64 w Ar A cr ss) (r:BoolT w g N) (M:N.length=n) (G:n≤1000) (v:∀ s ∈ ss,-(n:Int)≤s∧s≤1000) :
 Calls Tryz.prog 111 #[.slice Ar A cr, .slice (some ⟨g,0,none⟩) n n, .bool b] w fun e w'=>e = .returned (.bool (allP b N ss))∧w=w':=by
 obtain rfl:=q.len
 have J:=q.cap
 have D:=LH v
 have B:=LH r
 have m:Hid (allP b N ss=ss.all fun s=>if 0≤s then b else N.getD (nonI s) false):=LH rfl
 clear v r
 go_enter Tryz.func111,Tryz.ntmps111
 go_wp2_with fail
 go_loop [7] (fun i=>∃ (k:Nat),k≤ss.length∧i = .int .i64 (k:Int)∧Hid (∀ j,j < k→∀ y,ss[j]? = some y→(!(if 0≤y then b else N.getD (nonI y) false))=false)) (fun i=>ss.length - (intOf i).toNat)
 case atStart=>exact ⟨0,Nat.zero_le _,rfl,LH fun j E=>by omega⟩
 case round =>
  obtain ⟨k,L,rfl,p⟩:=hrel
  by_cases F:k < ss.length
  · obtain ⟨I,P,s,rfl,a,c,R⟩:=q.get F
    obtain ⟨H,S⟩:=D.out s (List.mem_of_getElem? c.out)
    by_cases h:0≤s
    · have d:b=false→allP b N ss=false:=fun a=>by rw [m.out];exact all_false c.out (by rw [if_pos h];exact a)
      have f:b=true→(!(if 0≤s then b else N.getD (nonI s) false))=false:=fun a=>by rw [if_pos h,a];rfl
      have l:=LH d
      have o:=LH f
      clear d f
      rcases (by cases b <;> simp:b=false∨b=true) with rfl | rfl
      · go_wp2_with fail
        go_ret
        exact ⟨by rw [l.out (by trivial)];rfl,rfl⟩
      · go_wp2_with fail
        go_roundw
        case rel=>exact ⟨k+1,by omega,by go_num,LH (next_none p.out c.out (o.out (by trivial)))⟩
        case measure=>simp [intOf];omega
    · obtain ⟨j,E,u,O⟩:=non_place (s:=s) (n:=n) (by omega) H G
      have c0:=B.out.at (i:=j) (by omega)
      have d:N.getD j false=false→allP b N ss=false:=fun a=>by rw [m.out];exact all_false c.out (by rw [if_neg h,u];exact a)
      have f:N.getD j false=true→(!(if 0≤s then b else N.getD (nonI s) false))=false:=fun a=>by rw [if_neg h,u,a];rfl
      generalize N.getD j false=x at *
      have l:=LH d
      have o:=LH f
      clear d f
      rcases (by cases x <;> simp:x=false∨x=true) with rfl | rfl
      · go_wp2_with fail
        go_ret
        exact ⟨by rw [l.out (by trivial)];rfl,rfl⟩
      · go_wp2_with fail
        go_roundw
        case rel=>exact ⟨k+1,by omega,by go_num,LH (next_none p.out c.out (o.out (by trivial)))⟩
        case measure=>simp [intOf];omega
  · obtain rfl:k=ss.length:=by omega
    have t:allP b N ss=true:=by
     rw [m.out]
     exact all_true fun j y z=>by
      have:=p.out j (List.getElem?_eq_some_iff.1 z).1 y z
      simpa using this
    have C:=LH t
    clear t
    go_wp2_with fail
    go_ret
    exact ⟨by rw [C.out];rfl,rfl⟩
end Go.Proofs.YtggbjdmpjidhgaaGreatDoor
