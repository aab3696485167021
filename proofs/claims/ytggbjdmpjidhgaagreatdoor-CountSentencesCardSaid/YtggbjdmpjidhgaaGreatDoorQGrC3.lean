/- grammars: levels, walked. -/
import Derived.Test.YtggbjdmpjidhgaaGreatDoorQGrW3
import Derived.Outline
import Derived.Test.YtggbjdmpjidhgaaGreatDoorQGrShelf
import Derived.Test.YtggbjdmpjidhgaaGreatDoorQGrS1
import Derived.Test.YtggbjdmpjidhgaaGreatDoorQGrP2
import Derived.Test.YtggbjdmpjidhgaaGreatDoorQKit
set_option linter.unusedVariables false
set_option linter.unusedSimpArgs false
set_option maxHeartbeats 8000000
set_option maxRecDepth 100000
namespace Go.Proofs.YtggbjdmpjidhgaaGreatDoor
open Go.RowKit
open Go.RowKit Go.Maps
theorem law3:Keyed Tryz.prog 3:=int_keyed Tryz.underlying3
theorem zero3 (w:World):(zeroValue 3).run Tryz.prog w = .ok (.int .i64 0) w:=by kernel_rfl
structure Ways (D:DataW Unit) (p:List Trm):Prop where
 tidy:Tidy D
 at_:∀ L:Int,1≤L→D.atKey (.int .i64 L) (.lit (.int .i64 0)) = .lit (.int .i64 (wayOf p L))
 has_:∀ L:Int,1≤L→has D (.int .i64 L)=hasL p L
 size_:Maps.size D=cntL p
theorem key_int (L:Int):WideAt.IsKeyLit (.int .i64 L):=trivial
theorem Ways.start:Ways (.map []) []:=⟨tidy_empty,fun L _=>rfl,fun L _=>rfl,rfl⟩
theorem Ways.zero {D:DataW Unit} {p:List Trm} {t:Trm} (h:Ways D p) (ht:t.level=0):Ways D (p++[t]) :=
 ⟨h.tidy,fun L hL=>by rw [h.at_ L hL,wayOf_snoc,if_neg (by omega)],fun L hL=>by rw [h.has_ L hL,hasL_snoc,show decide (t.level=L)=false from by simp;omega,Bool.or_false],by rw [h.size_,cntL_zero p t ht]⟩
theorem Ways.more {D:DataW Unit} {p:List Trm} {t:Trm} (h:Ways D p) (h1:1≤t.level) (h2:t.level≤24):Ways (D.put (.int .i64 t.level) (.lit (.int .i64 t.assoc))) (p++[t]):=by
 refine ⟨h.tidy.put (key_int _) _,fun L hL=>?_,fun L hL=>?_,?_⟩
 · rw [wayOf_snoc]
   by_cases he:t.level=L
   · subst he
     rw [if_pos rfl,atKey_put_same h.tidy.isMap (key_int _)]
   · rw [if_neg he,atKey_put_other (by intro h';injection h' with _ h';exact he h'.symm),h.at_ L hL]
 · rw [hasL_snoc]
   by_cases he:t.level=L
   · subst he
     rw [has_put_same h.tidy.isMap (key_int _)];simp
   · rw [has_put_other (by intro h';injection h' with _ h';exact he h'.symm),h.has_ L hL]
     simp [he]
 · rw [size_put h.tidy,h.has_ _ h1,h.size_,cntL_snoc p t h1 h2]
theorem cf_levels (A:Option Addr) (n c:Nat) (l:List Trm) (w:World) (h:Trms w A n c l) (hn:n≤1000) (hb:∀ t ∈ l,0≤t.level∧t.level≤24∧0≤t.assoc∧t.assoc≤3) :
 Calls Tryz.prog 160 #[.slice A n c] w fun e w'=>e = .returned (.bool (levelsP l))∧Below w.heap.size w w':=by
 obtain rfl:=h.len
 have hcap:=h.cap
 have Hb:=LH hb
 clear hb
 have hmm:=@run_makeMap Tryz.prog
 have hB0:=alloc_below w (.map #[] 0)
 have hM0:=World.ownsMap_made w Tryz.prog 3 (plainElem (H:=Unit) Tryz.prog 3)
 go_enter Tryz.func160,Tryz.ntmps160
 go_wp2_with fail
 go_loopw [4,6,7,11] (fun top _ _ i wr=>∃ (k:Nat) (D:DataW Unit),k≤l.length∧i = .int .i64 (k:Int)∧top = .int .i64 (topL (l.take k))∧wr.ownsMap Tryz.prog 3 (plainElem Tryz.prog 3) w.heap.size k D∧Below w.heap.size w wr∧Hid (Ways D (l.take k))∧Hid (0≤topL (l.take k)∧topL (l.take k)≤24)∧Hid (∀ j,j < k→∀ y,l[j]? = some y→(!consAt l j y)=false)) (fun _ _ _ i _=>l.length - (intOf i).toNat)
 case atStart=>exact ⟨0, .map [],Nat.zero_le _,rfl,rfl,hM0,hB0,LH Ways.start,LH (by simp [topL]),LH fun j hj=>by omega⟩
 case round =>
  clear hM0 hB0 hmm
  obtain ⟨k,D,hk,rfl,rfl,hown,hB,Hway,Htop,Hk⟩:=hrel
  have hlt:=hown.lt
  by_cases hkk:k < l.length
  · obtain ⟨b,off,t,rfl,hb,Ht,q0,q1,q2⟩:=h.get hkk
    rw [← hB.cell (by exact hb)] at q0 q1 q2
    have hbt:=Hb.out t (List.mem_of_getElem? Ht.out)
    have htk:l.take (k+1)=l.take k++[t]:=by rw [List.take_add_one,Ht.out];rfl
    have Htk:=LH htk
    obtain ⟨g1,g2,g3,g4⟩:=hbt
    obtain ⟨t1,t2⟩:=Htop.out
    have hB1:∀ o,Below w.heap.size w (wr.alloc o):=fun o=>hB.alloc hB.size o
    have HB1:=LH hB1
    have Hown1:Hid (∀ o,(wr.alloc o).ownsMap Tryz.prog 3 (plainElem Tryz.prog 3) w.heap.size k D):=LH fun o=>hown.alloc o
    clear hB1 htk hown
    by_cases hz:t.level=0
    · have d1:(t.level == 0)=true:=by rw [beq_iff_eq];exact hz
      have Hz:=LH hz
      clear hz
      go_wp2_with fail
      go_roundw
      case rel=>exact ⟨k+1,D,by omega,by go_num,by rw [Htk.out,topL_snoc,if_pos Hz.out],(Hown1.out _).mono (by omega),HB1.out _,by rw [Htk.out];exact LH (Hway.out.zero Hz.out),by rw [Htk.out,topL_snoc,if_pos Hz.out];exact Htop,LH (next_noneI Hk.out Ht.out (by simp [consAt,Hz.out]))⟩
      case measure=>simp [intOf];omega
    · have d1:(t.level == 0)=false:=by rw [beq_eq_false_iff_ne];exact hz
      have Hz:=LH hz
      have g5:1≤t.level:=by omega
      have hkey:keyOf Tryz.prog 3 (.int .i64 t.level)=some (.int .i64 t.level):=keyOf_int_mk Tryz.underlying3 (WalkArith.wf_i64 (by omega))
      have hlk:=Hway.out.at_ t.level g5
      have hcons:consAt l k t=(decide (wayOf (l.take k) t.level=0) || decide (wayOf (l.take k) t.level=t.assoc)):=by
       unfold consAt
       rw [show decide (t.level=0)=false from by simp [hz],Bool.false_or]
      have Hcons:=LH hcons
      generalize wayOf (l.take k) t.level=wy at *
      have Hlk:=LH hlk
      clear hz hlk hcons
      by_cases hbad:wy ≠ 0∧wy ≠ t.assoc
      · have Hfin:Hid (levelsP l=false):=LH (by
         have:consOK l=false:=allI_false Ht.out (by rw [Hcons.out];simp [hbad.1,hbad.2])
         unfold levelsP;rw [this];rfl)
        have d2:(wy != 0)=true:=by rw [bne_iff_ne];exact hbad.1
        have d3:(wy != t.assoc)=true:=by rw [bne_iff_ne];exact hbad.2
        clear hbad
        go_wp2_with (at_lookup;refine wpList_lookup_own_int _ rfl _ _ 154 rfl 3 3 .i64 law3 Tryz.underlying154 Tryz.underlying3 (zero3 _) w.heap.size k _ rfl (Hown1.out _) _ _ rfl hkey ?_;intro c' hat hwc;rw [Hlk.out] at hat;injection hat with hat;injection hat with _ hat;subst hat)
        go_ret
        exact ⟨by rw [Hfin.out];rfl,HB1.out _⟩
      · have Hnx:Hid ((!consAt l k t)=false):=LH (by
         rw [Hcons.out]
         by_cases h0:wy=0
         · simp [h0]
         · by_cases h9:wy=t.assoc
           · simp [h9]
           · exact absurd ⟨h0,h9⟩ hbad)
        have hw:(wy != 0)=false∨((wy != 0)=true∧(wy != t.assoc)=false):=by
         rw [bne_eq_false_iff_eq,bne_eq_false_iff_eq,bne_iff_ne]
         by_cases h0:wy=0
         · exact .inl h0
         · exact .inr ⟨h0,by by_cases h9:wy=t.assoc;exact h9;exact absurd ⟨h0,h9⟩ hbad⟩
        have Htop2:Hid (topL (l.take (k+1))=max (topL (l.take k)) t.level):=LH (by rw [Htk.out,topL_snoc,if_neg Hz.out])
        have hc1:=alloc_cell wr 91 #[.string t.name, .int .i64 t.level, .int .i64 t.assoc] 1
        simp only [List.getElem?_toArray,List.getElem?_cons_zero,List.getElem?_cons_succ] at hc1
        have Hc1:=LH hc1
        clear hbad hc1
        rcases hw with d2 | ⟨d2,d3⟩
        all_goals
         go_wp2_with (first
          | (at_lookup;refine wpList_lookup_own_int _ rfl _ _ 154 rfl 3 3 .i64 law3 Tryz.underlying154 Tryz.underlying3 (zero3 _) w.heap.size k _ rfl (Hown1.out _) _ _ rfl hkey ?_;intro c' hat hwc;rw [Hlk.out] at hat;injection hat with hat;injection hat with _ hat;subst hat)
          | (at_mapUpdate;refine wpList_mapUpdate_own _ rfl _ _ _ 154 rfl 3 3 law3 Tryz.underlying154 _ w.heap.size k _ rfl (Hown1.out _) (by unfold maxLen;omega) _ _ _ rfl rfl hkey _ [] (plainElem_int Tryz.underlying3 (WalkArith.wf_i64 (by omega))) ?_;intro w4 hown4 hgrow4;have r1:=(World.cell?_of_block (a:=⟨wr.heap.size,1,none⟩) (hgrow4.block wr.heap.size (by simp) (by intro h';injection h' with h';omega))).trans Hc1.out))
         go_roundw
         case rel=>exact ⟨k+1,_,by omega,by go_num,by rw [Htop2.out],hown4,(HB1.out _).grown hgrow4 (HB1.out _).size (fun j hj=>by cases hj;exact Nat.le_refl _),by rw [Htk.out];exact LH (Hway.out.more g5 g2),LH (by rw [Htop2.out];omega),LH (next_noneI Hk.out Ht.out Hnx.out)⟩
         case measure=>simp [intOf];omega
  · obtain rfl:k=l.length:=by omega
    have hL:((l.length:Int) < (l.length:Int))=False:=by simp
    have Hfin:Hid (levelsP l=(((Maps.size D:Nat):Int) == topL l)):=LH (by
     have hc:consOK l=true:=allI_true fun j y hy=>by
      have:=Hk.out j (List.getElem?_eq_some_iff.1 hy).1 y hy
      simpa using this
     have h1:=Hway.out.size_
     have h2:=Htop.out
     rw [List.take_of_length_le (Nat.le_refl _)] at h1 h2
     unfold levelsP
     rw [hc,h1,Bool.true_and,Bool.eq_iff_iff,decide_eq_true_iff,beq_iff_eq])
    go_wp2_with (at_len;refine wpList_len_own _ rfl _ 154 rfl 3 3 Tryz.underlying154 _ w.heap.size _ _ rfl hown ?_)
    go_ret
    exact ⟨by rw [Hfin.out];rfl,hB⟩
theorem withinB_true {n a b:Int} (h:withinB n a b=true):a≤n∧n≤b:=by unfold withinB at h;simpa using h
def termsP (l:List Trm):Bool:=l.all basicT && (decide (l.length≤24) && levelsP l)
theorem cf_terms (A:Option Addr) (n c:Nat) (l:List Trm) (w:World) (h:Trms w A n c l) (hn:n≤1000) (hs:∀ t ∈ l,t.name.size≤maxLen) :
 Calls Tryz.prog 98 #[.slice A n c] w fun e w'=>e = .returned (.bool (termsP l))∧Below w.heap.size w w':=by
 obtain rfl:=h.len
 have hcap:=h.cap
 have Hs:=LH hs
 have Hh:=LH h
 clear hs
 go_enter Tryz.func98,Tryz.ntmps98
 go_wp2_with fail
 go_loopw [4,7] (fun _ i wr=>∃ (k:Nat),k≤l.length∧i = .int .i64 (k:Int)∧Below w.heap.size w wr∧Hid (∀ j,j < k→∀ y,l[j]? = some y→(!basicT y)=false)) (fun _ i _=>l.length - (intOf i).toNat)
 case atStart=>exact ⟨0,Nat.zero_le _,rfl,Below.refl _ _,LH fun j hj=>by omega⟩
 case round =>
  obtain ⟨k,hk,rfl,hB,Hk⟩:=hrel
  by_cases hkk:k < l.length
  · obtain ⟨b,off,t,rfl,hb,Ht,q0,q1,q2⟩:=h.get hkk
    rw [← hB.cell (by exact hb)] at q0 q1 q2
    have hst:=Hs.out t (List.mem_of_getElem? Ht.out)
    have hB1:=hB.alloc hB.size (.cells #[.string t.name, .int .i64 t.level, .int .i64 t.assoc] 91)
    have p0:=alloc_cell wr 91 #[.string t.name, .int .i64 t.level, .int .i64 t.assoc] 0
    have p1:=alloc_cell wr 91 #[.string t.name, .int .i64 t.level, .int .i64 t.assoc] 1
    have p2:=alloc_cell wr 91 #[.string t.name, .int .i64 t.level, .int .i64 t.assoc] 2
    have p5:=alloc_size wr (.cells #[.string t.name, .int .i64 t.level, .int .i64 t.assoc] 91)
    simp only [List.getElem?_toArray,List.getElem?_cons_zero,List.getElem?_cons_succ] at p0 p1 p2
    go_wp2_with fail
    generalize wr.alloc (.cells #[.string t.name, .int .i64 t.level, .int .i64 t.assoc] 91)=W1 at *
    have hlt1:wr.heap.size < W1.heap.size:=by omega
    clear p5 q0 q1 q2
    generalize wr.heap.size=gt at *
    have CN:=LH ((cf_named t.name W1 hst).mono fun e w' hh=>And.intro hh.1 (And.intro (bcell hh.2).1 (LH (hB1.trans (hh.2.mono hB1.size)))))
    have cW1:=fun w=>cf_within t.level 0 24 w
    have cW2:=fun w=>cf_within t.assoc 0 3 w
    have hdef:basicT t=(namedB t.name && withinB t.level 0 24 && withinB t.assoc 0 3 && (decide (t.level=0) == decide (t.assoc=0))):=rfl
    have hx1:withinB t.level 0 24=true→0≤t.level∧t.level≤24:=withinB_true
    have hx2:withinB t.assoc 0 3=true→0≤t.assoc∧t.assoc≤3:=withinB_true
    have Hdef:=LH hdef
    clear hdef
    generalize namedB t.name=b1 at *
    generalize withinB t.level 0 24=b2 at *
    generalize withinB t.assoc 0 3=b3 at *
    have CW1:=LH cW1
    have CW2:=LH cW2
    have Hx1:=LH hx1
    have Hx2:=LH hx2
    clear cW1 cW2 hst hB1 hx1 hx2
    have hways:b1=false∨(b1=true∧b2=false)∨(b1=true∧b2=true∧b3=false)∨(b1=true∧b2=true∧b3=true):=by cases b1 <;> cases b2 <;> cases b3 <;> simp
    have hbad:basicT t=false→termsP l=false:=fun hf=>by
     have:=all_false (p:=basicT) Ht.out hf
     unfold termsP;rw [this];rfl
    have Hbad:=LH hbad
    clear hbad
    rcases hways with rfl | ⟨rfl,rfl⟩ | ⟨rfl,rfl,rfl⟩ | ⟨rfl,rfl,rfl⟩
    · go_wp2_with (go_at_call 159;(with_reducible refine CN.out.mono ?_);rintro e w3 ⟨rfl,hc3,Hb3⟩)
      go_ret
      exact ⟨by rw [Hbad.out (by rw [Hdef.out];rfl)];rfl,Hb3.out⟩
    · go_wp2_with (first
       | (go_at_call 159;(with_reducible refine CN.out.mono ?_);rintro e w3 ⟨rfl,hc3,Hb3⟩;have p1':=(hc3 _ 1 hlt1).trans p1)
       | (go_at_call 99;(with_reducible refine (CW1.out _).mono ?_);rintro e w4 ⟨rfl,rfl⟩))
      go_ret
      exact ⟨by rw [Hbad.out (by rw [Hdef.out];rfl)];rfl,Hb3.out⟩
    · have Hy:=Hx1.out rfl
      go_wp2_with (first
       | (go_at_call 159;(with_reducible refine CN.out.mono ?_);rintro e w3 ⟨rfl,hc3,Hb3⟩;have p1':=(hc3 _ 1 hlt1).trans p1;have p2':=(hc3 _ 2 hlt1).trans p2)
       | (go_at_call 99;(with_reducible refine (CW1.out _).mono ?_);rintro e w4 ⟨rfl,rfl⟩)
       | (go_at_call 99;(with_reducible refine (CW2.out _).mono ?_);rintro e w5 ⟨rfl,rfl⟩))
      go_ret
      exact ⟨by rw [Hbad.out (by rw [Hdef.out];rfl)];rfl,Hb3.out⟩
    · have hee:((t.level == 0)=true∧(t.assoc == 0)=true∧basicT t=true)∨((t.level == 0)=false∧(t.assoc == 0)=false∧basicT t=true)∨((t.level == 0)=true∧(t.assoc == 0)=false∧basicT t=false)∨((t.level == 0)=false∧(t.assoc == 0)=true∧basicT t=false):=by
       rw [beq_iff_eq,beq_iff_eq,beq_eq_false_iff_ne,beq_eq_false_iff_ne,Hdef.out]
       by_cases g1:t.level=0 <;> by_cases g2:t.assoc=0 <;> simp [g1,g2]
      rcases hee with ⟨e1,e2,hx⟩ | ⟨e1,e2,hx⟩ | ⟨e1,e2,hx⟩ | ⟨e1,e2,hx⟩
      all_goals
       have Hx:=LH hx
       clear hx
       go_wp2_with (first
        | (go_at_call 159;(with_reducible refine CN.out.mono ?_);rintro e w3 ⟨rfl,hc3,Hb3⟩;have p1':=(hc3 _ 1 hlt1).trans p1;have p2':=(hc3 _ 2 hlt1).trans p2)
        | (go_at_call 99;(with_reducible refine (CW1.out _).mono ?_);rintro e w4 ⟨rfl,rfl⟩)
        | (go_at_call 99;(with_reducible refine (CW2.out _).mono ?_);rintro e w5 ⟨rfl,rfl⟩))
       first
        | (go_ret;exact ⟨by rw [Hbad.out Hx.out];rfl,Hb3.out⟩)
        | (go_roundw
           case rel=>exact ⟨k+1,by omega,by go_num,Hb3.out,LH (next_none Hk.out Ht.out (by rw [Hx.out];rfl))⟩
           case measure=>simp [intOf];omega)
  · obtain rfl:k=l.length:=by omega
    have hall:l.all basicT=true:=all_true fun j y hy=>by
     have:=Hk.out j (List.getElem?_eq_some_iff.1 hy).1 y hy
     simpa using this
    have Hall:=LH hall
    have Hfin:Hid (termsP l=(decide (l.length≤24) && levelsP l)):=LH (by unfold termsP;rw [hall];rfl)
    clear hall
    by_cases h24:l.length≤24
    · have CL:=LH (cf_levels A l.length c l wr (Hh.out.below hB) hn fun t ht=>by
       have:=basicT_facts ((List.all_eq_true.1 Hall.out) t ht)
       exact ⟨this.2.1,this.2.2.1,this.2.2.2.1,this.2.2.2.2.1⟩)
      have Hf2:Hid (termsP l=levelsP l):=LH (by rw [Hfin.out,decide_eq_true h24];rfl)
      go_wp2_with (go_at_call 160;(with_reducible refine CL.out.mono ?_);rintro e w3 ⟨rfl,hb3⟩)
      go_ret
      exact ⟨by rw [Hf2.out];rfl,below_tail hB hb3⟩
    · have Hf2:Hid (termsP l=false):=LH (by rw [Hfin.out,decide_eq_false h24];rfl)
      go_wp2_with fail
      go_ret
      exact ⟨by rw [Hf2.out];rfl,hB⟩
theorem clone_strs (A:Option Addr) (n c:Nat) (zs:List ByteArray) (w:World) (h:Strs w A n c zs) (hn:n≤1000) :
 Calls Tryz.prog 97 #[.slice A n c] w fun e w'=>∃ A' c',e = .returned (.slice A' n c')∧w'.ownsRow w.heap.size 9 1 (.slice A' n c') n (zs.map Value.string)∧Below w.heap.size w w':=by
 obtain rfl:=h.len
 cases A with
 | none =>
   have hz:zs=[]:=by
    cases zs with
    | nil=>rfl
    | cons z zs =>
      obtain ⟨b,off,e,_⟩:=h.2.2.2 (by simp)
      cases e
   subst hz
   refine (Tryz.slices_Clone_string_nil 0 c w).mono ?_
   rintro e w' ⟨rfl,rfl⟩
   exact ⟨none,0,rfl,World.ownsRow_nil w' _ _ _,Below.refl _ _⟩
 | some a =>
   by_cases h0:zs.length=0
   · have hz:=List.eq_nil_of_length_eq_zero h0
     subst hz
     refine (Tryz.slices_Clone_string_zero a c w).mono ?_
     rintro e w' ⟨v',rfl,ho,_,hb⟩
     obtain ⟨A',c',rfl⟩:=own_form ho
     exact ⟨A',c',rfl,ho,hb⟩
   · obtain ⟨b,off,s,e,hb,_,_⟩:=h.get (j:=0) (by omega)
     injection e with e
     subst e
     have hc:∀ j,j < zs.length→w.cell? ⟨b,off+j,none⟩=some (.string (zs.getD j ByteArray.empty)):=fun j hj=>by
      obtain ⟨b2,off2,s2,e2,_,Hs,hc2⟩:=h.get hj
      injection e2 with e2
      injection e2 with e3 e4
      subst e3 e4
      rw [hc2,List.getD_eq_getElem?_getD,Hs.out];rfl
     refine (Tryz.slices_Clone_string b off zs.length c zs w (Nat.le_refl _) (by omega) hc).mono ?_
     rintro e w' ⟨v',rfl,ho,_,hb⟩
     obtain ⟨A',c',rfl⟩:=own_form ho
     rw [List.take_of_length_le (Nat.le_refl _)] at ho
     exact ⟨A',c',rfl,ho,hb⟩
theorem nodup_find {β:Type} (f:β→ByteArray) (l:List β):(l.map f).Nodup ↔ ∀ (i:Nat) x,l[i]? = some x→findI (fun y=>decide (f y=f x)) l=(i:Int):=by
 constructor
 · intro hn i x hx
   refine findI_at hx (by simp) fun j hj y hy=>?_
   rw [decide_eq_false_iff_not]
   intro he
   have:=List.pairwise_iff_getElem.1 hn j i (by rw [List.length_map];exact (List.getElem?_eq_some_iff.1 hy).1) (by rw [List.length_map];exact (List.getElem?_eq_some_iff.1 hx).1) hj
   rw [List.getElem_map,List.getElem_map] at this
   obtain ⟨h1,e1⟩:=List.getElem?_eq_some_iff.1 hy
   obtain ⟨h2,e2⟩:=List.getElem?_eq_some_iff.1 hx
   rw [e1,e2] at this
   exact this he
 · intro h
   refine List.pairwise_iff_getElem.2 fun i j hi hj hij=>?_
   rw [List.length_map] at hi hj
   rw [List.getElem_map,List.getElem_map]
   intro he
   have h1:=h j l[j] (List.getElem?_eq_getElem hj)
   obtain ⟨x,hx,hp,hmin⟩:=findI_pos h1
   have:=hmin i hij l[i] (List.getElem?_eq_getElem hi)
   simp [he] at this
theorem findI_lt {α:Type} {p:α→Bool} {l:List α}:findI p l < 0 ↔ ∀ x ∈ l,p x=false:=by
 constructor
 · intro h x hx
   obtain ⟨j,hj⟩:=List.getElem?_of_mem hx
   exact findI_neg h j x hj
 · intro h
   rw [findI_none fun j y hy=>h y (List.mem_of_getElem? hy)];omega
theorem allI_iff {α:Type} {p:Nat→α→Bool} {l:List α}:allI p l=true ↔ ∀ (j:Nat) y,l[j]? = some y→p j y=true:=⟨fun h j y hy=>allI_get h hy,allI_true⟩
def Gr.names (G:Gr):List ByteArray:=G.nons++G.terms.map Trm.name
def Gr.aheadP (G:Gr):Bool:=termsP G.terms && withinB G.nons.length 1 16 && withinB G.rules.length 1 40 && decide G.names.Nodup && withinB G.start 0 ((G.nons.length:Int) - 1)
def Gr.rightP (G:Gr):Bool:=G.aheadP && !(G.nons.any fun s=>!nameB (bytesOf s)) && decide (G.leftsGo G.rules (-1)=some ((G.nons.length:Int) - 1))
theorem names_nodup (G:Gr):G.names.Nodup ↔ (∀ (i:Nat) s,G.nons[i]? = some s→G.non s=(i:Int)∧G.term s < 0)∧∀ (i:Nat) t,G.terms[i]? = some t→G.term t.name=(i:Int):=by
 unfold Gr.names
 rw [List.nodup_append]
 have e1:=nodup_find id G.nons
 have e2:=nodup_find Trm.name G.terms
 rw [List.map_id] at e1
 rw [e1,e2]
 constructor
 · rintro ⟨h1,h2,h3⟩
   refine ⟨fun i s hs=>⟨h1 i s hs,findI_lt.2 fun t ht=>?_⟩,h2⟩
   rw [decide_eq_false_iff_not]
   intro he
   exact h3 s (List.mem_of_getElem? hs) t.name (List.mem_map_of_mem ht) he.symm
 · rintro ⟨h1,h2⟩
   refine ⟨fun i s hs=>(h1 i s hs).1,h2,fun s hs n hn he=>?_⟩
   obtain ⟨t,ht,rfl⟩:=List.mem_map.1 hn
   obtain ⟨i,hi⟩:=List.getElem?_of_mem hs
   have:=findI_lt.1 (h1 i s hi).2 t ht
   simp [he] at this
theorem right_same (G:Gr):G.rightP=G.right:=by
 rw [Bool.eq_iff_iff]
 unfold Gr.rightP Gr.right Gr.aheadP Gr.termsOK Gr.nonsOK termsP withinB
 simp only [Bool.and_eq_true,decide_eq_true_eq,List.all_eq_true,names_nodup,allI_iff,Gr.termOK,Gr.nonOK,Bool.not_eq_true',List.any_eq_false,Bool.not_eq_true,Bool.not_eq_false']
 constructor
 · rintro ⟨⟨⟨⟨⟨⟨⟨h1,h2,h3⟩,h4⟩,h5⟩,h6,h7⟩,h8⟩,h9⟩,h10⟩
   rw [levels_same _ h1,List.all_eq_true] at h3
   exact ⟨⟨⟨⟨⟨h2,fun j t ht=>⟨⟨h7 j t ht,h1 t (List.mem_of_getElem? ht)⟩,h3 t (List.mem_of_getElem? ht)⟩⟩,by omega,fun j s hs=>⟨⟨by simpa using h9 s (List.mem_of_getElem? hs),(h6 j s hs).1⟩,(h6 j s hs).2⟩⟩,by omega⟩,by omega⟩,h10⟩
 · rintro ⟨⟨⟨⟨⟨h1,h2⟩,h3,h4⟩,h5⟩,h6⟩,h7⟩
   have hb:∀ t ∈ G.terms,basicT t=true:=fun t ht=>by
    obtain ⟨j,hj⟩:=List.getElem?_of_mem ht
    exact (h2 j t hj).1.2
   refine ⟨⟨⟨⟨⟨⟨⟨hb,h1,?_⟩,by omega⟩,by omega⟩,fun i s hs=>⟨(h4 i s hs).1.2,(h4 i s hs).2⟩,fun i t ht=>(h2 i t ht).1.1⟩,by omega⟩,fun s hs=>?_⟩,h7⟩
   · rw [levels_same _ hb,List.all_eq_true]
     intro t ht
     obtain ⟨j,hj⟩:=List.getElem?_of_mem ht
     exact (h2 j t hj).2
   · obtain ⟨j,hj⟩:=List.getElem?_of_mem hs
     simpa using (h4 j s hj).1.1
theorem Tryz.infoStr:(Tryz.prog.info? 9).map (fun i=>(i.zero,i.size,i.bytes))=some (some (.string ByteArray.empty),1,16):=by kernel_rfl
theorem names_take (G:Gr) {k:Nat} {t:Trm} (ht:G.terms[k]? = some t):(G.nons++(G.terms.take (k+1)).map Trm.name).map Value.string=(G.nons++(G.terms.take k).map Trm.name).map Value.string++[.string t.name]:=by
 rw [List.take_add_one,ht];simp
theorem leftsP_bad (G:Gr) {k:Nat} {r:Rul} {T:Int} (hr:G.rules[k]? = some r) (h:G.leftsGo (G.rules.take k) (-1)=some T) (hb:(withinB r.left 0 (T+1) && G.ruleOK r)=false):G.rightP=false:=by
 have h1:G.leftsGo (G.rules.take (k+1)) (-1)=none:=by
  rw [List.take_add_one,hr,Option.toList_some,Gr.leftsGo_snoc,h]
  simp only [Option.bind_some]
  rw [if_neg]
  rintro ⟨a,b,c⟩
  rw [c] at hb
  unfold withinB at hb
  simp [a,b] at hb
 have h2:=Gr.leftsGo_none G (G.rules.take (k+1)) (G.rules.drop (k+1)) (-1) h1
 rw [List.take_append_drop] at h2
 unfold Gr.rightP
 rw [h2];simp
theorem leftsP_good (G:Gr) {k:Nat} {r:Rul} {T:Int} (hr:G.rules[k]? = some r) (h:G.leftsGo (G.rules.take k) (-1)=some T) (h0:withinB r.left 0 (T+1)=true) (h1:G.ruleOK r=true):G.leftsGo (G.rules.take (k+1)) (-1)=some (max T r.left):=by
 rw [List.take_add_one,hr,Option.toList_some,Gr.leftsGo_snoc,h]
 simp only [Option.bind_some]
 have:=withinB_true h0
 rw [if_pos ⟨this.1,this.2,h1⟩]
theorem cf_Right (h:GH) (G:Gr) (w:World) (hg:GrAt w h G) (hs:∀ t ∈ G.terms,t.name.size≤maxLen) (h1:h.n1≤100) (h2:h.n2≤100) :
 Calls Tryz.prog 56 #[GV h G.start] w fun e w'=>e = .returned (.bool G.right)∧Below w.heap.size w w':=by
 rw [← right_same]
 obtain ⟨a1,n1,c1,a2,n2,c2,a3,n3,c3⟩:=h
 have e1:G.terms.length=n1:=hg.terms.len
 have e2:G.nons.length=n2:=hg.nons.len
 have e3:G.rules.length=n3:=hg.rules.len
 have k1:=hg.terms.cap
 have k3:=hg.rules.cap
 simp only [] at h1 h2 k1 k3
 have Hg:=LH hg
 have Hs:=LH hs
 have Hfin:Hid (G.rightP=(G.aheadP && !(G.nons.any fun s=>!nameB (bytesOf s)) && decide (G.leftsGo G.rules (-1)=some ((n2:Int) - 1)))):=LH (by unfold Gr.rightP;rw [e2])
 have Hah:Hid (G.aheadP=(termsP G.terms && withinB n2 1 16 && withinB n3 1 40 && decide G.names.Nodup && withinB G.start 0 ((n2:Int) - 1))):=LH (by unfold Gr.aheadP;rw [e2,e3])
 clear hs
 have hB0:=alloc_below w (.cells #[.slice a1 n1 c1, .slice a2 n2 c2, .slice a3 n3 c3, .int .i64 G.start] 26)
 have hbox:=GBox.new w 26 ⟨a1,n1,c1,a2,n2,c2,a3,n3,c3⟩ G.start
 go_enter Tryz.func56,Tryz.ntmps56
 have ⟨z5,z0,z1,z2,z3⟩:=hbox
 simp only [] at z0 z1 z2 z3
 go_wp2_with fail
 generalize w.alloc (.cells #[.slice a1 n1 c1, .slice a2 n2 c2, .slice a3 n3 c3, .int .i64 G.start] 26)=W0 at *
 have hG0:=Hg.out.below hB0
 (with_reducible refine (clone_strs a2 n2 c2 G.nons W0 hG0.nons (by omega)).mono ?_)
 rintro e w2 ⟨A2,C2,rfl,hown,hbel⟩
 have hbx2:=hbox.below hbel
 have ⟨y5,y0,y1,y2,y3⟩:=hbx2
 simp only [] at y0 y1 y2 y3
 clear z0 z1 z2 z3
 go_wp2_with fail
 go_loopw [3,5,15] (fun v _ i wr=>∃ (k:Nat) (A:Option Addr) (c:Nat),k≤n1∧i = .int .i64 (k:Int)∧v = .slice A (n2+k) c∧wr.ownsRow W0.heap.size 9 1 (.slice A (n2+k) c) (n2+k) ((G.nons++(G.terms.take k).map Trm.name).map Value.string)∧Below W0.heap.size W0 wr) (fun _ _ i _=>n1 - (intOf i).toNat)
 case atStart=>exact ⟨0,A2,C2,Nat.zero_le _,rfl,rfl,by simpa using hown,hbel⟩
 case round =>
  clear hown hbel hbx2 y0 y1 y2 y3 y5
  obtain ⟨k,A,c,hk,rfl,rfl,hown,hbel⟩:=hrel
  by_cases hkk:k < n1
  · obtain ⟨b,off,t,rfl,hb,Ht,q0,q1,q2⟩:=hG0.terms.get hkk
    rw [← hbel.cell (by exact hb)] at q0 q1 q2
    have hbs:W0.heap.size≤wr.heap.size:=hbel.size
    have hB1:=hbel.alloc hbs (.cells #[.string t.name, .int .i64 t.level, .int .i64 t.assoc] 91)
    have hown1:=hown.alloc (.cells #[.string t.name, .int .i64 t.level, .int .i64 t.assoc] 91)
    have p0:=alloc_cell wr 91 #[.string t.name, .int .i64 t.level, .int .i64 t.assoc] 0
    have p5:=alloc_size wr (.cells #[.string t.name, .int .i64 t.level, .int .i64 t.assoc] 91)
    simp only [List.getElem?_toArray,List.getElem?_cons_zero,List.getElem?_cons_succ] at p0
    have hbs1:W0.heap.size≤(wr.alloc (.cells #[.string t.name, .int .i64 t.level, .int .i64 t.assoc] 91)).heap.size:=by omega
    go_wp2_with (at_builtin;refine wpl_append1 (w:=wr.alloc (.cells #[.string t.name, .int .i64 t.level, .int .i64 t.assoc] 91)) rfl _ _ 23 rfl W0.heap.size 9 (.string ByteArray.empty) 16 Tryz.underlying23 Tryz.infoStr rfl _ (n2+k) _ _ rfl hown1 (.string t.name) (by rw [p5];rfl) rfl (by omega) (by omega) (by omega) ?_;intro A4 c4 w4 ho hgr)
    go_roundw
    case rel=>exact ⟨k+1,A4,c4,by omega,by go_num,by rw [Nat.add_assoc],by rw [names_take G Ht.out];exact ho,below_append hB1 hgr hown1 hbs1⟩
    case measure=>simp [intOf];omega
  · obtain rfl:k=n1:=by omega
    rw [List.take_of_length_le (by omega)] at hown
    have hnm:Strs wr A (n2+k) c G.names:=own_sl hown
    have hBw:=hB0.trans (hbel.mono hB0.size)
    have hbx:=hbox.below hbel
    have ⟨x5,x0,x1,x2,x3⟩:=hbx
    simp only [] at x0 x1 x2 x3
    have hbx3:∀ w3,Below wr.heap.size wr w3→GBox w3 w.heap.size ⟨a1,k,c1,a2,n2,c2,a3,n3,c3⟩ G.start:=fun w3 hb=>hbx.below hb
    have CT:=LH ((cf_terms a1 k c1 G.terms wr (hG0.terms.below hbel) (by omega) Hs.out).mono fun e w' hh=>And.intro hh.1 (And.intro (bcell hh.2).1 (LH hh.2)))
    have cA:=fun w3 (hb:Below wr.heap.size wr w3)=>(cf_alone A (n2+k) c G.names w3 (hnm.below hb) (by omega)).mono fun e w' hh=>And.intro hh.1 (And.intro (bcell hh.2).1 (LH (below_tail hb hh.2)))
    have cW1:=fun w=>cf_within (n2:Int) 1 16 w
    have cW2:=fun w=>cf_within (n3:Int) 1 40 w
    have cW3:=fun w=>cf_within G.start 0 ((n2:Int) - 1) w
    have hx2:withinB (n2:Int) 1 16=true→1≤(n2:Int)∧(n2:Int)≤16:=withinB_true
    have hx3:withinB (n3:Int) 1 40=true→1≤(n3:Int)∧(n3:Int)≤40:=withinB_true
    have hs0:IntKind.i64.wrap ((n2:Int) - 1)=(n2:Int) - 1:=IntWalk.i64_in _ (by omega)
    have Hst:=LH hG0
    generalize termsP G.terms=b1 at *
    generalize withinB (n2:Int) 1 16=b2 at *
    generalize withinB (n3:Int) 1 40=b3 at *
    generalize decide G.names.Nodup=b4 at *
    generalize withinB G.start 0 ((n2:Int) - 1)=b5 at *
    have CA:=LH cA
    have CW1:=LH cW1
    have CW2:=LH cW2
    have CW3:=LH cW3
    have Hx2:=LH hx2
    have Hx3:=LH hx3
    have Hbx3:=LH hbx3
    have HBw:=LH hBw
    clear cA cW1 cW2 cW3 hx2 hx3 hbx3 hBw hown hg hnm hbx hkk hk
    have hways:((b1=false)∨(b1=true∧b2=false)∨(b1=true∧b2=true∧b3=false)∨(b1=true∧b2=true∧b3=true∧b4=false)∨(b1=true∧b2=true∧b3=true∧b4=true∧b5=false))∨(b1=true∧b2=true∧b3=true∧b4=true∧b5=true):=by cases b1 <;> cases b2 <;> cases b3 <;> cases b4 <;> cases b5 <;> simp
    rcases hways with hbad | ⟨rfl,rfl,rfl,rfl,rfl⟩
    · have Hf0:Hid (G.rightP=false):=LH (by
       rw [Hfin.out,Hah.out]
       rcases hbad with rfl | ⟨rfl,rfl⟩ | ⟨rfl,rfl,rfl⟩ | ⟨rfl,rfl,rfl,rfl⟩ | ⟨rfl,rfl,rfl,rfl,rfl⟩ <;> simp)
      rcases hbad with rfl | ⟨rfl,rfl⟩ | ⟨rfl,rfl,rfl⟩ | ⟨rfl,rfl,rfl,rfl⟩ | ⟨rfl,rfl,rfl,rfl,rfl⟩
      all_goals
       go_wp2_with (first
        | (go_at_call 98;(with_reducible refine CT.out.mono ?_);rintro e w3 ⟨rfl,hc3,Hb3⟩;have p1:=(hc3 _ 1 x5).trans x1;have p2:=(hc3 _ 2 x5).trans x2;have p3:=(hc3 _ 3 x5).trans x3)
        | (go_at_call 99;(with_reducible refine (CW1.out _).mono ?_);rintro e w4 ⟨rfl,rfl⟩)
        | (go_at_call 99;(with_reducible refine (CW2.out _).mono ?_);rintro e w5 ⟨rfl,rfl⟩)
        | (go_at_call 99;(with_reducible refine (CW3.out _).mono ?_);rintro e w6 ⟨rfl,rfl⟩)
        | (go_at_call 100;(with_reducible refine (CA.out _ Hb3.out).mono ?_);rintro e w7 ⟨rfl,hc7,Hb7⟩;have r1:=(hc7 _ 1 (Nat.lt_of_lt_of_le x5 Hb3.out.size)).trans p1;have r3:=(hc7 _ 3 (Nat.lt_of_lt_of_le x5 Hb3.out.size)).trans p3))
       go_ret
       first
        | exact ⟨by rw [Hf0.out];rfl,below_tail HBw.out Hb7.out⟩
        | exact ⟨by rw [Hf0.out];rfl,below_tail HBw.out Hb3.out⟩
    · have Hf1:Hid (G.rightP=(!(G.nons.any fun s=>!nameB (bytesOf s)) && decide (G.leftsGo G.rules (-1)=some ((n2:Int) - 1)))):=LH (by rw [Hfin.out,Hah.out];simp)
      have hn2:=Hx2.out rfl
      have hn3:=Hx3.out rfl
      have hC:=fun w3 (hb:Below wr.heap.size wr w3)=>(sl_contains_strs a2 n2 c2 G.nons 102 #[] (fun s=>!nameB (bytesOf s)) w3 enters_right1 ((Hst.out.nons.below hbel).below hb) (fun s _ w' _=>(cf_right1 s w').mono fun e w' hh=>⟨hh.1,by rw [← hh.2];exact Below.refl _ _⟩)).mono fun e w' hh=>And.intro hh.1 (And.intro (bcell hh.2).1 (LH (below_tail hb hh.2)))
      generalize (G.nons.any fun s=>!nameB (bytesOf s))=b6 at *
      have HC:=LH hC
      clear hC
      rcases (by cases b6 <;> simp:b6=true∨b6=false) with rfl | rfl
      · go_wp2_with (first
         | (go_at_call 98;(with_reducible refine CT.out.mono ?_);rintro e w3 ⟨rfl,hc3,Hb3⟩;have p1:=(hc3 _ 1 x5).trans x1;have p2:=(hc3 _ 2 x5).trans x2;have p3:=(hc3 _ 3 x5).trans x3)
         | (go_at_call 99;(with_reducible refine (CW1.out _).mono ?_);rintro e w4 ⟨rfl,rfl⟩)
         | (go_at_call 99;(with_reducible refine (CW2.out _).mono ?_);rintro e w5 ⟨rfl,rfl⟩)
         | (go_at_call 99;(with_reducible refine (CW3.out _).mono ?_);rintro e w6 ⟨rfl,rfl⟩)
         | (go_at_call 100;(with_reducible refine (CA.out _ Hb3.out).mono ?_);rintro e w7 ⟨rfl,hc7,Hb7⟩;have r1:=(hc7 _ 1 (Nat.lt_of_lt_of_le x5 Hb3.out.size)).trans p1;have r3:=(hc7 _ 3 (Nat.lt_of_lt_of_le x5 Hb3.out.size)).trans p3)
         | (go_at_call 101;(with_reducible refine (HC.out _ Hb7.out).mono ?_);rintro e w8 ⟨rfl,hc8,Hb8⟩))
        go_ret
        exact ⟨by rw [Hf1.out];rfl,below_tail HBw.out Hb8.out⟩
      · have Hf2:Hid (G.rightP=decide (G.leftsGo G.rules (-1)=some ((n2:Int) - 1))):=LH (by rw [Hf1.out];simp)
        go_wp2_with (first
         | (go_at_call 98;(with_reducible refine CT.out.mono ?_);rintro e w3 ⟨rfl,hc3,Hb3⟩;have p1:=(hc3 _ 1 x5).trans x1;have p2:=(hc3 _ 2 x5).trans x2;have p3:=(hc3 _ 3 x5).trans x3)
         | (go_at_call 99;(with_reducible refine (CW1.out _).mono ?_);rintro e w4 ⟨rfl,rfl⟩)
         | (go_at_call 99;(with_reducible refine (CW2.out _).mono ?_);rintro e w5 ⟨rfl,rfl⟩)
         | (go_at_call 99;(with_reducible refine (CW3.out _).mono ?_);rintro e w6 ⟨rfl,rfl⟩)
         | (go_at_call 100;(with_reducible refine (CA.out _ Hb3.out).mono ?_);rintro e w7 ⟨rfl,hc7,Hb7⟩;have r1:=(hc7 _ 1 (Nat.lt_of_lt_of_le x5 Hb3.out.size)).trans p1;have r3:=(hc7 _ 3 (Nat.lt_of_lt_of_le x5 Hb3.out.size)).trans p3)
         | (go_at_call 101;(with_reducible refine (HC.out _ Hb7.out).mono ?_);rintro e w8 ⟨rfl,hc8,Hb8⟩;have ⟨v5,v0,v1,v2,v3⟩:=Hbx3.out w8 Hb8.out;simp only [] at v0 v1 v2 v3))
        have hbx8:=Hbx3.out w8 Hb8.out
        have hB8:=below_tail HBw.out Hb8.out
        clear v5 v0 v1 v2 v3 p1 p2 p3 r1 r3 hc3 hc7 hc8 x5 x0 x1 x2 x3
        go_loopw [6,8,64] (fun nx _ i wz=>∃ (k3:Nat) (T:Int),k3≤n3∧i = .int .i64 (k3:Int)∧nx = .int .i64 (T+1)∧-1≤T∧T≤1000∧Hid (G.leftsGo (G.rules.take k3) (-1)=some T)∧Below w.heap.size w wz∧GBox wz w.heap.size ⟨a1,k,c1,a2,n2,c2,a3,n3,c3⟩ G.start) (fun _ _ i _=>n3 - (intOf i).toNat)
        case atStart=>exact ⟨0,-1,Nat.zero_le _,rfl,rfl,by omega,by omega,LH rfl,hB8,hbx8⟩
        case round =>
         clear hbx8 hB8
         obtain ⟨k3,T,hk3,rfl,rfl,hT1,hT2,HT,hB,hbx⟩:=hrel
         have ⟨z5',z0,z1,z2,z3⟩:=hbx
         simp only [] at z0 z1 z2 z3
         by_cases hkk:k3 < n3
         · obtain ⟨b,off,r,Ar,cr,rfl,hb,Hr,q0,q1,q2,hrr⟩:=Hg.out.rules.get hkk
           rw [← hB.cell (by exact hb)] at q0 q1 q2
           have hrw:=Hg.out.wf r (List.mem_of_getElem? Hr.out)
           have hB1:=hB.alloc hB.size (.cells #[.int .i64 r.left, .slice Ar r.right.length cr, .int .i64 r.prec] 52)
           have hx1:=hbx.below (alloc_below wr (.cells #[.int .i64 r.left, .slice Ar r.right.length cr, .int .i64 r.prec] 52))
           have hy1:=RBox.new wr 52 r.left Ar r.right.length cr r.prec
           have p5:=alloc_size wr (.cells #[.int .i64 r.left, .slice Ar r.right.length cr, .int .i64 r.prec] 52)
           go_wp2_with fail
           generalize wr.alloc (.cells #[.int .i64 r.left, .slice Ar r.right.length cr, .int .i64 r.prec] 52)=W1 at *
           have ⟨s5,s0,s1,s2,s3⟩:=hx1
           have ⟨u5,u0,u1,u2⟩:=hy1
           simp only [] at s0 s1 s2 s3 u0 u1 u2
           clear q0 q1 q2 z0 z1 z2 z3 hbx
           generalize wr.heap.size=gr at *
           have cR:=cf_rule ⟨a1,k,c1,a2,n2,c2,some ⟨b,off,none⟩,n3,c3⟩ G r Ar cr W1 (Hg.out.below hB1) (hrr.below hB1) hrw (by simp only [];omega) (by simp only [];omega)
           have cW:=fun w=>cf_within r.left 0 (T+1) w
           have hbad:=@leftsP_bad G k3 r T Hr.out HT.out
           have hgood:=@leftsP_good G k3 r T Hr.out HT.out
           have hwt:withinB r.left 0 (T+1)=true→0≤r.left∧r.left≤T+1:=withinB_true
           generalize withinB r.left 0 (T+1)=b7 at *
           generalize G.ruleOK r=b8 at *
           have CR:=LH (cR.mono fun e w' hh=>And.intro hh.1 (And.intro (bcell hh.2).1 (LH hh.2)))
           have CW:=LH cW
           have Hbad:=LH hbad
           have Hgood:=LH hgood
           have Hwt:=LH hwt
           have HB1:=LH hB1
           have Hx1:=LH hx1
           clear cR cW hbad hgood hwt hrw hrr hB1 hx1 hy1
           rcases (by cases b7 <;> cases b8 <;> simp:(b7=false)∨(b7=true∧b8=false)∨(b7=true∧b8=true)) with rfl | ⟨rfl,rfl⟩ | ⟨rfl,rfl⟩
           · go_wp2_with (go_at_call 99;(with_reducible refine (CW.out _).mono ?_);rintro e w9 ⟨rfl,rfl⟩)
             go_ret
             exact ⟨by rw [Hbad.out rfl];rfl,HB1.out⟩
           · go_wp2_with (first
              | (go_at_call 99;(with_reducible refine (CW.out _).mono ?_);rintro e w9 ⟨rfl,rfl⟩)
              | (go_at_call 104;(with_reducible refine CR.out.mono ?_);rintro e w10 ⟨rfl,hc10,Hb10⟩))
             go_ret
             exact ⟨by rw [Hbad.out rfl];rfl,below_tail HB1.out Hb10.out⟩
           · have hwl:=Hwt.out rfl
             have hT':=Hgood.out rfl rfl
             have hbd:=G.leftsGo_bd _ _ _ (by omega) hT'
             have hlt:(G.rules.take (k3+1)).length≤40:=by rw [List.length_take];omega
             have HT':=LH hT'
             clear hT'
             have hmx:max (T+1) (r.left+1)=max T r.left+1:=by omega
             go_wp2_with (first
              | (go_at_call 99;(with_reducible refine (CW.out _).mono ?_);rintro e w9 ⟨rfl,rfl⟩)
              | (go_at_call 104;(with_reducible refine CR.out.mono ?_);rintro e w10 ⟨rfl,hc10,Hb10⟩;have v0:=(hc10 _ 0 u5).trans u0))
             go_roundw
             case rel=>exact ⟨k3+1,max T r.left,by omega,by go_num,rfl,by omega,by omega,HT',below_tail HB1.out Hb10.out,Hx1.out.below Hb10.out⟩
             case measure=>simp [intOf];omega
         · obtain rfl:k3=n3:=by omega
           have HT2:=HT.out
           rw [List.take_of_length_le (by omega)] at HT2
           have Hf3:Hid (G.rightP=(T+1 == (n2:Int))):=LH (by
            rw [Hf2.out,HT2,Bool.eq_iff_iff,decide_eq_true_iff,beq_iff_eq]
            constructor
            · intro h;injection h with h;omega
            · intro h;congr 1;omega)
           clear HT2
           go_wp2_with fail
           go_ret
           exact ⟨by rw [Hf3.out];rfl,hB⟩
def Blk (w:World) (g:Nat) (t:TypeId) (cs:Array Value):Prop:=w.heap[g]? = some (.cells cs t (0,0))
theorem Blk.lt {w:World} {g:Nat} {t:TypeId} {cs:Array Value} (h:Blk w g t cs):g < w.heap.size:=by
 rcases Nat.lt_or_ge g w.heap.size with hlt | hge
 · exact hlt
 · unfold Blk at h;rw [Array.getElem?_eq_none hge] at h;cases h
theorem Blk.cell {w:World} {g:Nat} {t:TypeId} {cs:Array Value} (h:Blk w g t cs) (i:Nat):w.cell? ⟨g,i,none⟩=cs[i]? := by
 unfold Blk at h
 simp [World.cell?,h]
theorem Blk.frozen {w:World} {g:Nat} {t:TypeId} {cs:Array Value} (h:Blk w g t cs) (i:Nat):w.frozen? ⟨g,i,none⟩=false:=by
 unfold Blk at h
 simp [World.frozen?,h]
theorem Blk.set {w:World} {g:Nat} {t:TypeId} {cs:Array Value} (h:Blk w g t cs) (i:Nat) (v:Value):Blk (w.setCell ⟨g,i,none⟩ v) g t (cs.setIfInBounds i v):=by
 unfold Blk at h ⊢
 simp [World.setCell,Array.getElem?_modify,h]
theorem Blk.below {w w':World} {g B:Nat} {t:TypeId} {cs:Array Value} (h:Blk w g t cs) (hb:Below B w w') (hg:g < B):Blk w' g t cs:=(hb.block g hg).trans h
theorem Blk.ext {w w':World} {g:Nat} {t:TypeId} {cs:Array Value} (h:Blk w g t cs) (hb:Below w.heap.size w w'):Blk w' g t cs:=h.below hb h.lt
theorem Blk.new (w:World) (t:TypeId) (cs:Array Value):Blk (w.alloc (.cells cs t)) w.heap.size t cs:=heap_alloc_new w _
theorem Blk.grown {w w':World} {g:Nat} {t:TypeId} {cs:Array Value} {row:Option Nat} (h:Blk w g t cs) (hg:w.grownBy w' row) (hr:some g ≠ row):Blk w' g t cs:=(hg.block g h.lt hr).trans h
theorem Blk.other {w:World} {g:Nat} {t:TypeId} {cs:Array Value} (h:Blk w g t cs) (g' i:Nat) (v:Value) (hne:g ≠ g'):Blk (w.setCell ⟨g',i,none⟩ v) g t cs:=(Below.heap_setCell w ⟨g',i,none⟩ v g hne).trans h
theorem grown_refl (w:World) (r:Option Nat):w.grownBy w r:=⟨rfl,rfl,rfl,Nat.le_refl _,fun _ _ _=>rfl⟩
theorem grown_trans {a b c:World} {r:Option Nat} (h:a.grownBy b r) (k:b.grownBy c r):a.grownBy c r :=
 ⟨k.os.trans h.os,k.tape.trans h.tape,k.output.trans h.output,Nat.le_trans h.size k.size,fun i hi hne=>(k.block i (Nat.lt_of_lt_of_le hi h.size) hne).trans (h.block i hi hne)⟩
theorem grown_set (w:World) (g i:Nat) (v:Value):w.grownBy (w.setCell ⟨g,i,none⟩ v) (some g) :=
 ⟨rfl,rfl,rfl,by simp,fun k _ hne=>Below.heap_setCell w ⟨g,i,none⟩ v k fun h=>hne (by rw [h])⟩
theorem grown_below {w w':World} (r:Option Nat) (h:Below w.heap.size w w'):w.grownBy w' r:=⟨h.os,h.tape,h.output,h.size,fun k hk _=>h.block k hk⟩
theorem grown_is_below {w w':World} {B:Nat} {g:Nat} (h:w.grownBy w' (some g)) (hB:B≤w.heap.size) (hg:B≤g):Below B w w' :=
 ⟨h.os,h.tape,h.output,h.size,fun k hk=>h.block k (by omega) (by intro h';injection h' with h';omega)⟩
theorem grown_frozen {w w':World} {g:Nat} (h:w.grownBy w' (some g)) {b o:Nat} (hb:b < w.heap.size) (hne:b ≠ g):w'.cell? ⟨b,o,none⟩=w.cell? ⟨b,o,none⟩ :=
 World.cell?_of_block (a:=⟨b,o,none⟩) (h.block b hb (by intro h';injection h' with h';exact hne h'))
theorem Blk.drew {w:World} {g:Nat} {t:TypeId} {cs:Array Value} (h:Blk w g t cs):Blk w.drew g t cs:=h
theorem below_alloc {w w':World} (h:Below w.heap.size w w') (o:Obj):Below w.heap.size w (w'.alloc o):=h.alloc h.size o
theorem below_set {w w':World} (h:Below w.heap.size w w') (g i:Nat) (v:Value) (hg:w.heap.size≤g):Below w.heap.size w (w'.setCell ⟨g,i,none⟩ v):=h.trans (grown_is_below (grown_set _ _ _ _) h.size hg)
def bools (N:List Bool):List Value:=N.map Value.bool
def BoolT (w:World) (g:Nat) (N:List Bool):Prop:=Blk w g 4 (bools N).toArray
def SetT (w:World) (g:Nat) (F:List Nat):Prop:=Blk w g 49 (nums .u32 F).toArray
theorem BoolT.at {w:World} {g:Nat} {N:List Bool} (h:BoolT w g N) {i:Nat} (hi:i < N.length):w.cell? ⟨g,i,none⟩=some (.bool (N.getD i false)):=by
 rw [Blk.cell h];simp [bools,hi]
theorem SetT.at {w:World} {g:Nat} {F:List Nat} (h:SetT w g F) {i:Nat} (hi:i < F.length):w.cell? ⟨g,i,none⟩=some (.int .u32 ((F.getD i 0:Nat):Int)):=by
 rw [Blk.cell h];simp [nums,hi]
theorem BoolT.put {w:World} {g:Nat} {N:List Bool} (h:BoolT w g N) (i:Nat) (b:Bool):BoolT (w.setCell ⟨g,i,none⟩ (.bool b)) g (N.set i b):=by
 have:=Blk.set h i (.bool b)
 unfold BoolT
 rwa [show (bools (N.set i b)).toArray=(bools N).toArray.setIfInBounds i (.bool b) by simp [bools,List.map_set]]
theorem SetT.put {w:World} {g:Nat} {F:List Nat} (h:SetT w g F) (i v:Nat):SetT (w.setCell ⟨g,i,none⟩ (.int .u32 (v:Int))) g (F.set i v):=by
 have:=Blk.set h i (.int .u32 (v:Int))
 unfold SetT
 rwa [show (nums .u32 (F.set i v)).toArray=(nums .u32 F).toArray.setIfInBounds i (.int .u32 (v:Int)) by simp [nums,List.map_set]]
theorem BoolT.new (w:World) (N:List Bool):BoolT (w.alloc (.cells (bools N).toArray 4)) w.heap.size N:=Blk.new w _ _
theorem SetT.new (w:World) (F:List Nat):SetT (w.alloc (.cells (nums .u32 F).toArray 49)) w.heap.size F:=Blk.new w _ _
theorem Tryz.infoBool:(Tryz.prog.info? 4).map (fun i=>(i.zero,i.size,i.bytes))=some (some (.bool false),1,1):=by kernel_rfl
theorem made_bools (n:Nat):madeCells #[Value.bool false] n=(bools (List.replicate n false)).toArray:=by
 apply Array.ext
 · simp [madeCells,bools]
 · intro j h1 h2
   simp [madeCells,bools,Nat.mod_one]
theorem make_bools (n:Nat) (hn:n≤1000) (w:World) :
 (Instr.makeSlice 97 (.int .i64 (n:Int)) (.int .i64 (n:Int))).run Tryz.prog w = .ok (.slice (some ⟨w.heap.size,0,none⟩) n n) (w.alloc (.cells (bools (List.replicate n false)).toArray 4)):=by
 obtain ⟨i,hi',hz,hs,hby⟩:=info_parts Tryz.infoBool
 have hb':(i.bytes:Int) * (n:Int)≤281474976710656:=by rw [hby];omega
 have hr:=run_make (P:=Tryz.prog) w 97 4 i (.bool false) Tryz.underlying97 hi' hz .i64 .i64 n n (by omega) (by omega) hb' (by omega)
 simp only [Int.toNat_natCast] at hr
 rw [hr,hs,Nat.mul_one]
 simp only [Value.cells,made_bools]
theorem make_sets (n:Nat) (hn:n≤1000) (w:World) :
 (Instr.makeSlice 30 (.int .i64 (n:Int)) (.int .i64 (n:Int))).run Tryz.prog w = .ok (.slice (some ⟨w.heap.size,0,none⟩) n n) (w.alloc (.cells (nums .u32 (List.replicate n 0)).toArray 49)) :=
 run_make_nums (P:=Tryz.prog) 30 49 .u32 4 Tryz.underlying30 Tryz.infoU32 n (by omega) (by omega) w
theorem non_place {s:Int} {n:Nat} (h0:s < 0) (h1:-(n:Int)≤s) (hn:n≤1000):∃ j:Nat,j < n∧nonI s=j∧IntKind.i64.wrap (-1 - s)=(j:Int) :=
 ⟨nonI s,by unfold nonI;omega,rfl,by rw [IntWalk.i64_in _ (by omega)];unfold nonI;omega⟩
theorem rf_all (Ar:Option Addr) (nr cr g n:Nat) (ss:List Int) (N:List Bool) (b:Bool) (w:World) (hr:Ints .i64 w Ar nr cr ss) (hN:BoolT w g N) (hn:N.length=n) (hn2:n≤1000) (hs:∀ s ∈ ss,-(n:Int)≤s∧s≤1000) :
 Calls Tryz.prog 111 #[.slice Ar nr cr, .slice (some ⟨g,0,none⟩) n n, .bool b] w fun e w'=>e = .returned (.bool (allP b N ss))∧w=w':=by
 obtain rfl:=hr.len
 have hcap:=hr.cap
 have Hs:=LH hs
 have HN:=LH hN
 have Hf:Hid (allP b N ss=ss.all fun s=>if 0≤s then b else N.getD (nonI s) false):=LH rfl
 clear hs hN
 go_enter Tryz.func111,Tryz.ntmps111
 go_wp2_with fail
 go_loop [7] (fun i=>∃ (k:Nat),k≤ss.length∧i = .int .i64 (k:Int)∧Hid (∀ j,j < k→∀ y,ss[j]? = some y→(!(if 0≤y then b else N.getD (nonI y) false))=false)) (fun i=>ss.length - (intOf i).toNat)
 case atStart=>exact ⟨0,Nat.zero_le _,rfl,LH fun j hj=>by omega⟩
 case round =>
  obtain ⟨k,hk,rfl,Hk⟩:=hrel
  by_cases hkk:k < ss.length
  · obtain ⟨bb,off,s,rfl,hb,Hsv,q0⟩:=hr.get hkk
    obtain ⟨s1,s2⟩:=Hs.out s (List.mem_of_getElem? Hsv.out)
    by_cases h0:0≤s
    · have hbad:b=false→allP b N ss=false:=fun hb=>by rw [Hf.out];exact all_false Hsv.out (by rw [if_pos h0];exact hb)
      have hgood:b=true→(!(if 0≤s then b else N.getD (nonI s) false))=false:=fun hb=>by rw [if_pos h0,hb];rfl
      have Hbad:=LH hbad
      have Hgood:=LH hgood
      clear hbad hgood
      rcases (by cases b <;> simp:b=false∨b=true) with rfl | rfl
      · go_wp2_with fail
        go_ret
        exact ⟨by rw [Hbad.out (by trivial)];rfl,rfl⟩
      · go_wp2_with fail
        go_roundw
        case rel=>exact ⟨k+1,by omega,by go_num,LH (next_none Hk.out Hsv.out (Hgood.out (by trivial)))⟩
        case measure=>simp [intOf];omega
    · obtain ⟨j,hj,hnj,hw⟩:=non_place (s:=s) (n:=n) (by omega) s1 hn2
      have c0:=HN.out.at (i:=j) (by omega)
      have hbad:N.getD j false=false→allP b N ss=false:=fun hb=>by rw [Hf.out];exact all_false Hsv.out (by rw [if_neg h0,hnj];exact hb)
      have hgood:N.getD j false=true→(!(if 0≤s then b else N.getD (nonI s) false))=false:=fun hb=>by rw [if_neg h0,hnj,hb];rfl
      generalize N.getD j false=x at *
      have Hbad:=LH hbad
      have Hgood:=LH hgood
      clear hbad hgood
      rcases (by cases x <;> simp:x=false∨x=true) with rfl | rfl
      · go_wp2_with fail
        go_ret
        exact ⟨by rw [Hbad.out (by trivial)];rfl,rfl⟩
      · go_wp2_with fail
        go_roundw
        case rel=>exact ⟨k+1,by omega,by go_num,LH (next_none Hk.out Hsv.out (Hgood.out (by trivial)))⟩
        case measure=>simp [intOf];omega
  · obtain rfl:k=ss.length:=by omega
    have hall:allP b N ss=true:=by
     rw [Hf.out]
     exact all_true fun j y hy=>by
      have:=Hk.out j (List.getElem?_eq_some_iff.1 hy).1 y hy
      simpa using this
    have Hall:=LH hall
    clear hall
    go_wp2_with fail
    go_ret
    exact ⟨by rw [Hall.out];rfl,rfl⟩
end Go.Proofs.YtggbjdmpjidhgaaGreatDoor
