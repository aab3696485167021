/- how many forests any symbols have: the program's Of, walked. -/
import Derived.Test.YtggbjdmpjidhgaaGreatDoorQCtW10
import Derived.Test.YtggbjdmpjidhgaaGreatDoorQCtS2
import Derived.Test.YtggbjdmpjidhgaaGreatDoorQCyW13
import Derived.Test.YtggbjdmpjidhgaaGreatDoorQCtK2
import Derived.Test.YtggbjdmpjidhgaaGreatDoorQPs15
import Derived.Lib.SlBytesConst
import Derived.Test.YtggbjdmpjidhgaaGreatDoorQCtP4
import Derived.Test.YtggbjdmpjidhgaaGreatDoorQCtR3
set_option linter.unusedVariables false
set_option linter.unusedSimpArgs false
set_option maxHeartbeats 8000000
set_option maxRecDepth 100000
namespace Go.Proofs.YtggbjdmpjidhgaaGreatDoor
open Go.RowKit
theorem enters_cof1:∀ args w,(callFunc 45 args).run Tryz.prog w = .ok (.enter 45 args) w:=fun args w=>by kernel_rfl
theorem tr_cof1 (h:GH) (G:Gr) (gb:Nat) (s:Int) (w:World) (hg:GrAt w h G) (hs:InI64 s) (h1:h.n1≤1000) (h2:h.n2≤1000) (hx:GBox w gb h G.start) :
 Calls Tryz.prog 45 #[.int .i64 s, .pointer (some ⟨gb,0,none⟩)] w fun e w'=>e = .returned (.bool (!G.has s))∧Below w.heap.size w w':=by
 have cH:=cf_has h G s w hg hs h1 h2
 generalize G.has s=b at *
 obtain ⟨a1,n1,c1,a2,n2,c2,a3,n3,c3⟩:=h
 have ⟨z5,z0,z1,z2,z3⟩:=hx
 simp only [] at z0 z1 z2 z3
 have CH:=LH cH
 clear cH
 go_enter Tryz.func45,Tryz.ntmps45
 go_wp2_with fail
 (with_reducible refine CH.out.mono ?_)
 rintro e w2 ⟨rfl,hb⟩
 go_wp2_with fail
 go_ret
 exact ⟨rfl,hb⟩
theorem tr_cOf (h:GH) (G:Gr) (Al:Option Addr) (cl:Nat) (l:List Int) (n:Int) (w:World) (hg:GrAt w h G) (hs:∀ t ∈ G.terms,t.name.size≤maxLen) (hTab:TabAt w) (h1:h.n1≤100) (h2:h.n2≤100) (h3:h.n3≤100)
 (hl:Ints .i64 w Al l.length cl l) (hi:∀ s ∈ l,InI64 s) :
 Calls Tryz.prog 15 #[GV h G.start, .slice Al l.length cl, .int .i64 n] w (RetNat w (ofN22 G l n)):=by
 obtain ⟨a1,n1,c1,a2,n2,c2,a3,n3,c3⟩:=h
 have e1:G.terms.length=n1:=hg.terms.len
 have e2:G.nons.length=n2:=hg.nons.len
 simp only [] at h1 h2 h3
 have hcap:=hl.cap
 have Hg:=LH hg
 have Hl:=LH hl
 have Hi:=LH hi
 have Hs:=LH hs
 have HTab:=LH hTab
 have hB0:=alloc_below w (.cells #[.slice a1 n1 c1, .slice a2 n2 c2, .slice a3 n3 c3, .int .i64 G.start] 26)
 have hbox:=GBox.new w 26 ⟨a1,n1,c1,a2,n2,c2,a3,n3,c3⟩ G.start
 clear hg hl hi hs hTab
 go_enter Tryz.func15,Tryz.ntmps15
 have ⟨z5,z0,z1,z2,z3⟩:=hbox
 simp only [] at z0 z1 z2 z3
 go_upto_region 1 with fail
 generalize w.alloc (.cells #[.slice a1 n1 c1, .slice a2 n2 c2, .slice a3 n3 c3, .int .i64 G.start] 26)=W0 at *
 have CI:=LH (tr_Is ⟨a1,n1,c1,a2,n2,c2,a3,n3,c3⟩ G W0 (Hg.out.below hB0) Hs.out h1 h2 h3)
 have HB0:=LH hB0
 have Hbox:=LH hbox
 have hbad:(isRed G=false∨6 < l.length∨n < 0∨10 < n∨(∃ s ∈ l,G.has s=false))→ofN22 G l n=([],1):=fun hh=>by unfold ofN22;rw [if_pos hh]
 have Hret:Hid (∀ w',Below w.heap.size w w'→ofN22 G l n=([],1)→RetNat w (ofN22 G l n) (.returned (.tuple #[.slice none 0 0, .int .i64 1])) w'):=LH fun w' hb he=>by rw [he];exact ⟨none,0,rfl,Nums.nil _ _ _ _ (by omega),hb⟩
 clear hB0 hbox
 cases hr:isRed G
 case false =>
  have Hb:=LH (hbad (.inl hr))
  rw [hr] at CI
  clear hbad
  go_wp2_with (go_at_call 42;(with_reducible refine CI.out.mono ?_);rintro e w6 ⟨rfl,hb6⟩)
  go_ret2
  exact Hret.out _ (below_tail HB0.out hb6) Hb.out
 rw [hr] at CI
 by_cases hl6:6 < l.length
 case pos =>
  have Hb:=LH (hbad (.inr (.inl hl6)))
  have i1:(6:Int) < (l.length:Int):=by omega
  clear hbad
  go_wp2_with (go_at_call 42;(with_reducible refine CI.out.mono ?_);rintro e w6 ⟨rfl,hb6⟩)
  go_ret2
  exact Hret.out _ (below_tail HB0.out hb6) Hb.out
 have i1:¬ ((6:Int) < (l.length:Int)):=by omega
 by_cases hn:0≤n∧n≤10
 case neg =>
  have Hb:=LH (hbad (by rcases (by omega:n < 0∨10 < n) with h | h;exact .inr (.inr (.inl h));exact .inr (.inr (.inr (.inl h)))))
  have hdn:(decide (0≤n) && decide (n≤10))=false:=by rw [Bool.and_eq_false_iff,decide_eq_false_iff_not,decide_eq_false_iff_not];omega
  have CW:=fun X=>tr_cwithin n X
  rw [hdn] at CW
  have CWi:=LH CW
  clear hbad hdn CW hn
  go_wp2_with (first
   | (go_at_call 42;(with_reducible refine CI.out.mono ?_);rintro e w6 ⟨rfl,hb6⟩)
   | (go_at_call 43;(with_reducible refine (CWi.out _).mono ?_);rintro e w7 ⟨rfl,rfl⟩))
  go_ret2
  exact Hret.out _ (below_tail HB0.out hb6) Hb.out
 obtain ⟨m,rfl⟩:∃ m:Nat,n=(m:Int):=⟨n.toNat,by omega⟩
 have hm:m≤10:=by omega
 have hdn:(decide (0≤(m:Int)) && decide ((m:Int)≤10))=true:=by rw [Bool.and_eq_true,decide_eq_true_iff,decide_eq_true_iff];exact hn
 have CW:=fun X=>tr_cwithin (m:Int) X
 rw [hdn] at CW
 have CWi:=LH CW
 have Hr:=LH hr
 clear hdn CW hn hr
 have hq:(l.any fun s=>!G.has s)=!l.all G.has:=by rw [List.all_eq_not_any_not];simp
 have CC:Hid (∀ W,Below w.heap.size w W→GBox W w.heap.size ⟨a1,n1,c1,a2,n2,c2,a3,n3,c3⟩ G.start→Calls Tryz.prog 44 #[.slice Al l.length cl, .func (.func 45) #[] #[.pointer (some ⟨w.heap.size,0,none⟩)]] W fun e w'=>e = .returned (.bool (!l.all G.has))∧Below W.heap.size W w'):=LH fun W hB hX=>by
  have hT:Tells 45 #[.pointer (some ⟨w.heap.size,0,none⟩)] (Value.int .i64) W l (fun s=>!G.has s):=fun s hs' w' hb' =>
   tr_cof1 ⟨a1,n1,c1,a2,n2,c2,a3,n3,c3⟩ G w.heap.size s w' ((Hg.out.below hB).below hb') (Hi.out s hs') (by simp only [];omega) (by simp only [];omega) (hX.below hb')
  have hc:=sl_contains_ints Al l.length cl l 45 _ (fun s=>!G.has s) W enters_cof1 (Hl.out.below hB) hT
  rwa [hq] at hc
 cases hall:l.all G.has
 case false =>
  have Hb:=LH (hbad (.inr (.inr (.inr (.inr (by
   rw [List.all_eq_false] at hall
   obtain ⟨s,hs,hh⟩:=hall
   exact ⟨s,hs,by simpa using hh⟩))))))
  rw [hall] at CC
  clear hbad hall hq
  go_wp2_with (first
   | (go_at_call 42;(with_reducible refine CI.out.mono ?_);rintro e w6 ⟨rfl,hb6⟩)
   | (go_at_call 43;(with_reducible refine (CWi.out _).mono ?_);rintro e w7 ⟨rfl,rfl⟩)
   | (go_at_call 44;(with_reducible refine (CC.out _ (below_tail HB0.out hb6) (Hbox.out.below hb6)).mono ?_);rintro e w8 ⟨rfl,hb8⟩))
  go_ret2
  exact Hret.out _ (below_tail (below_tail HB0.out hb6) hb8) Hb.out
 case true =>
  have hof:ofN22 G l (m:Int)=if cycG G ≠ 0 then ([],10) else fitN (forestT (treeN G) l m):=by
   unfold ofN22
   rw [if_neg]
   · rfl
   · rintro (h | h | h | h | ⟨s,hs,h⟩)
     · rw [Hr.out] at h;cases h
     · omega
     · omega
     · omega
     · rw [List.all_eq_true] at hall
       rw [hall s hs] at h;cases h
  have Hall:=LH (List.all_eq_true.1 hall)
  have Hof0:=LH hof
  rw [hall] at CC
  clear hbad hall hq hof
  have CY:Hid (∀ W,Below w.heap.size w W→Calls Tryz.prog 47 #[GV ⟨a1,n1,c1,a2,n2,c2,a3,n3,c3⟩ G.start] W fun e w'=>Below W.heap.size W w'∧e = .returned (.int .u32 ((cycG G:Nat):Int))):=LH fun W hB =>
   tr_Cycles stepsSaid ⟨a1,n1,c1,a2,n2,c2,a3,n3,c3⟩ G W (Hg.out.below hB) Hs.out (HTab.out.below hB) (by simp only [];omega) (by simp only [];omega) (by simp only [];omega)
  go_wp2_with (first
   | (go_at_call 42;(with_reducible refine CI.out.mono ?_);rintro e w6 ⟨rfl,hb6⟩)
   | (go_at_call 43;(with_reducible refine (CWi.out _).mono ?_);rintro e w7 ⟨rfl,rfl⟩)
   | (go_at_call 44
      (with_reducible refine (CC.out _ (below_tail HB0.out hb6) (Hbox.out.below hb6)).mono ?_)
      rintro e w8 ⟨rfl,hb8⟩
      obtain ⟨y5,y0,y1,y2,y3⟩:=Hbox.out.below (below_tail hb6 hb8)
      simp only [] at y0 y1 y2 y3))
  have HB8:=LH (below_tail (below_tail HB0.out hb6) hb8)
  have Hbx8:=LH (Hbox.out.below (below_tail hb6 hb8))
  clear hb6 hb8 CI CC CWi z0 z1 z2 z3 z5
  (with_reducible refine (CY.out _ HB8.out).mono ?_)
  rintro e w9 ⟨hb9,rfl⟩
  have HB9:=LH (below_tail HB8.out hb9)
  have Hbx9:=LH (Hbx8.out.below hb9)
  have hlt:=cycG_lt G
  have hof:=Hof0.out
  clear y0 y1 y2 y3 y5 hb9 Hof0 CY HB8 Hbx8
  by_cases hc:cycG G=0
  case neg =>
   have Hof:=LH hof
   have i4:(((cycG G:Nat):Int) != 0)=true:=by rw [bne_iff_ne];omega
   have Hc:=LH hc
   clear hof hc
   go_wp2_with fail
   go_ret2
   rw [Hof.out,if_pos Hc.out]
   exact ⟨none,0,rfl,Nums.nil _ _ _ _ (by omega),HB9.out⟩
  have i4:(((cycG G:Nat):Int) != 0)=false:=by rw [hc];rfl
  rw [if_neg (by rw [hc];simp)] at hof
  obtain ⟨hok,hid'⟩:=isRed_iff.1 Hr.out
  have hrp:G.right=true∧(prodN G).getD G.start.toNat false=true:=by unfold redOK at hok;rw [Bool.and_eq_true] at hok;exact hok
  obtain ⟨hP,hend,hO⟩:=reduced_plain hrp.1 hrp.2 hid' hc
  have Hof:=LH hof
  have HP:=LH hP
  have hgW:=Hg.out.below HB9.out
  have CS:=LH (tr_start ⟨a1,n1,c1,a2,n2,c2,a3,n3,c3⟩ G w9 hgW Hs.out (by simp only [];omega) (by simp only [];omega) (by simp only [];omega) hrp.1)
  have hbd:∀ s ∈ l,-(n2:Int)≤s∧s≤1000:=fun s hs=>by
   have:=has_bd (Hall.out s hs)
   rw [e1,e2] at this
   omega
  have CF:Hid (∀ k:CH,ForC w9 k ⟨a1,n1,c1,a2,n2,c2,a3,n3,c3⟩ G Al l.length cl l m):=LH fun k=>tr_forest (k:=k) hP hgW (by simp only [];omega) (by simp only [];omega) l Al cl m (Hl.out.below HB9.out) hbd (by omega) (by omega)
  have ⟨y5,y0,y1,y2,y3⟩:=Hbx9.out
  simp only [] at y0 y1 y2 y3
  clear hof hok hid' hrp hP hend hO hc hgW hbd
  generalize cycG G=cy at *
  go_wp2_with fail
  (with_reducible refine CS.out.mono ?_)
  rintro e w10 ⟨hb10,k,rfl,hC10⟩
  have CF2:=LH (CF.out k _ _ hC10 (fun b hb=>hb.elim))
  have HB10:=LH (below_tail HB9.out hb10)
  have hlow:=hC10.low
  clear y0 y1 y2 y3 y5 CS CF hC10
  have Hlow:=LH hlow
  have Hb10:=LH hb10
  clear hlow hb10
  go_wp2_with fail
  (with_reducible refine CF2.out.mono ?_)
  rintro e w11 ⟨hC11,hO11,A5,k5,c5,b5,rfl,hv⟩
  have HB11:=LH (HB10.out.trans ((hO11.is_below (B:=w.heap.size) HB10.out.size fun q hq=>by
   have h9:=HB9.out.size
   have hl:=Hlow.out
   rcases hq with rfl | rfl
   · exact Nat.le_trans h9 hl.1
   · exact Nat.le_trans h9 hl.2)))
  clear hC11 hO11 CF2
  go_wp2_with fail
  (with_reducible refine (tr_told A5 k5 c5 b5 _ w11 hv).mono ?_)
  rintro e w12 ⟨A6,c6,rfl,hn6,hb6⟩
  have HN6:=LH hn6
  have HB6:=LH (below_tail HB11.out hb6)
  clear hv hn6 hb6
  generalize fitN (forestT (treeN G) l m)=res at *
  go_wp2_with fail
  go_ret2
  rw [Hof.out]
  exact ⟨A6,c6,rfl,HN6.out,HB6.out⟩
open Classical in
noncomputable def cntN22 (G:Gr) (n:Int):List Nat × Nat :=
 if G.right=false∨n < 0∨10 < n then ([],1) else if redOK G=false then ([],0) else ofN22 (redG G) [-1 - (redG G).start] n
theorem start_bd {G:Gr} (hr:G.right=true):0≤G.start∧G.start < (G.nons.length:Int)∧G.nons.length≤16:=by
 have hG:=Gr.fits hr
 obtain ⟨_,_,_,hst,_⟩:=right_parts.1 hr
 have:=hG.n2
 omega
theorem redG_terms (G:Gr):(redG G).terms=G.terms:=rfl
theorem tr_cCount (h:GH) (G:Gr) (n:Int) (w:World) (hg:GrAt w h G) (hs:∀ t ∈ G.terms,t.name.size≤maxLen) (hTab:TabAt w) (h1:h.n1≤100) (h2:h.n2≤100) (h3:h.n3≤100) :
 Calls Tryz.prog 19 #[GV h G.start, .int .i64 n] w (RetNat w (cntN22 G n)):=by
 obtain ⟨a1,n1,c1,a2,n2,c2,a3,n3,c3⟩:=h
 simp only [] at h1 h2 h3
 have Hg:=LH hg
 have Hs:=LH hs
 have HTab:=LH hTab
 have hB0:=alloc_below w (.cells #[.slice a1 n1 c1, .slice a2 n2 c2, .slice a3 n3 c3, .int .i64 G.start] 26)
 have hbox:=GBox.new w 26 ⟨a1,n1,c1,a2,n2,c2,a3,n3,c3⟩ G.start
 clear hg hs hTab
 go_enter Tryz.func19,Tryz.ntmps19
 have ⟨z5,z0,z1,z2,z3⟩:=hbox
 simp only [] at z0 z1 z2 z3
 go_upto_region 1 with fail
 generalize w.alloc (.cells #[.slice a1 n1 c1, .slice a2 n2 c2, .slice a3 n3 c3, .int .i64 G.start] 26)=W0 at *
 have CI:=LH (cf_Right ⟨a1,n1,c1,a2,n2,c2,a3,n3,c3⟩ G W0 (Hg.out.below hB0) Hs.out (by simp only [];omega) (by simp only [];omega))
 have HB0:=LH hB0
 have Hbox:=LH hbox
 have hbad:(G.right=false∨n < 0∨10 < n)→cntN22 G n=([],1):=fun hh=>by unfold cntN22;rw [if_pos hh]
 have Hret:Hid (∀ w' er,Below w.heap.size w w'→cntN22 G n=([],er)→RetNat w (cntN22 G n) (.returned (.tuple #[.slice none 0 0, .int .i64 (er:Int)])) w'):=LH fun w' er hb he=>by rw [he];exact ⟨none,0,rfl,Nums.nil _ _ _ _ (by omega),hb⟩
 clear hB0 hbox
 cases hr:G.right
 case false =>
  have Hb:=LH (hbad (.inl hr))
  rw [hr] at CI
  clear hbad
  go_wp2_with (go_at_call 56;(with_reducible refine CI.out.mono ?_);rintro e w6 ⟨rfl,hb6⟩)
  go_ret2
  exact Hret.out _ 1 (below_tail HB0.out hb6) Hb.out
 rw [hr] at CI
 by_cases hn:0≤n∧n≤10
 case neg =>
  have Hb:=LH (hbad (by rcases (by omega:n < 0∨10 < n) with h | h;exact .inr (.inl h);exact .inr (.inr h)))
  have hdn:(decide (0≤n) && decide (n≤10))=false:=by rw [Bool.and_eq_false_iff,decide_eq_false_iff_not,decide_eq_false_iff_not];omega
  have CW:=fun X=>tr_cwithin n X
  rw [hdn] at CW
  have CWi:=LH CW
  clear hbad hdn CW hn
  go_wp2_with (first
   | (go_at_call 56;(with_reducible refine CI.out.mono ?_);rintro e w6 ⟨rfl,hb6⟩)
   | (go_at_call 43;(with_reducible refine (CWi.out _).mono ?_);rintro e w7 ⟨rfl,rfl⟩))
  go_ret2
  exact Hret.out _ 1 (below_tail HB0.out hb6) Hb.out
 have hn0:¬ n < 0:=by omega
 have hn10:¬ 10 < n:=by omega
 have hdn:(decide (0≤n) && decide (n≤10))=true:=by rw [Bool.and_eq_true,decide_eq_true_iff,decide_eq_true_iff];exact hn
 have CW:=fun X=>tr_cwithin n X
 rw [hdn] at CW
 have CWi:=LH CW
 clear hdn CW hn
 have Hr:=LH hr
 have hgo:cntN22 G n=if redOK G=false then ([],0) else ofN22 (redG G) [-1 - (redG G).start] n:=by
  unfold cntN22
  rw [if_neg]
  rintro (h | h | h)
  · rw [hr] at h;cases h
  · exact hn0 h
  · exact hn10 h
 have Hgo:=LH hgo
 clear hbad hgo hr
 go_wp2_with (first
  | (go_at_call 56
     (with_reducible refine CI.out.mono ?_)
     rintro e W1 ⟨rfl,hb1⟩
     obtain ⟨y5,y0,y1,y2,y3⟩:=Hbox.out.below hb1
     simp only [] at y0 y1 y2 y3)
  | (go_at_call 43;(with_reducible refine (CWi.out _).mono ?_);rintro e w7 ⟨rfl,rfl⟩))
 have hB1:=below_tail HB0.out hb1
 clear CI z0 z1 z2 z3 z5 hb1
 have cR:=tr_Reduce ⟨a1,n1,c1,a2,n2,c2,a3,n3,c3⟩ G W1 (Hg.out.below hB1) Hs.out h1 h2 h3
 unfold RetRed at cR
 (with_reducible refine cR.mono ?_)
 rintro e W3 ⟨hb3,⟨hno,er,her,rfl⟩ | ⟨hok,h',Ak,nk,ck,rfl,hg',m1,m2,m3⟩⟩
 · have hB3:=below_tail hB1 hb3
   have hne:(er != 0)=true:=by rw [bne_iff_ne];exact her
   have Hf:Hid (cntN22 G n=([],0)):=LH (by rw [Hgo.out,if_pos hno])
   clear cR hno y0 y1 y2 y3 y5
   go_wp2_with fail
   go_ret2
   exact Hret.out _ 0 (hB3.trans ((alloc_below W3 _).mono hB3.size)) Hf.out
 have hB3:=below_tail hB1 hb3
 have hrk:G.right=true∧(prodN G).getD G.start.toNat false=true:=by unfold redOK at hok;rw [Bool.and_eq_true] at hok;exact hok
 have hHr:=red_right hrk.1 hrk.2
 have Hf:Hid (cntN22 G n=ofN22 (redG G) [-1 - (redG G).start] n):=LH (by rw [Hgo.out,if_neg (by rw [hok];simp)])
 obtain ⟨b1,k1,d1,b2,k2,d2,b3,k3,d3⟩:=h'
 have HsH:Hid (∀ t ∈ (redG G).terms,t.name.size≤maxLen):=LH (by rw [redG_terms];exact Hs.out)
 generalize redG G=H at *
 obtain ⟨st0,st1,st2⟩:=start_bd hHr
 clear cR y0 y1 y2 y3 y5 hok hrk hHr Hgo
 simp only [] at m1 m2 m3
 have hal:=alloc_below W3 (.cells #[.slice b1 k1 d1, .slice b2 k2 d2, .slice b3 k3 d3, .int .i64 H.start] 26)
 have hbxH:=GBox.new W3 26 ⟨b1,k1,d1,b2,k2,d2,b3,k3,d3⟩ H.start
 have hB4:=below_tail hB3 hal
 have hg4:=hg'.below hal
 go_upto_region 4 with fail
 generalize W3.alloc (.cells #[.slice b1 k1 d1, .slice b2 k2 d2, .slice b3 k3 d3, .int .i64 H.start] 26)=W4 at *
 generalize W3.heap.size=gH at *
 have Hg4:=LH hg4
 have HB4:=LH hB4
 have ⟨x5,x0,x1,x2,x3⟩:=hbxH
 simp only [] at x0 x1 x2 x3
 have hwr:IntKind.i64.wrap (-1 - H.start)=-1 - H.start:=IntWalk.i64_in _ (by omega)
 have hlB:=alloc_below W4 (.cells #[.int .i64 (-1 - H.start)] 3)
 have hL:Ints .i64 (W4.alloc (.cells #[.int .i64 (-1 - H.start)] 3)) (some ⟨W4.heap.size,0,none⟩) 1 1 [-1 - H.start]:=lit_sl W4 3 (ints .i64 [-1 - H.start]) 1 _ rfl rfl (by decide)
 have CO:=LH (tr_cOf ⟨b1,k1,d1,b2,k2,d2,b3,k3,d3⟩ H (some ⟨W4.heap.size,0,none⟩) 1 [-1 - H.start] n (W4.alloc (.cells #[.int .i64 (-1 - H.start)] 3)) (Hg4.out.below hlB) HsH.out (HTab.out.below (below_tail HB4.out hlB)) (by simp only [];omega) (by simp only [];omega) (by simp only [];omega) hL (fun s hs=>by rw [List.mem_singleton.1 hs];unfold InI64;omega))
 have HB5:=LH (below_tail HB4.out hlB)
 simp only [List.length_cons,List.length_nil,Nat.zero_add] at CO
 clear hL hlB hg4 hB4 hal hg' hB3 hb3 hbxH
 go_wp2_with fail
 (with_reducible refine CO.out.mono ?_)
 rintro e W6 ⟨A6,c6,rfl,hn6,hb6⟩
 have HN6:=LH hn6
 have HB6:=LH (below_tail HB5.out hb6)
 clear hn6 hb6 CO
 generalize ofN22 H [-1 - H.start] n=res at *
 go_wp2_with fail
 go_ret2
 rw [Hf.out]
 exact ⟨A6,c6,rfl,HN6.out,HB6.out⟩
structure NatsO (w:World) (B:Nat) (A:Option Addr) (n c:Nat) (vs:List Value) (xss:List (List Nat)):Prop where
 own:w.ownsRow B 31 1 (.slice A n c) n vs
 noInt:∀ g,(Value.slice A n c).ownBlock=some g→NoInt w g
 len:xss.length=n
 row:∀ (j:Nat) xs,xss[j]? = some xs→∃ Aj cj,vs[j]? = some (.slice Aj xs.length cj)∧Nums .u32 w Aj xs.length cj xs
theorem NatsO.start (w:World) (B:Nat):NatsO w B none 0 0 [] []:=⟨World.ownsRow_nil _ _ _ _,fun g h=>(by cases h),rfl,fun j xs h=>by simp at h⟩
theorem NatsO.below {w w':World} {B:Nat} {A:Option Addr} {n c:Nat} {vs:List Value} {xss:List (List Nat)} (h:NatsO w B A n c vs xss) (hb:Below w.heap.size w w'):NatsO w' B A n c vs xss :=
 ⟨own_below h.own hb,fun g hg=>(h.noInt g hg).same (hb.block g (h.own.lt g hg).2),h.len,fun j xs hj=>by
   obtain ⟨Aj,cj,h1,h2⟩:=h.row j xs hj
   exact ⟨Aj,cj,h1,h2.below hb⟩⟩
theorem NatsO.vals {w:World} {B:Nat} {A:Option Addr} {n c:Nat} {vs:List Value} {xss:List (List Nat)} (h:NatsO w B A n c vs xss):∀ u ∈ vs,∀ k x,u ≠ Value.int k x:=by
 intro u hu k x he
 subst he
 obtain ⟨j,hj⟩:=List.getElem?_of_mem hu
 have hl:vs.length=n:=by have:=h.own.1;simpa using this
 have hjn:j < n:=by rw [← hl];exact (List.getElem?_eq_some_iff.1 hj).1
 obtain ⟨Aj,cj,h1,_⟩:=h.row j _ (List.getElem?_eq_getElem (by rw [h.len];exact hjn))
 rw [hj] at h1
 cases h1
theorem NatsO.snoc {w w':World} {B:Nat} {A A':Option Addr} {n c c':Nat} {vs:List Value} {xss:List (List Nat)} (h:NatsO w B A n c vs xss) {Ax:Option Addr} {cx:Nat} {xs:List Nat} (hx:Nums .u32 w Ax xs.length cx xs)
 (ho:w'.ownsRow B 31 1 (.slice A' (n+1) c') (n+1) (vs++[Value.slice Ax xs.length cx])) (hg:w.grownBy w' (Value.slice A n c).ownBlock) (hno:∀ b,(Value.slice A' (n+1) c').ownBlock=some b→NoInt w' b) :
 NatsO w' B A' (n+1) c' (vs++[Value.slice Ax xs.length cx]) (xss++[xs]):=by
 have hk:IntKeep w w':=IntKeep.of_off (Off.of_grown hg) fun q hq=>h.noInt q hq
 have hl:vs.length=n:=by have:=h.own.1;simpa using this
 refine ⟨ho,hno,by rw [List.length_append,h.len];rfl,fun j ys hj=>?_⟩
 rcases snoc_cases hj with ⟨hlt,hj⟩ | ⟨rfl,rfl⟩
 · obtain ⟨Aj,cj,h1,h2⟩:=h.row j ys hj
   exact ⟨Aj,cj,by rw [List.getElem?_append_left (by rw [hl,← h.len];exact hlt)];exact h1,h2.kept hk⟩
 · exact ⟨Ax,cx,by rw [List.getElem?_append_right (by rw [hl,h.len];exact Nat.le_refl _),hl,h.len,Nat.sub_self];rfl,hx.kept hk⟩
def NatsR (w:World) (A:Option Addr) (n c:Nat) (xss:List (List Nat)):Prop :=
 xss.length=n∧n≤c∧c≤9223372036854775807∧(0 < n→∃ b off,A=some ⟨b,off,none⟩∧b < w.heap.size∧∀ (j:Nat) xs,xss[j]? = some xs→∃ Aj cj,w.cell? ⟨b,off+j,none⟩=some (.slice Aj xs.length cj)∧Nums .u32 w Aj xs.length cj xs)
theorem NatsR.nil (w:World):NatsR w none 0 0 []:=⟨rfl,Nat.le_refl _,by omega,fun h=>by omega⟩
theorem NatsR.below {w w':World} {A:Option Addr} {n c:Nat} {xss:List (List Nat)} (h:NatsR w A n c xss) (hb:Below w.heap.size w w'):NatsR w' A n c xss:=by
 refine ⟨h.1,h.2.1,h.2.2.1,fun hn=>?_⟩
 obtain ⟨b,off,e,hlt,hr⟩:=h.2.2.2 hn
 refine ⟨b,off,e,Nat.lt_of_lt_of_le hlt hb.size,fun j xs hj=>?_⟩
 obtain ⟨Aj,cj,h1,h2⟩:=hr j xs hj
 exact ⟨Aj,cj,(hb.cell (p:=⟨b,off+j,none⟩) hlt).trans h1,h2.below hb⟩
theorem NatsO.read {w:World} {B:Nat} {A:Option Addr} {n c:Nat} {vs:List Value} {xss:List (List Nat)} (h:NatsO w B A n c vs xss):NatsR w A n c xss:=by
 have hs:=own_sl h.own
 have hl:vs.length=n:=by have:=h.own.1;simpa using this
 refine ⟨h.len,hs.2.1,hs.2.2.1,fun hn=>?_⟩
 obtain ⟨b,off,e,hb,hc⟩:=hs.2.2.2 (by rw [hl];exact hn)
 refine ⟨b,off,e,hb,fun j xs hj=>?_⟩
 obtain ⟨Aj,cj,h1,h2⟩:=h.row j xs hj
 have hjn:j < n:=by rw [← h.len];exact (List.getElem?_eq_some_iff.1 hj).1
 exact ⟨Aj,cj,by rw [hc j (by rw [hl];exact hjn)];exact h1,h2⟩
def upGo (f:Nat→List Nat × Nat):Nat→Nat→List (List Nat) × Nat
 | 0,m=>((List.range m).map fun j=>(f j).1,0)
 | k+1,m=>if (f m).2=0 then upGo f k (m+1) else ([],(f m).2)
noncomputable def uptoV (G:Gr) (n:Int):List (List Nat) × Nat:=if n < 0 then ([],1) else upGo (fun j:Nat=>cntN22 G (j:Int)) (n.toNat+1) 0
def RetNats (w:World) (p:List (List Nat) × Nat) (e:Ending) (w':World):Prop :=
 Below w.heap.size w w'∧∃ A c,e = .returned (.tuple #[.slice A p.1.length c, .int .i64 (p.2:Int)])∧NatsR w' A p.1.length c p.1
theorem Tryz.infoNatS:(Tryz.prog.info? 31).map (fun i=>(i.zero,i.size,i.bytes))=some (some (.slice none 0 0),1,24):=by kernel_rfl
theorem tr_cUpto (h:GH) (G:Gr) (n:Int) (w:World) (hg:GrAt w h G) (hs:∀ t ∈ G.terms,t.name.size≤maxLen) (hTab:TabAt w) (h1:h.n1≤100) (h2:h.n2≤100) (h3:h.n3≤100) (hn:n≤100) :
 Calls Tryz.prog 21 #[GV h G.start, .int .i64 n] w (RetNats w (uptoV G n)):=by
 obtain ⟨a1,n1,c1,a2,n2,c2,a3,n3,c3⟩:=h
 simp only [] at h1 h2 h3
 have Hg:=LH hg
 have Hs:=LH hs
 have HTab:=LH hTab
 have hB0:=alloc_below w (.cells #[.slice a1 n1 c1, .slice a2 n2 c2, .slice a3 n3 c3, .int .i64 G.start] 26)
 have hbox:=GBox.new w 26 ⟨a1,n1,c1,a2,n2,c2,a3,n3,c3⟩ G.start
 clear hg hs hTab
 go_enter Tryz.func21,Tryz.ntmps21
 go_upto_region 1 with fail
 generalize w.alloc (.cells #[.slice a1 n1 c1, .slice a2 n2 c2, .slice a3 n3 c3, .int .i64 G.start] 26)=W0 at *
 have HB0:=LH hB0
 have Hbox:=LH hbox
 clear hB0 hbox
 by_cases hn0:n < 0
 case pos =>
  have Hv:Hid (uptoV G n=([],1)):=LH (by unfold uptoV;rw [if_pos hn0])
  go_wp2_with fail
  go_ret2
  rw [Hv.out]
  exact ⟨HB0.out,none,0,rfl,NatsR.nil _⟩
 obtain ⟨k,rfl⟩:∃ k:Nat,n=(k:Int):=⟨n.toNat,by omega⟩
 have Hv:Hid (uptoV G (k:Int)=upGo (fun j:Nat=>cntN22 G (j:Int)) (k+1 - 0) 0):=LH (by unfold uptoV;rw [if_neg hn0];rfl)
 generalize uptoV G (k:Int)=res at *
 clear hn0
 have HiN:=LH Tryz.infoNatS
 go_wp2_with fail
 go_loopw [4,6] (fun lv i wr=>∃ (m:Nat) (A:Option Addr) (c:Nat) (vs:List Value),m≤k+1∧i = .int .i64 (m:Int)∧lv = .slice A m c∧Hid (NatsO wr W0.heap.size A m c vs ((List.range m).map fun j:Nat=>(cntN22 G (j:Int)).1))∧Hid (res=upGo (fun j:Nat=>cntN22 G (j:Int)) (k+1 - m) m)∧Hid (Below W0.heap.size W0 wr)) (fun _ i _=>k+2 - (intOf i).toNat)
 case atStart=>exact ⟨0,none,0,[],Nat.zero_le _,rfl,rfl,LH (NatsO.start _ _),Hv,LH (Below.refl _ _)⟩
 case round =>
  obtain ⟨m,A,c,vs,hm,rfl,rfl,HN,Hres,HB⟩:=hrel
  have ⟨y5,y0,y1,y2,y3⟩:=Hbox.out.below HB.out
  simp only [] at y0 y1 y2 y3
  by_cases hmk:m≤k
  case neg =>
   obtain rfl:m=k+1:=by omega
   have hno:¬ (((k+1:Nat):Int)≤(k:Int)):=by omega
   have Hf:Hid (res=((List.range (k+1)).map fun j:Nat=>(cntN22 G (j:Int)).1,0)):=LH (by rw [Hres.out,Nat.sub_self];rfl)
   have hrd:=HN.out.read
   have HBw:=LH (below_tail HB0.out HB.out)
   have Hrd:=LH hrd
   have Hll:Hid (((List.range (k+1)).map fun j:Nat=>(cntN22 G (j:Int)).1).length=k+1):=LH (by simp)
   clear hrd y0 y1 y2 y3 y5
   go_wp2_with fail
   go_ret2
   rw [Hf.out]
   exact ⟨HBw.out,A,c,by rw [Hll.out];rfl,by rw [Hll.out];exact Hrd.out⟩
  case pos =>
   have hle:((m:Nat):Int)≤(k:Int):=by omega
   have HBw:=LH (below_tail HB0.out HB.out)
   have CC:=LH (tr_cCount ⟨a1,n1,c1,a2,n2,c2,a3,n3,c3⟩ G (m:Int) wr (Hg.out.below HBw.out) Hs.out (HTab.out.below HBw.out) (by simp only [];omega) (by simp only [];omega) (by simp only [];omega))
   have hstep:upGo (fun j:Nat=>cntN22 G (j:Int)) (k+1 - m) m=if (cntN22 G (m:Int)).2=0 then upGo (fun j:Nat=>cntN22 G (j:Int)) (k+1 - (m+1)) (m+1) else ([],(cntN22 G (m:Int)).2):=by
    rw [show k+1 - m=(k+1 - (m+1))+1 by omega]
    rfl
   rw [hstep] at Hres
   have hmap:((List.range (m+1)).map fun j:Nat=>(cntN22 G (j:Int)).1)=((List.range m).map fun j:Nat=>(cntN22 G (j:Int)).1)++[(cntN22 G (m:Int)).1]:=by rw [List.range_succ,List.map_append];rfl
   have Hmap:=LH hmap
   clear hstep hmap
   generalize cntN22 G (m:Int)=pr at *
   obtain ⟨zs,er⟩:=pr
   simp only [] at Hres Hmap
   by_cases her:er=0
   case neg =>
    have hne:(((er:Nat):Int) != 0)=true:=by rw [bne_iff_ne];omega
    have Hf:Hid (res=([],er)):=LH (by rw [Hres.out,if_neg her])
    clear her Hmap Hres
    go_wp2_with (go_at_call 19;(with_reducible refine CC.out.mono ?_);rintro e w3 ⟨A3,c3,rfl,hn3,hb3⟩)
    go_ret2
    rw [Hf.out]
    exact ⟨below_tail HBw.out hb3,none,0,rfl,NatsR.nil _⟩
   case pos =>
    subst her
    have hne:(((0:Nat):Int) != 0)=false:=rfl
    rw [if_pos rfl] at Hres
    go_upto_region 9 with (go_at_call 19;(with_reducible refine CC.out.mono ?_);rintro e w3 ⟨A3,c3,rfl,hn3,hb3⟩)
    have hlB:=alloc_below w3 (.cells #[.slice A3 zs.length c3] 31)
    have hlc:(w3.alloc (.cells #[.slice A3 zs.length c3] 31)).cell? ⟨w3.heap.size,0,none⟩=some (.slice A3 zs.length c3):=(Blk.new _ 31 #[.slice A3 zs.length c3]).cell 0
    have HN2:=LH ((HN.out.below hb3).below hlB)
    have Hn3:=LH (hn3.below hlB)
    have HB3:=LH ((HB.out.trans (hb3.mono HB.out.size)).trans (hlB.mono (Nat.le_trans HB.out.size hb3.size)))
    have hbl:W0.heap.size≤(w3.alloc (.cells #[.slice A3 zs.length c3] 31)).heap.size:=HB3.out.size
    have Hlc:=LH hlc
    have Hvals:=LH HN2.out.vals
    clear hlc hlB hn3 hb3 y0 y1 y2 y3 y5 CC
    go_wp2_with (at_builtin;refine wpl_appendV rfl _ _ 39 rfl W0.heap.size 31 _ 24 Tryz.underlying39 HiN.out (by decide) (by intro u hu k x he;subst he;simp [Value.cells] at hu) A m c vs rfl HN2.out.own HN2.out.noInt Hvals.out _ 1 (.slice A3 zs.length c3) rfl Hlc.out rfl (by intro k x he;cases he) (by omega) (by omega) hbl ?_;intro A5 c5 w5 ho hg ha hno)
    have HN5:=LH (HN2.out.snoc Hn3.out ho hg hno)
    have HB5:=LH (HB3.out.trans ((Off.of_grown hg).is_below hbl fun k hk=>(HN2.out.own.lt k hk).1))
    go_roundw
    case rel=>exact ⟨m+1,A5,c5,_,by omega,by go_num,rfl,by rw [Hmap.out];exact HN5,Hres,HB5⟩
    case measure=>simp [intOf] <;> omega
def readC (xs:List Nat):Option Gr :=
 match toksP xs (xs.length+1) 0 with
 | none=>none
 | some ts=>if cuts ts < 2∧ts.length≤4000 then (match srcP (ts.length+1) (ts.map tkOf) with
   | none=>none
   | some ps=>if ps.length≤4000∧(ps.all fun q=>decide (q.right.length≤4000))=true then buildP ps else none) else none
theorem rf_ReadC (A:Option Addr) (n c:Nat) (xs:List Nat) (G:Gr) (w:World) (hG:readC xs=some G) (h:Nums .u8 w A n c xs) (hb:∀ x ∈ xs,x < 256) (hn:n≤4000) :
 Calls Tryz.prog 41 #[.slice A n c] w fun e w'=>∃ h,e = .returned (.tuple #[GV h G.start, .complex .f64 0 0, .int .i64 0])∧GrAt w' h G∧h.n1≤24∧h.n2≤16∧h.n3≤40∧G.start=0∧Below w.heap.size w w':=by
 unfold readC at hG
 split at hG
 · cases hG
 · rename_i ts hts
   split at hG
   · rename_i h1
     split at hG
     · cases hG
     · rename_i ps hps
       split at hG
       · rename_i h2
         refine rf_Read A n c xs G w h hb hn ts hts h1.1 h1.2 ps hps h2.1 (fun q hq=>?_) hG
         have:=List.all_eq_true.1 h2.2 q hq
         simpa using this
       · cases hG
   · cases hG
theorem markd_sl (w:World) (t:TypeId) (fr:Nat × Nat) (vs:List Value) (n:Nat) (arr:Array Value) (h:arr=vs.toArray) (hn:vs.length=n) (hs:n≤1000000):Sl (w.alloc (.cells arr t fr)) (some ⟨w.heap.size,0,none⟩) n n vs:=by
 subst h
 refine ⟨hn,Nat.le_refl _,by omega,fun _=>⟨_,_,rfl,?_,fun j hj=>?_⟩⟩
 · show w.heap.size < (w.heap.push _).size
   simp
 · rw [Nat.zero_add,World.cell?_alloc_mark]
   simp
def g0:Gr:=⟨[],[],[],0⟩
def text22A:List Nat:=[37,37,32,115,32,58,32,115,32,115,32,124,32,39,97,39,32,59]
def text22B:List Nat:=[37,37,32,115,32,58,32,115,32,115,32,124,32,39,97,39,32,124,32,59]
def text22C:List Nat:=[37,37,32,115,32,58,32,115,32,39,97,39,32,59]
def text22D:List Nat:=[37,37,32,115,32,58,32,97,32,97,32,97,32,97,32,97,32,97,32,59,32,97,32,58,32,98,32,98,32,98,32,98,32,98,32,98,32,59,32,98,32,58,32,99,32,99,32,99,32,99,32,99,32,99,32,59,32,99,32,58,32,100,32,100,32,100,32,100,32,100,32,100,32,59,32,100,32,58,32,124,32,37,112,114,101,99,32,39,120,39,32,59]
def g22A:Gr:=⟨[⟨⟨#[39,97,39]⟩,0,0⟩],[⟨#[115]⟩],[⟨0,[-1,-1],-1⟩,⟨0,[0],0⟩],0⟩
def g22B:Gr:=⟨[⟨⟨#[39,97,39]⟩,0,0⟩],[⟨#[115]⟩],[⟨0,[-1,-1],-1⟩,⟨0,[0],0⟩,⟨0,[],-1⟩],0⟩
def g22C:Gr:=⟨[⟨⟨#[39,97,39]⟩,0,0⟩],[⟨#[115]⟩],[⟨0,[-1,0],0⟩],0⟩
def g22D:Gr:=⟨[⟨⟨#[39,120,39]⟩,0,0⟩],[⟨#[115]⟩,⟨#[97]⟩,⟨#[98]⟩,⟨#[99]⟩,⟨#[100]⟩],[⟨0,[-2,-2,-2,-2,-2,-2],-1⟩,⟨1,[-3,-3,-3,-3,-3,-3],-1⟩,⟨2,[-4,-4,-4,-4,-4,-4],-1⟩,⟨3,[-5,-5,-5,-5,-5,-5],-1⟩,⟨4,[],-1⟩,⟨4,[],0⟩],0⟩
theorem read22A:readC text22A=some g22A:=by kernel_rfl
theorem names22A:∀ t ∈ g22A.terms,t.name.size≤maxLen:=by
 intro t ht
 have:t.name.size≤3:=by
  simp only [g22A,List.mem_cons,List.not_mem_nil,or_false] at ht
  subst ht;decide
 simp only [maxLen]
 omega
theorem read22B:readC text22B=some g22B:=by kernel_rfl
theorem names22B:∀ t ∈ g22B.terms,t.name.size≤maxLen:=by
 intro t ht
 have:t.name.size≤3:=by
  simp only [g22B,List.mem_cons,List.not_mem_nil,or_false] at ht
  subst ht;decide
 simp only [maxLen]
 omega
theorem read22C:readC text22C=some g22C:=by kernel_rfl
theorem names22C:∀ t ∈ g22C.terms,t.name.size≤maxLen:=by
 intro t ht
 have:t.name.size≤3:=by
  simp only [g22C,List.mem_cons,List.not_mem_nil,or_false] at ht
  subst ht;decide
 simp only [maxLen]
 omega
theorem read22D:readC text22D=some g22D:=by kernel_rfl
theorem names22D:∀ t ∈ g22D.terms,t.name.size≤maxLen:=by
 intro t ht
 have:t.name.size≤3:=by
  simp only [g22D,List.mem_cons,List.not_mem_nil,or_false] at ht
  subst ht;decide
 simp only [maxLen]
 omega
theorem of_told {G:Gr} (hr:redOK G=true) (hi:redG G=G) (hc:cycG G=0) {ord:List Nat} (hO:chkO G ord=true) {tab:Nat→Nat→Nat} {n:Nat} (hT:chkT G ord tab n=true) (hn:n≤10)
 {l:List Int} (hl:l.length≤6) (hh:(l.all fun s=>G.has s)=true) {m:Nat} (hm:m≤n):ofN22 G l (m:Int)=fitN (forestT (tabT tab) l m):=by
 have hro:G.right=true∧(prodN G).getD G.start.toNat false=true:=by unfold redOK at hr;rw [Bool.and_eq_true] at hr;exact hr
 obtain ⟨hP,_,_⟩:=reduced_plain hro.1 hro.2 hi hc
 have hOr:=chkO_ordered hP.fits hO
 have ht:=chk_told hP hOr hT
 have hall:=List.all_eq_true.1 hh
 unfold ofN22
 rw [if_neg,if_neg (by rw [hc];exact fun h=>h rfl),Int.toNat_natCast]
 · congr 1
   refine (forest_congr fun s hs k hk=>?_).symm
   by_cases h0:0≤s
   · rw [treeN_term G h0];unfold tabT;rw [if_pos h0]
   · have hb:=has_bd (hall s hs)
     have hs2:nonI s < G.nons.length:=by unfold nonI;omega
     unfold tabT
     rw [if_neg h0,ht k (by omega) _ hs2]
     congr 1
     unfold nonI;omega
 · rintro (h | h | h | h | ⟨s,hs,h⟩)
   · rw [isRed_iff.2 ⟨hr,hi⟩] at h;cases h
   · omega
   · omega
   · omega
   · rw [hall s hs] at h;cases h
def tab22A (k i:Nat):Nat:=[0,1,1,2,5].getD k 0
def tab22D (k i:Nat):Nat:=[2 ^ 1296,2 ^ 216,2 ^ 36,64,2].getD i 0
theorem red22A:redOK g22A=true:=by kernel_rfl
theorem red22B:redOK g22B=true:=by kernel_rfl
theorem red22C:redOK g22C=false:=by kernel_rfl
theorem red22D:redOK g22D=true:=by kernel_rfl
theorem same22A:redG g22A=g22A:=by kernel_rfl
theorem same22B:redG g22B=g22B:=by kernel_rfl
theorem same22D:redG g22D=g22D:=by kernel_rfl
theorem cyc22A:cycG g22A=0:=by kernel_rfl
theorem cyc22B:Nat.beq (cycG g22B) 0=false:=by kernel_rfl
theorem cyc22D:cycG g22D=0:=by kernel_rfl
theorem ord22A:chkO g22A [0]=true:=by kernel_rfl
theorem ord22D:chkO g22D [4,3,2,1,0]=true:=by kernel_rfl
theorem chk22A:chkT g22A [0] tab22A 4=true:=by kernel_rfl
theorem chk22D:chkT g22D [4,3,2,1,0] tab22D 0=true:=by kernel_rfl
theorem right22A:g22A.right=true:=by kernel_rfl
theorem right22B:g22B.right=true:=by kernel_rfl
theorem right22C:g22C.right=true:=by kernel_rfl
theorem right22D:g22D.right=true:=by kernel_rfl
theorem cnt_of {G:Gr} {n:Nat} (hr:G.right=true) (hn:n≤10) (ho:redOK G=true) (hi:redG G=G) (hs:G.start=0):cntN22 G (n:Int)=ofN22 G [-1] (n:Int):=by
 unfold cntN22
 rw [if_neg,if_neg (by rw [ho];simp),hi,hs]
 · rfl
 · rintro (h | h | h)
   · rw [hr] at h;cases h
   · omega
   · omega
theorem cnt22A {m:Nat} (hm:m≤4):cntN22 g22A (m:Int)=fitN (forestT (tabT tab22A) [-1] m):=(cnt_of right22A (by omega) red22A same22A rfl).trans (of_told red22A same22A cyc22A ord22A chk22A (by decide) (by decide) (by kernel_rfl) hm)
theorem v22A:cntN22 g22A 4=([5],0):=(cnt22A (m:=4) (by decide)).trans (by kernel_rfl)
theorem v22B:cntN22 g22B 1=([],10):=by
 refine (cnt_of (n:=1) right22B (by decide) red22B same22B rfl).trans ?_
 unfold ofN22
 rw [if_neg,if_pos]
 · intro h;have:=cyc22B;rw [h] at this;cases this
 · rintro (h | h | h | h | ⟨s,hs,h⟩)
   · rw [isRed_iff.2 ⟨red22B,same22B⟩] at h;cases h
   · simp at h
   · omega
   · omega
   · rw [List.mem_singleton.1 hs] at h;cases h
theorem v22C:cntN22 g22C 3=([],0):=by
 unfold cntN22
 rw [if_neg,if_pos red22C]
 rintro (h | h | h)
 · rw [right22C] at h;cases h
 · omega
 · omega
theorem v22D:cntN22 g22D 0=([],2):=(cnt_of (n:=0) right22D (by decide) red22D same22D rfl).trans ((of_told red22D same22D cyc22D ord22D chk22D (by decide) (by decide) (by kernel_rfl) (Nat.le_refl 0)).trans (by kernel_rfl))
theorem v22E:ofN22 g22A [-1,0,-1] 4=([2],0):=(of_told (m:=4) red22A same22A cyc22A ord22A chk22A (by decide) (by decide) (by kernel_rfl) (by decide)).trans (by kernel_rfl)
theorem v22F:uptoV g22A 4=([[],[1],[1],[2],[5]],0):=by
 have h0:cntN22 g22A ((0:Nat):Int)=([],0):=(cnt22A (by decide)).trans (by kernel_rfl)
 have h1:cntN22 g22A ((1:Nat):Int)=([1],0):=(cnt22A (by decide)).trans (by kernel_rfl)
 have h2:cntN22 g22A ((2:Nat):Int)=([1],0):=(cnt22A (by decide)).trans (by kernel_rfl)
 have h3:cntN22 g22A ((3:Nat):Int)=([2],0):=(cnt22A (by decide)).trans (by kernel_rfl)
 have h4:cntN22 g22A ((4:Nat):Int)=([5],0):=v22A
 unfold uptoV
 rw [if_neg (by decide)]
 show upGo _ 5 0=_
 unfold upGo
 simp only [h0]
 rw [if_pos trivial]
 unfold upGo
 simp only [h1]
 rw [if_pos trivial]
 unfold upGo
 simp only [h2]
 rw [if_pos trivial]
 unfold upGo
 simp only [h3]
 rw [if_pos trivial]
 unfold upGo
 simp only [h4]
 rw [if_pos trivial]
 unfold upGo
 simp only [List.range,List.range.loop,List.map_cons,List.map_nil,h0,h1,h2,h3,h4]
theorem same_stepN {xs ys:List Nat} (h:xs.length=ys.length) (hd:∀ j,j < xs.length→xs.getD j 0=ys.getD j 0):xs=ys:=by
 apply List.ext_getElem h
 intro j h1 h2
 have:=hd j h1
 simpa [List.getElem?_eq_getElem h1,List.getElem?_eq_getElem h2] using this
theorem ref_same (A1:Option Addr) (n c1:Nat) (xs:List Nat) (A2:Option Addr) (m c2:Nat) (ys:List Nat) (w:World)
 (h1:Nums .u32 w A1 n c1 xs) (h2:Nums .u32 w A2 m c2 ys) :
 Calls Tryz.prog 17 #[.slice A1 n c1, .slice A2 m c2] w (Quiet w (.bool (xs == ys))):=by
 obtain rfl:=h1.len
 obtain rfl:=h2.len
 have hcap:=h1.cap
 by_cases hne:xs.length=ys.length
 case neg =>
  have hfin:(xs == ys)=false:=by
   rw [beq_eq_false_iff_ne];intro h;exact hne (by rw [h])
  rw [hfin]
  have ht:((xs.length:Int) != (ys.length:Int))=true:=by rw [bne_iff_ne];omega
  clear hfin hne
  go_enter Tryz.func17,Tryz.ntmps17
  go_wp2
  go_ret
  exact ⟨rfl,Same.refl _⟩
 have ht:((xs.length:Int) != (ys.length:Int))=false:=by rw [bne_eq_false_iff_eq];omega
 have Hne:=LH hne
 clear hne
 go_enter Tryz.func17,Tryz.ntmps17
 go_wp2
 go_loopw [5] (fun i wr=>∃ k:Nat,k≤xs.length∧i = .int .i64 (k:Int)∧(∀ j,j < k→xs.getD j 0=ys.getD j 0)∧Same w wr) (fun i _=>xs.length - (intOf i).toNat)
 case atStart=>exact ⟨0,Nat.zero_le _,rfl,fun j hj=>by omega,Same.refl _⟩
 case round =>
  obtain ⟨k,hk,rfl,hrel,hsame⟩:=hrel
  have Hrel:=LH hrel
  clear hrel
  by_cases hlt:k < xs.length
  · obtain ⟨b1,o1,x,rfl,hb1,Hx,hc1⟩:=(h1.same hsame).get (j:=k) hlt
    obtain ⟨b2,o2,y,rfl,hb2,Hy,hc2⟩:=(h2.same hsame).get (j:=k) (by have:=Hne.out;omega)
    have i0:(0:Int)≤(k:Int):=by omega
    have i1:(k:Int) < (xs.length:Int):=by omega
    have i2:(k:Int) < (ys.length:Int):=by have:=Hne.out;omega
    by_cases hxy:x=y
    · have he:((x:Int) != (y:Int))=false:=by rw [bne_eq_false_iff_eq];omega
      have Hxy:=LH hxy
      clear hxy
      go_wp2
      go_quiet (fail)
      go_wp2
      go_roundw
      case rel =>
       refine ⟨k+1,by omega,by go_num,fun j hj=>?_,hsame.drewN _⟩
       rcases Nat.lt_or_ge j k with h | h
       · exact Hrel.out j h
       · obtain rfl:j=k:=by omega
         rw [getD_of_get Hx.out,getD_of_get Hy.out,Hxy.out]
      case measure=>simp [intOf];omega
    · have he:((x:Int) != (y:Int))=true:=by rw [bne_iff_ne];omega
      have hfin:(xs == ys)=false:=by
       rw [beq_eq_false_iff_ne]
       intro h
       have h1:=Hx.out
       rw [h,Hy.out] at h1
       injection h1 with h1
       exact hxy h1.symm
      have Hfin:=LH hfin
      clear hfin hxy
      go_wp2
      go_quiet (fail)
      go_wp2
      go_ret
      rw [Hfin.out]
      exact ⟨rfl,hsame.drewN _⟩
  · have hfin:(xs == ys)=true:=by
     rw [beq_iff_eq]
     exact same_stepN Hne.out fun j hj=>Hrel.out j (by omega)
    have Hfin:=LH hfin
    clear hfin
    go_wp2
    go_ret
    rw [Hfin.out]
    exact ⟨rfl,hsame⟩
end Go.Proofs.YtggbjdmpjidhgaaGreatDoor
