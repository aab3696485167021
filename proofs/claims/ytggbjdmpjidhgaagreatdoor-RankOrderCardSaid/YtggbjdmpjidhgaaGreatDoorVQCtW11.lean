/- how many forests any symbols have: the program's Of, walked. -/
import Derived.Test.YtggbjdmpjidhgaaGreatDoorVQCtW10
import Derived.Test.YtggbjdmpjidhgaaGreatDoorVQCtS2
import Derived.Test.YtggbjdmpjidhgaaGreatDoorVQCyW13
import Derived.Test.YtggbjdmpjidhgaaGreatDoorVQCtK2
import Derived.Test.YtggbjdmpjidhgaaGreatDoorVQPs15
import Derived.Lib.SlBytesConst
import Derived.Test.YtggbjdmpjidhgaaGreatDoorVQCtP4
import Derived.Test.YtggbjdmpjidhgaaGreatDoorVQCtM1
set_option linter.unusedVariables false
set_option linter.unusedSimpArgs false
set_option maxHeartbeats 8000000
set_option maxRecDepth 100000
namespace Go.Proofs.YtggbjdmpjidhgaaGreatDoor
open Go.RowKit
theorem enters_cof1:∀ args w,(callFunc 45 args).run Tryz.prog w = .ok (.enter 45 args) w:=fun args w=>by kernel_rfl
theorem tr_cof1 (h:GH) (G:Gr) (c:Nat) (s:Int) (w:World) (g:GrAt w h G) (j:InI64 s) (h1:h.n1≤1000) (d:h.n2≤1000) (k:GBox w c h G.start) :
 Calls Tryz.prog 45 #[.int .i64 s, .pointer (some ⟨c,0,none⟩)] w fun e w'=>e = .returned (.bool (!G.has s))∧Below w.heap.size w w':=by
 have a:=cf_has h G s w g j h1 d
 generalize G.has s=b at *
 obtain ⟨a1,n1,c1,a2,n2,c2,a3,n3,c3⟩:=h
 have ⟨z5,z0,z1,z2,z3⟩:=k
 simp only [] at z0 z1 z2 z3
 have CH:=LH a
 clear a
 go_enter Tryz.func45,Tryz.ntmps45
 go_wp2_with fail
 (with_reducible refine CH.out.mono ?_)
 rintro e l ⟨rfl,f⟩
 go_wp2_with fail
 go_ret
 exact ⟨rfl,f⟩
theorem tr_cOf (h:GH) (G:Gr) (Al:Option Addr) (v:Nat) (l:List Int) (n:Int) (w:World) (R:GrAt w h G) (o:∀ t ∈ G.terms,t.name.size≤maxLen) (a4:TabAt w) (h1:h.n1≤100) (h2:h.n2≤100) (h3:h.n3≤100)
 (y:Ints .i64 w Al l.length v l) (hi:∀ s ∈ l,InI64 s) :
 Calls Tryz.prog 15 #[GV h G.start, .slice Al l.length v, .int .i64 n] w (RetNat w (ofN22 G l n)):=by
 obtain ⟨a1,n1,c1,a2,n2,c2,a3,n3,c3⟩:=h
 have e1:G.terms.length=n1:=R.terms.len
 have e2:G.nons.length=n2:=R.nons.len
 simp only [] at h1 h2 h3
 have ca:=y.cap
 have O:=LH R
 have Hl:=LH y
 have Hi:=LH hi
 have Z:=LH o
 have bh:=LH a4
 have aa:=alloc_below w (.cells #[.slice a1 n1 c1, .slice a2 n2 c2, .slice a3 n3 c3, .int .i64 G.start] 26)
 have ah:=GBox.new w 26 ⟨a1,n1,c1,a2,n2,c2,a3,n3,c3⟩ G.start
 clear R y hi o a4
 go_enter Tryz.func15,Tryz.ntmps15
 have ⟨z5,z0,z1,z2,z3⟩:=ah
 simp only [] at z0 z1 z2 z3
 go_upto_region 1 with fail
 generalize w.alloc (.cells #[.slice a1 n1 c1, .slice a2 n2 c2, .slice a3 n3 c3, .int .i64 G.start] 26)=W0 at *
 have f:=LH (tr_Is ⟨a1,n1,c1,a2,n2,c2,a3,n3,c3⟩ G W0 (O.out.below aa) Z.out h1 h2 h3)
 have r:=LH aa
 have N:=LH ah
 have d:(isRed G=false∨6 < l.length∨n < 0∨10 < n∨(∃ s ∈ l,G.has s=false))→ofN22 G l n=([],1):=fun hh=>by unfold ofN22;rw [if_pos hh]
 have P:Hid (∀ w',Below w.heap.size w w'→ofN22 G l n=([],1)→RetNat w (ofN22 G l n) (.returned (.tuple #[.slice none 0 0, .int .i64 1])) w'):=LH fun w' hb he=>by rw [he];exact ⟨none,0,rfl,Nums.nil _ _ _ _ (by omega),hb⟩
 clear aa ah
 cases H:isRed G
 case false =>
  have u:=LH (d (.inl H))
  rw [H] at f
  clear d
  go_wp2_with (go_at_call 42;(with_reducible refine f.out.mono ?_);rintro e U ⟨rfl,a⟩)
  go_ret2
  exact P.out _ (below_tail r.out a) u.out
 rw [H] at f
 by_cases bz:6 < l.length
 case pos =>
  have u:=LH (d (.inr (.inl bz)))
  have i1:(6:Int) < (l.length:Int):=by omega
  clear d
  go_wp2_with (go_at_call 42;(with_reducible refine f.out.mono ?_);rintro e U ⟨rfl,a⟩)
  go_ret2
  exact P.out _ (below_tail r.out a) u.out
 have i1:¬ ((6:Int) < (l.length:Int)):=by omega
 by_cases hn:0≤n∧n≤10
 case neg =>
  have u:=LH (d (by rcases (by omega:n < 0∨10 < n) with h | h;exact .inr (.inr (.inl h));exact .inr (.inr (.inr (.inl h)))))
  have E:(decide (0≤n) && decide (n≤10))=false:=by rw [Bool.and_eq_false_iff,decide_eq_false_iff_not,decide_eq_false_iff_not];omega
  have p:=fun X=>tr_cwithin n X
  rw [E] at p
  have A:=LH p
  clear d E p hn
  go_wp2_with (first
   | (go_at_call 42;(with_reducible refine f.out.mono ?_);rintro e U ⟨rfl,a⟩)
   | (go_at_call 43;(with_reducible refine (A.out _).mono ?_);rintro e w7 ⟨rfl,rfl⟩))
  go_ret2
  exact P.out _ (below_tail r.out a) u.out
 obtain ⟨m,rfl⟩:∃ m:Nat,n=(m:Int):=⟨n.toNat,by omega⟩
 have hm:m≤10:=by omega
 have E:(decide (0≤(m:Int)) && decide ((m:Int)≤10))=true:=by rw [Bool.and_eq_true,decide_eq_true_iff,decide_eq_true_iff];exact hn
 have p:=fun X=>tr_cwithin (m:Int) X
 rw [E] at p
 have A:=LH p
 have Hr:=LH H
 clear E p hn H
 have F:(l.any fun s=>!G.has s)=!l.all G.has:=by rw [List.all_eq_not_any_not];simp
 have z:Hid (∀ W,Below w.heap.size w W→GBox W w.heap.size ⟨a1,n1,c1,a2,n2,c2,a3,n3,c3⟩ G.start→Calls Tryz.prog 44 #[.slice Al l.length v, .func (.func 45) #[] #[.pointer (some ⟨w.heap.size,0,none⟩)]] W fun e w'=>e = .returned (.bool (!l.all G.has))∧Below W.heap.size W w'):=LH fun W D hX=>by
  have hT:Tells 45 #[.pointer (some ⟨w.heap.size,0,none⟩)] (Value.int .i64) W l (fun s=>!G.has s):=fun s b0 w' a5 =>
   tr_cof1 ⟨a1,n1,c1,a2,n2,c2,a3,n3,c3⟩ G w.heap.size s w' ((O.out.below D).below a5) (Hi.out s b0) (by simp only [];omega) (by simp only [];omega) (hX.below a5)
  have g:=sl_contains_ints Al l.length v l 45 _ (fun s=>!G.has s) W enters_cof1 (Hl.out.below D) hT
  rwa [F] at g
 cases c:l.all G.has
 case false =>
  have u:=LH (d (.inr (.inr (.inr (.inr (by
   rw [List.all_eq_false] at c
   obtain ⟨s,o,hh⟩:=c
   exact ⟨s,o,by simpa using hh⟩))))))
  rw [c] at z
  clear d c F
  go_wp2_with (first
   | (go_at_call 42;(with_reducible refine f.out.mono ?_);rintro e U ⟨rfl,a⟩)
   | (go_at_call 43;(with_reducible refine (A.out _).mono ?_);rintro e w7 ⟨rfl,rfl⟩)
   | (go_at_call 44;(with_reducible refine (z.out _ (below_tail r.out a) (N.out.below a)).mono ?_);rintro e w8 ⟨rfl,x⟩))
  go_ret2
  exact P.out _ (below_tail (below_tail r.out a) x) u.out
 case true =>
  have j:ofN22 G l (m:Int)=if cycG G ≠ 0 then ([],10) else fitN (forestT (treeN G) l m):=by
   unfold ofN22
   rw [if_neg]
   · rfl
   · rintro (h | h | h | h | ⟨s,o,h⟩)
     · rw [Hr.out] at h;cases h
     · omega
     · omega
     · omega
     · rw [List.all_eq_true] at c
       rw [c s o] at h;cases h
  have bi:=LH (List.all_eq_true.1 c)
  have av:=LH j
  rw [c] at z
  clear d c F j
  have CY:Hid (∀ W,Below w.heap.size w W→Calls Tryz.prog 47 #[GV ⟨a1,n1,c1,a2,n2,c2,a3,n3,c3⟩ G.start] W fun e w'=>Below W.heap.size W w'∧e = .returned (.int .u32 ((cycG G:Nat):Int))):=LH fun W D =>
   tr_Cycles stepsSaid ⟨a1,n1,c1,a2,n2,c2,a3,n3,c3⟩ G W (O.out.below D) Z.out (bh.out.below D) (by simp only [];omega) (by simp only [];omega) (by simp only [];omega)
  go_wp2_with (first
   | (go_at_call 42;(with_reducible refine f.out.mono ?_);rintro e U ⟨rfl,a⟩)
   | (go_at_call 43;(with_reducible refine (A.out _).mono ?_);rintro e w7 ⟨rfl,rfl⟩)
   | (go_at_call 44
      (with_reducible refine (z.out _ (below_tail r.out a) (N.out.below a)).mono ?_)
      rintro e w8 ⟨rfl,x⟩
      obtain ⟨y5,I,J,L,M⟩:=N.out.below (below_tail a x)
      simp only [] at I J L M))
  have V:=LH (below_tail (below_tail r.out a) x)
  have ar:=LH (N.out.below (below_tail a x))
  clear a x f z A z0 z1 z2 z3 z5
  (with_reducible refine (CY.out _ V.out).mono ?_)
  rintro e w9 ⟨ag,rfl⟩
  have C:=LH (below_tail V.out ag)
  have bj:=LH (ar.out.below ag)
  have cb:=cycG_lt G
  have j:=av.out
  clear I J L M y5 ag av CY V ar
  by_cases g:cycG G=0
  case neg =>
   have Y:=LH j
   have i4:(((cycG G:Nat):Int) != 0)=true:=by rw [bne_iff_ne];omega
   have Hc:=LH g
   clear j g
   go_wp2_with fail
   go_ret2
   rw [Y.out,if_pos Hc.out]
   exact ⟨none,0,rfl,Nums.nil _ _ _ _ (by omega),C.out⟩
  have i4:(((cycG G:Nat):Int) != 0)=false:=by rw [g];rfl
  rw [if_neg (by rw [g];simp)] at j
  obtain ⟨S,a7⟩:=isRed_iff.1 Hr.out
  have T:G.right=true∧(prodN G).getD G.start.toNat false=true:=by unfold redOK at S;rw [Bool.and_eq_true] at S;exact S
  obtain ⟨hP,bx,hO⟩:=reduced_plain T.1 T.2 a7 g
  have Y:=LH j
  have HP:=LH hP
  have ai:=O.out.below C.out
  have CS:=LH (tr_start ⟨a1,n1,c1,a2,n2,c2,a3,n3,c3⟩ G w9 ai Z.out (by simp only [];omega) (by simp only [];omega) (by simp only [];omega) T.1)
  have a6:∀ s ∈ l,-(n2:Int)≤s∧s≤1000:=fun s o=>by
   have:=has_bd (bi.out s o)
   rw [e1,e2] at this
   omega
  have CF:Hid (∀ k:CH,ForC w9 k ⟨a1,n1,c1,a2,n2,c2,a3,n3,c3⟩ G Al l.length v l m):=LH fun k=>tr_forest (k:=k) hP ai (by simp only [];omega) (by simp only [];omega) l Al v m (Hl.out.below C.out) a6 (by omega) (by omega)
  have ⟨y5,I,J,L,M⟩:=bj.out
  simp only [] at I J L M
  clear j S a7 T hP bx hO g ai a6
  generalize cycG G=cy at *
  go_wp2_with fail
  (with_reducible refine CS.out.mono ?_)
  rintro e ce ⟨af,k,rfl,ab⟩
  have an:=LH (CF.out k _ _ ab (fun b hb=>hb.elim))
  have aq:=LH (below_tail C.out af)
  have a8:=ab.low
  clear I J L M y5 CS CF ab
  have bm:=LH a8
  have b8:=LH af
  clear a8 af
  go_wp2_with fail
  (with_reducible refine an.out.mono ?_)
  rintro e b4 ⟨bs,a0,A5,k5,c5,b5,rfl,hv⟩
  have be:=LH (aq.out.trans ((a0.is_below (B:=w.heap.size) aq.out.size fun q F=>by
   have h9:=C.out.size
   have y:=bm.out
   rcases F with rfl | rfl
   · exact Nat.le_trans h9 y.1
   · exact Nat.le_trans h9 y.2)))
  clear bs a0 an
  go_wp2_with fail
  (with_reducible refine (tr_told A5 k5 c5 b5 _ b4 hv).mono ?_)
  rintro e cf ⟨A6,c6,rfl,a9,a⟩
  have bg:=LH a9
  have bf:=LH (below_tail be.out a)
  clear hv a9 a
  generalize fitN (forestT (treeN G) l m)=cd at *
  go_wp2_with fail
  go_ret2
  rw [Y.out]
  exact ⟨A6,c6,rfl,bg.out,bf.out⟩
open Classical in
noncomputable def cntN22 (G:Gr) (n:Int):List Nat × Nat :=
 if G.right=false∨n < 0∨10 < n then ([],1) else if redOK G=false then ([],0) else ofN22 (redG G) [-1 - (redG G).start] n
theorem start_bd {G:Gr} (a:G.right=true):0≤G.start∧G.start < (G.nons.length:Int)∧G.nons.length≤16:=by
 have b:=Gr.fits a
 obtain ⟨_,_,_,c,_⟩:=right_parts.1 a
 have:=b.n2
 omega
theorem redG_terms (G:Gr):(redG G).terms=G.terms:=rfl
theorem tr_cCount (h:GH) (G:Gr) (n:Int) (w:World) (hg:GrAt w h G) (z:∀ t ∈ G.terms,t.name.size≤maxLen) (ak:TabAt w) (h1:h.n1≤100) (h2:h.n2≤100) (h3:h.n3≤100) :
 Calls Tryz.prog 19 #[GV h G.start, .int .i64 n] w (RetNat w (cntN22 G n)):=by
 obtain ⟨a1,n1,c1,a2,n2,c2,a3,n3,c3⟩:=h
 simp only [] at h1 h2 h3
 have Hg:=LH hg
 have N:=LH z
 have az:=LH ak
 have O:=alloc_below w (.cells #[.slice a1 n1 c1, .slice a2 n2 c2, .slice a3 n3 c3, .int .i64 G.start] 26)
 have U:=GBox.new w 26 ⟨a1,n1,c1,a2,n2,c2,a3,n3,c3⟩ G.start
 clear hg z ak
 go_enter Tryz.func19,Tryz.ntmps19
 have ⟨z5,z0,z1,z2,z3⟩:=U
 simp only [] at z0 z1 z2 z3
 go_upto_region 1 with fail
 generalize w.alloc (.cells #[.slice a1 n1 c1, .slice a2 n2 c2, .slice a3 n3 c3, .int .i64 G.start] 26)=W0 at *
 have b:=LH (cf_Right ⟨a1,n1,c1,a2,n2,c2,a3,n3,c3⟩ G W0 (Hg.out.below O) N.out (by simp only [];omega) (by simp only [];omega))
 have F:=LH O
 have a0:=LH U
 have k:(G.right=false∨n < 0∨10 < n)→cntN22 G n=([],1):=fun hh=>by unfold cntN22;rw [if_pos hh]
 have M:Hid (∀ w' g,Below w.heap.size w w'→cntN22 G n=([],g)→RetNat w (cntN22 G n) (.returned (.tuple #[.slice none 0 0, .int .i64 (g:Int)])) w'):=LH fun w' g hb he=>by rw [he];exact ⟨none,0,rfl,Nums.nil _ _ _ _ (by omega),hb⟩
 clear O U
 cases f:G.right
 case false =>
  have I:=LH (k (.inl f))
  rw [f] at b
  clear k
  go_wp2_with (go_at_call 56;(with_reducible refine b.out.mono ?_);rintro e w6 ⟨rfl,d⟩)
  go_ret2
  exact M.out _ 1 (below_tail F.out d) I.out
 rw [f] at b
 by_cases V:0≤n∧n≤10
 case neg =>
  have I:=LH (k (by rcases (by omega:n < 0∨10 < n) with h | h;exact .inr (.inl h);exact .inr (.inr h)))
  have l:(decide (0≤n) && decide (n≤10))=false:=by rw [Bool.and_eq_false_iff,decide_eq_false_iff_not,decide_eq_false_iff_not];omega
  have a:=fun X=>tr_cwithin n X
  rw [l] at a
  have E:=LH a
  clear k l a V
  go_wp2_with (first
   | (go_at_call 56;(with_reducible refine b.out.mono ?_);rintro e w6 ⟨rfl,d⟩)
   | (go_at_call 43;(with_reducible refine (E.out _).mono ?_);rintro e w7 ⟨rfl,rfl⟩))
  go_ret2
  exact M.out _ 1 (below_tail F.out d) I.out
 have be:¬ n < 0:=by omega
 have bf:¬ 10 < n:=by omega
 have l:(decide (0≤n) && decide (n≤10))=true:=by rw [Bool.and_eq_true,decide_eq_true_iff,decide_eq_true_iff];exact V
 have a:=fun X=>tr_cwithin n X
 rw [l] at a
 have E:=LH a
 clear l a V
 have Hr:=LH f
 have ap:cntN22 G n=if redOK G=false then ([],0) else ofN22 (redG G) [-1 - (redG G).start] n:=by
  unfold cntN22
  rw [if_neg]
  rintro (h | h | h)
  · rw [f] at h;cases h
  · exact be h
  · exact bf h
 have L:=LH ap
 clear k ap f
 go_wp2_with (first
  | (go_at_call 56
     (with_reducible refine b.out.mono ?_)
     rintro e W1 ⟨rfl,S⟩
     obtain ⟨y5,Y,Z,y2,y3⟩:=a0.out.below S
     simp only [] at Y Z y2 y3)
  | (go_at_call 43;(with_reducible refine (E.out _).mono ?_);rintro e w7 ⟨rfl,rfl⟩))
 have P:=below_tail F.out S
 clear b z0 z1 z2 z3 z5 S
 have r:=tr_Reduce ⟨a1,n1,c1,a2,n2,c2,a3,n3,c3⟩ G W1 (Hg.out.below P) N.out h1 h2 h3
 unfold RetRed at r
 (with_reducible refine r.mono ?_)
 rintro e W3 ⟨T,⟨ar,g,bc,rfl⟩ | ⟨m,h',Ak,nk,ck,rfl,an,m1,m2,m3⟩⟩
 · have j:=below_tail P T
   have bq:(g != 0)=true:=by rw [bne_iff_ne];exact bc
   have J:Hid (cntN22 G n=([],0)):=LH (by rw [L.out,if_pos ar])
   clear r ar Y Z y2 y3 y5
   go_wp2_with fail
   go_ret2
   exact M.out _ 0 (j.trans ((alloc_below W3 _).mono j.size)) J.out
 have j:=below_tail P T
 have W:G.right=true∧(prodN G).getD G.start.toNat false=true:=by unfold redOK at m;rw [Bool.and_eq_true] at m;exact m
 have ai:=red_right W.1 W.2
 have J:Hid (cntN22 G n=ofN22 (redG G) [-1 - (redG G).start] n):=LH (by rw [L.out,if_neg (by rw [m];simp)])
 obtain ⟨o,A,u,p,B,v,q,C,x⟩:=h'
 have a5:Hid (∀ t ∈ (redG G).terms,t.name.size≤maxLen):=LH (by rw [redG_terms];exact N.out)
 generalize redG G=H at *
 obtain ⟨bu,bv,bw⟩:=start_bd ai
 clear r Y Z y2 y3 y5 m W ai L
 simp only [] at m1 m2 m3
 have R:=alloc_below W3 (.cells #[.slice o A u, .slice p B v, .slice q C x, .int .i64 H.start] 26)
 have al:=GBox.new W3 26 ⟨o,A,u,p,B,v,q,C,x⟩ H.start
 have ah:=below_tail j R
 have ao:=an.below R
 go_upto_region 4 with fail
 generalize W3.alloc (.cells #[.slice o A u, .slice p B v, .slice q C x, .int .i64 H.start] 26)=c at *
 generalize W3.heap.size=gH at *
 have a4:=LH ao
 have ad:=LH ah
 have ⟨x5,x0,x1,x2,x3⟩:=al
 simp only [] at x0 x1 x2 x3
 have br:IntKind.i64.wrap (-1 - H.start)=-1 - H.start:=IntWalk.i64_in _ (by omega)
 have y:=alloc_below c (.cells #[.int .i64 (-1 - H.start)] 3)
 have hL:Ints .i64 (c.alloc (.cells #[.int .i64 (-1 - H.start)] 3)) (some ⟨c.heap.size,0,none⟩) 1 1 [-1 - H.start]:=lit_sl c 3 (ints .i64 [-1 - H.start]) 1 _ rfl rfl (by decide)
 have D:=LH (tr_cOf ⟨o,A,u,p,B,v,q,C,x⟩ H (some ⟨c.heap.size,0,none⟩) 1 [-1 - H.start] n (c.alloc (.cells #[.int .i64 (-1 - H.start)] 3)) (a4.out.below y) a5.out (az.out.below (below_tail ad.out y)) (by simp only [];omega) (by simp only [];omega) (by simp only [];omega) hL (fun s z=>by rw [List.mem_singleton.1 z];unfold InI64;omega))
 have aw:=LH (below_tail ad.out y)
 simp only [List.length_cons,List.length_nil,Nat.zero_add] at D
 clear hL y ao ah R an j T al
 go_wp2_with fail
 (with_reducible refine D.out.mono ?_)
 rintro e W6 ⟨A6,c6,rfl,aq,d⟩
 have ay:=LH aq
 have ax:=LH (below_tail aw.out d)
 clear aq d D
 generalize ofN22 H [-1 - H.start] n=bt at *
 go_wp2_with fail
 go_ret2
 rw [J.out]
 exact ⟨A6,c6,rfl,ay.out,ax.out⟩
structure NatsO (w:World) (B:Nat) (A:Option Addr) (n c:Nat) (vs:List Value) (xss:List (List Nat)):Prop where
 own:w.ownsRow B 31 1 (.slice A n c) n vs
 noInt:∀ g,(Value.slice A n c).ownBlock=some g→NoInt w g
 len:xss.length=n
 row:∀ (j:Nat) xs,xss[j]? = some xs→∃ Aj cj,vs[j]? = some (.slice Aj xs.length cj)∧Nums .u32 w Aj xs.length cj xs
theorem NatsO.start (w:World) (B:Nat):NatsO w B none 0 0 [] []:=⟨World.ownsRow_nil _ _ _ _,fun g h=>(by cases h),rfl,fun j xs h=>by simp at h⟩
theorem NatsO.below {w w':World} {B:Nat} {A:Option Addr} {n c:Nat} {d:List Value} {f:List (List Nat)} (h:NatsO w B A n c d f) (a:Below w.heap.size w w'):NatsO w' B A n c d f :=
 ⟨own_below h.own a,fun g b=>(h.noInt g b).same (a.block g (h.own.lt g b).2),h.len,fun j xs o=>by
   obtain ⟨k,l,h1,m⟩:=h.row j xs o
   exact ⟨k,l,h1,m.below a⟩⟩
def NatsR (w:World) (A:Option Addr) (n c:Nat) (g:List (List Nat)):Prop :=
 g.length=n∧n≤c∧c≤9223372036854775807∧(0 < n→∃ b f,A=some ⟨b,f,none⟩∧b < w.heap.size∧∀ (j:Nat) xs,g[j]? = some xs→∃ a d,w.cell? ⟨b,f+j,none⟩=some (.slice a xs.length d)∧Nums .u32 w a xs.length d xs)
theorem NatsR.below {w w':World} {A:Option Addr} {n c:Nat} {g:List (List Nat)} (h:NatsR w A n c g) (a:Below w.heap.size w w'):NatsR w' A n c g:=by
 refine ⟨h.1,h.2.1,h.2.2.1,fun q=>?_⟩
 obtain ⟨b,f,e,d,r⟩:=h.2.2.2 q
 refine ⟨b,f,e,Nat.lt_of_lt_of_le d a.size,fun j xs o=>?_⟩
 obtain ⟨k,l,h1,m⟩:=r j xs o
 exact ⟨k,l,(a.cell (p:=⟨b,f+j,none⟩) d).trans h1,m.below a⟩
def readC (xs:List Nat):Option Gr :=
 match toksP xs (xs.length+1) 0 with
 | none=>none
 | some ts=>if cuts ts < 2∧ts.length≤4000 then (match srcP (ts.length+1) (ts.map tkOf) with
   | none=>none
   | some ps=>if ps.length≤4000∧(ps.all fun q=>decide (q.right.length≤4000))=true then buildP ps else none) else none
theorem rf_ReadC (A:Option Addr) (n c:Nat) (xs:List Nat) (G:Gr) (w:World) (a:readC xs=some G) (h:Nums .u8 w A n c xs) (d:∀ x ∈ xs,x < 256) (f:n≤4000) :
 Calls Tryz.prog 41 #[.slice A n c] w fun e w'=>∃ h,e = .returned (.tuple #[GV h G.start, .complex .f64 0 0, .int .i64 0])∧GrAt w' h G∧h.n1≤24∧h.n2≤16∧h.n3≤40∧G.start=0∧Below w.heap.size w w':=by
 unfold readC at a
 split at a
 · cases a
 · rename_i ts k
   split at a
   · rename_i h1
     split at a
     · cases a
     · rename_i ps g
       split at a
       · rename_i b
         refine rf_Read A n c xs G w h d f ts k h1.1 h1.2 ps g b.1 (fun q j=>?_) a
         have:=List.all_eq_true.1 b.2 q j
         simpa using this
       · cases a
   · cases a
theorem markd_sl (w:World) (t:TypeId) (b:Nat × Nat) (a:List Value) (n:Nat) (arr:Array Value) (h:arr=a.toArray) (c:a.length=n) (f:n≤1000000):Sl (w.alloc (.cells arr t b)) (some ⟨w.heap.size,0,none⟩) n n a:=by
 subst h
 refine ⟨c,Nat.le_refl _,by omega,fun _=>⟨_,_,rfl,?_,fun j d=>?_⟩⟩
 · show w.heap.size < (w.heap.push _).size
   simp
 · rw [Nat.zero_add,World.cell?_alloc_mark]
   simp
def g0:Gr:=⟨[],[],[],0⟩
def text22A:List Nat:=[37,37,32,115,32,58,32,115,32,115,32,124,32,39,97,39,32,59]
def g22A:Gr:=⟨[⟨⟨#[39,97,39]⟩,0,0⟩],[⟨#[115]⟩],[⟨0,[-1,-1],-1⟩,⟨0,[0],0⟩],0⟩
def g22B:Gr:=⟨[⟨⟨#[39,97,39]⟩,0,0⟩],[⟨#[115]⟩],[⟨0,[-1,-1],-1⟩,⟨0,[0],0⟩,⟨0,[],-1⟩],0⟩
def g22C:Gr:=⟨[⟨⟨#[39,97,39]⟩,0,0⟩],[⟨#[115]⟩],[⟨0,[-1,0],0⟩],0⟩
def g22D:Gr:=⟨[⟨⟨#[39,120,39]⟩,0,0⟩],[⟨#[115]⟩,⟨#[97]⟩,⟨#[98]⟩,⟨#[99]⟩,⟨#[100]⟩],[⟨0,[-2,-2,-2,-2,-2,-2],-1⟩,⟨1,[-3,-3,-3,-3,-3,-3],-1⟩,⟨2,[-4,-4,-4,-4,-4,-4],-1⟩,⟨3,[-5,-5,-5,-5,-5,-5],-1⟩,⟨4,[],-1⟩,⟨4,[],0⟩],0⟩
theorem read22A:readC text22A=some g22A:=by kernel_rfl
theorem names22A:∀ t ∈ g22A.terms,t.name.size≤maxLen:=by
 intro t a
 have:t.name.size≤3:=by
  simp only [g22A,List.mem_cons,List.not_mem_nil,or_false] at a
  subst a;decide
 simp only [maxLen]
 omega
theorem of_told {G:Gr} (a:redOK G=true) (hi:redG G=G) (f:cycG G=0) {j:List Nat} (o:chkO G j=true) {tab:Nat→Nat→Nat} {n:Nat} (q:chkT G j tab n=true) (A:n≤10)
 {l:List Int} (y:l.length≤6) (r:(l.all fun s=>G.has s)=true) {m:Nat} (z:m≤n):ofN22 G l (m:Int)=fitN (forestT (tabT tab) l m):=by
 have g:G.right=true∧(prodN G).getD G.start.toNat false=true:=by unfold redOK at a;rw [Bool.and_eq_true] at a;exact a
 obtain ⟨c,_,_⟩:=reduced_plain g.1 g.2 hi f
 have p:=chkO_ordered c.fits o
 have u:=chk_told c p q
 have d:=List.all_eq_true.1 r
 unfold ofN22
 rw [if_neg,if_neg (by rw [f];exact fun h=>h rfl),Int.toNat_natCast]
 · congr 1
   refine (forest_congr fun s b k x=>?_).symm
   by_cases h0:0≤s
   · rw [treeN_term G h0];unfold tabT;rw [if_pos h0]
   · have v:=has_bd (d s b)
     have t:nonI s < G.nons.length:=by unfold nonI;omega
     unfold tabT
     rw [if_neg h0,u k (by omega) _ t]
     congr 1
     unfold nonI;omega
 · rintro (h | h | h | h | ⟨s,b,h⟩)
   · rw [isRed_iff.2 ⟨a,hi⟩] at h;cases h
   · omega
   · omega
   · omega
   · rw [d s b] at h;cases h
def tab22A (k i:Nat):Nat:=[0,1,1,2,5].getD k 0
theorem red22A:redOK g22A=true:=by kernel_rfl
theorem same22A:redG g22A=g22A:=by kernel_rfl
theorem cyc22A:cycG g22A=0:=by kernel_rfl
theorem ord22A:chkO g22A [0]=true:=by kernel_rfl
theorem chk22A:chkT g22A [0] tab22A 4=true:=by kernel_rfl
theorem right22A:g22A.right=true:=by kernel_rfl
theorem cnt_of {G:Gr} {n:Nat} (b:G.right=true) (d:n≤10) (a:redOK G=true) (hi:redG G=G) (c:G.start=0):cntN22 G (n:Int)=ofN22 G [-1] (n:Int):=by
 unfold cntN22
 rw [if_neg,if_neg (by rw [a];simp),hi,c]
 · rfl
 · rintro (h | h | h)
   · rw [b] at h;cases h
   · omega
   · omega
theorem cnt22A {m:Nat} (a:m≤4):cntN22 g22A (m:Int)=fitN (forestT (tabT tab22A) [-1] m):=(cnt_of right22A (by omega) red22A same22A rfl).trans (of_told red22A same22A cyc22A ord22A chk22A (by decide) (by decide) (by kernel_rfl) a)
theorem same_stepN {xs ys:List Nat} (h:xs.length=ys.length) (hd:∀ j,j < xs.length→xs.getD j 0=ys.getD j 0):xs=ys:=by
 apply List.ext_getElem h
 intro j h1 a
 have:=hd j h1
 simpa [List.getElem?_eq_getElem h1,List.getElem?_eq_getElem a] using this
theorem ref_same (l:Option Addr) (n c1:Nat) (xs:List Nat) (o:Option Addr) (m c2:Nat) (ys:List Nat) (w:World)
 (h1:Nums .u32 w l n c1 xs) (r:Nums .u32 w o m c2 ys) :
 Calls Tryz.prog 17 #[.slice l n c1, .slice o m c2] w (Quiet w (.bool (xs == ys))):=by
 obtain rfl:=h1.len
 obtain rfl:=r.len
 have G:=h1.cap
 by_cases c:xs.length=ys.length
 case neg =>
  have a:(xs == ys)=false:=by
   rw [beq_eq_false_iff_ne];intro h;exact c (by rw [h])
  rw [a]
  have z:((xs.length:Int) != (ys.length:Int))=true:=by rw [bne_iff_ne];omega
  clear a c
  go_enter Tryz.func17,Tryz.ntmps17
  go_wp2
  go_ret
  exact ⟨rfl,Same.refl _⟩
 have z:((xs.length:Int) != (ys.length:Int))=false:=by rw [bne_eq_false_iff_eq];omega
 have g:=LH c
 clear c
 go_enter Tryz.func17,Tryz.ntmps17
 go_wp2
 go_loopw [5] (fun i wr=>∃ k:Nat,k≤xs.length∧i = .int .i64 (k:Int)∧(∀ j,j < k→xs.getD j 0=ys.getD j 0)∧Same w wr) (fun i _=>xs.length - (intOf i).toNat)
 case atStart=>exact ⟨0,Nat.zero_le _,rfl,fun j s=>by omega,Same.refl _⟩
 case round =>
  obtain ⟨k,H,rfl,hrel,b⟩:=hrel
  have p:=LH hrel
  clear hrel
  by_cases v:k < xs.length
  · obtain ⟨A,M,x,rfl,C,Hx,E⟩:=(h1.same b).get (j:=k) v
    obtain ⟨B,N,y,rfl,D,q,F⟩:=(r.same b).get (j:=k) (by have:=g.out;omega)
    have I:(0:Int)≤(k:Int):=by omega
    have J:(k:Int) < (xs.length:Int):=by omega
    have L:(k:Int) < (ys.length:Int):=by have:=g.out;omega
    by_cases d:x=y
    · have u:((x:Int) != (y:Int))=false:=by rw [bne_eq_false_iff_eq];omega
      have t:=LH d
      clear d
      go_wp2
      go_quiet (fail)
      go_wp2
      go_roundw
      case rel =>
       refine ⟨k+1,by omega,by go_num,fun j s=>?_,b.drewN _⟩
       rcases Nat.lt_or_ge j k with h | h
       · exact p.out j h
       · obtain rfl:j=k:=by omega
         rw [getD_of_get Hx.out,getD_of_get q.out,t.out]
      case measure=>simp [intOf];omega
    · have u:((x:Int) != (y:Int))=true:=by rw [bne_iff_ne];omega
      have a:(xs == ys)=false:=by
       rw [beq_eq_false_iff_ne]
       intro h
       have h1:=Hx.out
       rw [h,q.out] at h1
       injection h1 with h1
       exact d h1.symm
      have f:=LH a
      clear a d
      go_wp2
      go_quiet (fail)
      go_wp2
      go_ret
      rw [f.out]
      exact ⟨rfl,b.drewN _⟩
  · have a:(xs == ys)=true:=by
     rw [beq_iff_eq]
     exact same_stepN g.out fun j s=>p.out j (by omega)
    have f:=LH a
    clear a
    go_wp2
    go_ret
    rw [f.out]
    exact ⟨rfl,b⟩
end Go.Proofs.YtggbjdmpjidhgaaGreatDoor
