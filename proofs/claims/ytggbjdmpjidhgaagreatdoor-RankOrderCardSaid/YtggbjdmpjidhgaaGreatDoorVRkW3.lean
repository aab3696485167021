/- ranks: how many a first symbol, and the others, make together (walked). -/
import Derived.Test.YtggbjdmpjidhgaaGreatDoorVInvG
import Derived.Test.YtggbjdmpjidhgaaGreatDoorVQCtM1
set_option linter.unusedVariables false
set_option linter.unusedSimpArgs false
set_option maxHeartbeats 8000000
set_option maxRecDepth 100000
namespace Go.Proofs.YtggbjdmpjidhgaaGreatDoor
open Go.RowKit
theorem big_pos':0 < big:=by unfold big;generalize 1024=k;exact Nat.two_pow_pos k
theorem pair_val {x y:Nat} (m:x ≠ 0) (o:y ≠ 0):∃ d g,mulN (capV x).1 (capV y).1=(d,g)∧∀ (w:World) (A:Option Addr) (c:Nat),Nums .u32 w A d.length c d→ValN w A d.length c ((capV x).2 || ((capV y).2 || ((g:Int) != 0))) (x * y):=by
 have n:x≤x * y:=Nat.le_mul_of_pos_right x (by omega)
 have p:y≤x * y:=Nat.le_mul_of_pos_left y (by omega)
 have f:rightB ([]:List Nat)=true:=by decide
 have k:val ([]:List Nat)=0:=rfl
 have l:0 < big:=big_pos'
 have j:fitN 0=([],0):=by unfold fitN;rw [if_pos l,List.eq_nil_of_length_eq_zero (limbs_none.2 rfl)]
 by_cases h1:x < big
 · by_cases b:y < big
   · rw [capV_small h1,capV_small b,mulN_limbs x y h1 b]
     rcases fit_cases (x * y) with ⟨a,e⟩ | ⟨a,e⟩
     · exact ⟨_,_,e,fun w A c h=>⟨by rw [capV_small a];rfl,by rw [capV_small a];exact h⟩⟩
     · exact ⟨_,_,e,fun w A c h=>⟨by rw [capV_big a];rfl,by rw [capV_big a];exact h⟩⟩
   · have a:¬ x * y < big:=by omega
     rw [capV_small h1,capV_big b]
     refine ⟨[],0,by simp [mulN,f,k,j,right_of_limbs x h1],fun w A c h=>⟨by rw [capV_big a];rfl,by rw [capV_big a];exact h⟩⟩
 · have a:¬ x * y < big:=by omega
   rw [capV_big h1]
   refine ⟨[],0,?_,fun w A c h=>⟨by rw [capV_big a];rfl,by rw [capV_big a];exact h⟩⟩
   have:rightB (capV y).1=true:=by
    by_cases b:y < big
    · rw [capV_small b];exact right_of_limbs y b
    · rw [capV_big b];exact f
   simp [mulN,f,k,j,this]
theorem val_look {w:World} {A:Option Addr} {n c:Nat} {b:Bool} {x:Nat} (h:ValN w A n c b x):(x=0∧n=0∧b=false)∨(x ≠ 0∧((n:Int) == 0)=false∧b=false)∨(x ≠ 0∧n=0∧b=true):=by
 have h0:=h.none_iff
 have h1:=h.1
 have a:=h.2.len
 by_cases f:x < big
 · rw [capV_small f] at h1 a
   simp only at h1 a
   subst h1
   by_cases d:n=0
   · exact .inl ⟨h0.1 ⟨rfl,d⟩,d,rfl⟩
   · exact .inr (.inl ⟨fun e=>d (h0.2 e).2,by simpa using d,rfl⟩)
 · rw [capV_big f] at h1 a
   have:=big_pos'
   exact .inr (.inr ⟨by omega,a.symm,h1⟩)
theorem tr_pair {W0:World} {k:BkH} {h:GH} {G:Gr} (hB:BkG W0 h G) {s:Int} {l:List Int} {kk n:Nat} (hk:KeyOK (s::l) n) (dz:kk≤n) (hh:∀ x ∈ s::l,G.has x=true) (S:Nat→Prop) (w:World) (A:Option Addr) (c:Nat) (C:BkAt W0 k h G S w) (hS:∀ b,S b→b < w.heap.size) (hl:Ints .i64 W0 A (s::l).length c (s::l)) :
 Calls Tryz.prog 176 #[.pointer (some ⟨k.c,0,none⟩), .slice A (s::l).length c, .int .i64 (kk:Int), .int .i64 (n:Int)] w (BkRet W0 k h G S w (forestT (treeN G) [s] kk * forestT (treeN G) l (n - kk))):=by
 have b1:=hl.cap
 have c5:=hk.len
 have d5:=hk.n
 obtain ⟨ab,ao,_,rfl,_,_,_⟩:=hl.get (j:=0) (by simp)
 have bg:=hl.tail1
 rw [show (s::l).length - 1=l.length from rfl] at bg
 obtain ⟨At,cz⟩:∃ At:Option Addr,(if c=1 then some (⟨ab,ao,none⟩:Addr) else some ⟨ab,ao+1,none⟩)=At:=⟨_,rfl⟩
 rw [cz] at bg
 have dy:(1:Int)≤(c:Int):=by simp at b1;omega
 have cf:=hl.take 1 c (by simp) (by simp at b1;omega) b1.2
 have K1:Hid (KeyOK [s] kk):=LH ⟨fun x O=>hk.sym x (by simp at O ⊢;exact .inl O),by simp,by omega⟩
 have K2:Hid (KeyOK l (n - kk)):=LH ⟨fun x O=>hk.sym x (.tail _ O),by simp at c5;omega,by omega⟩
 have H1:Hid (∀ x ∈ [s],G.has x=true):=LH fun x O=>hh x (by simp at O ⊢;exact .inl O)
 have H2:Hid (∀ x ∈ l,G.has x=true):=LH fun x O=>hh x (.tail _ O)
 have b0:=(alloc_below w (.cells #[.slice none 0 0, .bool false] 174)).drew
 have bz:=(Blk.new w 174 #[.slice none 0 0, .bool false]).drew
 have ci:=C.more b0 (Nat.le_refl w.heap.size)
 have HB:=LH hB
 have cq:Hid (Ints .i64 W0 (some ⟨ab,ao,none⟩) [s].length c [s]):=LH (by simpa using cf)
 have cr:=LH bg
 have HM:Hid (PM W0 k h G (fun b=>S b∨b=w.heap.size) w w.heap.size (fun _=>false) (fun i=>([]:List Value).getD i undef) (w.alloc (.cells #[.slice none 0 0, .bool false] 174)).drew):=LH ⟨⟨_,ci,fun q h=>h,fun q R=>by
  have:=bz.lt
  rcases R with R | rfl
  · have:=hS q R;omega
  · omega,nofun,nofun⟩,Off.of_below b0,bz,nofun⟩
 have b2:W0.heap.size≤w.heap.size:=C.base.size
 have HS:=LH hS
 clear hB hk hh C hS hl bz ci b0 cf bg
 go_enter Tryz.func176,Tryz.ntmps176
 go_upto_region 1 with fail
 refine wp_region_free (Γ:=Unit) (fun _ b u X=>PM W0 k h G (fun b=>S b∨b=w.heap.size) w w.heap.size b u X) (fun X X'=>IntKeep X X') () (fun u=>(⟨(.pointer (some ⟨k.c,0,none⟩) :: .slice (some ⟨ab,ao,none⟩) (l.length+1) c :: .int .i64 (kk:Int) :: .int .i64 (n:Int)::undef::undef::undef::undef :: .pointer (some ⟨w.heap.size,0,none⟩)::u 12::u 13::undef::undef::u 0::u 1::u 2::u 3::u 4::u 5::u 6::u 7::u 8::u 9::u 10::u 11::undef::undef::undef::undef::undef::undef::undef::undef::undef::undef::undef::undef::undef::undef::undef::undef::undef::undef::undef::undef::undef::undef::undef::undef::undef::undef::undef::undef::undef::undef::undef::undef::undef::undef::undef::undef::undef::undef::undef::undef::undef::[]).toArray,[]⟩:Act)) [] [fun v X=>v = .pointer (some ⟨k.c,0,none⟩),fun v X=>v = .slice (some ⟨ab,ao,none⟩) (l.length+1) c,fun v X=>v = .slice (some ⟨ab,ao,none⟩) 1 c,fun v X=>v = .int .i64 (kk:Int),fun v X=>∃ z n1 c1 L,v = .agg #[.slice z n1 c1, .bool L]∧ValN X z n1 c1 L (forestT (treeN G) [s] kk),fun v X=>v = .pointer (some ⟨k.c,0,none⟩),fun v X=>v = .slice (some ⟨ab,ao,none⟩) (l.length+1) c,fun v X=>v = .slice At l.length (c - 1),fun v X=>v = .int .i64 (n:Int),fun v X=>v = .int .i64 (kk:Int),fun v X=>v = .int .i64 ((n - kk:Nat):Int),fun v X=>∃ z n1 c1 L,v = .agg #[.slice z n1 c1, .bool L]∧ValN X z n1 c1 L (forestT (treeN G) l (n - kk)),fun v X=>True,fun v X=>True,fun v X=>True,fun v X=>True] (l:=[_,_,_,_,_,_,_,_,_,_,_,_,_,_,_,_]) (by kernel_rfl) (by kernel_rfl) rfl HM.out ⟨fun _ _ _ h _=>h,fun _ _ _ h _=>h,fun _ _ _ h _=>h,fun _ _ _ h _=>h,(fun v X X' ⟨z,n1,c1,L,e,h⟩ hb=>⟨z,n1,c1,L,e,h.kept hb⟩),fun _ _ _ h _=>h,fun _ _ _ h _=>h,fun _ _ _ h _=>h,fun _ _ _ h _=>h,fun _ _ _ h _=>h,fun _ _ _ h _=>h,(fun v X X' ⟨z,n1,c1,L,e,h⟩ hb=>⟨z,n1,c1,L,e,h.kept hb⟩),fun _ _ _ h _=>h,fun _ _ _ h _=>h,fun _ _ _ h _=>h,fun _ _ _ h _=>h,trivial⟩ ?_ ?_
 · refine StepsG.cons rfl (fun _ _=>rfl) (fun Q g b u X f H a d K m=>?_) ?_
   · have t:=fun v=>a.idle 0 v (by decide)
     clear a f
     clear d
     go_simp
     exact m _ () _ ⟨Nat.le_refl _,fun _ _ _=>rfl⟩ (t _) (rfl)
   refine StepsG.cons rfl (fun _ _=>rfl) (fun Q g b u X f H a d K m=>?_) ?_
   · have t:=fun v=>a.idle 1 v (by decide)
     clear a f
     clear d
     go_simp
     exact m _ () _ ⟨Nat.le_refl _,fun _ _ _=>rfl⟩ (t _) (rfl)
   refine StepsG.cons rfl (fun _ _=>rfl) (fun Q g b u X f H a d K m=>?_) ?_
   · have p1:u 1=_:=(d 1 rfl).2
     have t:=fun v=>a.idle 2 v (by decide)
     clear a f
     clear d
     generalize u 1=x1 at *
     subst p1
     go_simp
     exact m _ () _ ⟨Nat.le_refl _,fun _ _ _=>rfl⟩ (t _) (rfl)
   refine StepsG.cons rfl (fun _ _=>rfl) (fun Q g b u X f H a d K m=>?_) ?_
   · have t:=fun v=>a.idle 3 v (by decide)
     clear a f
     clear d
     go_simp
     exact m _ () _ ⟨Nat.le_refl _,fun _ _ _=>rfl⟩ (t _) (rfl)
   refine StepsG.cons rfl (fun _ _=>rfl) (fun Q g b u X f H a d K m=>?_) ?_
   · have p0:u 0=_:=(d 0 rfl).2
     have p2:u 2=_:=(d 2 rfl).2
     have p3:u 3=_:=(d 3 rfl).2
     have ap:b 14=false:=Bool.eq_false_iff.2 fun h=>by have:=f 14 _ rfl h 4 rfl;rw [H] at this;cases this
     obtain ⟨S2,al,bb,bw⟩:=a.asked 4 (.inl ⟨rfl,ap⟩)
     have CC:Calls Tryz.prog 125 #[.pointer (some ⟨k.c,0,none⟩), .slice (some ⟨ab,ao,none⟩) 1 c, .int .i64 (kk:Int)] X _:=tr_bof HB.out K1.out H1.out S2 X _ _ al bb (cq.out.below al.base)
     clear a f
     clear d
     generalize u 0=x0 at *
     subst p0
     generalize u 2=x2 at *
     subst p2
     generalize u 3=x3 at *
     subst p3
     go_simp
     go_at_call 125
     (with_reducible refine CC.mono ?_)
     rintro e X' ⟨bv,a6,z,n1,c1,L,rfl,hv⟩
     go_simp
     exact m _ () _ (al.keep a6) (bw _ _ bv a6) ⟨z,n1,c1,L,rfl,hv⟩
   refine StepsG.cons rfl (fun _ _=>rfl) (fun Q g b u X f H a d K m=>?_) ?_
   · have t:=fun v=>a.idle 5 v (by decide)
     clear a f
     clear d
     go_simp
     exact m _ () _ ⟨Nat.le_refl _,fun _ _ _=>rfl⟩ (t _) (rfl)
   refine StepsG.cons rfl (fun _ _=>rfl) (fun Q g b u X f H a d K m=>?_) ?_
   · have t:=fun v=>a.idle 6 v (by decide)
     clear a f
     clear d
     go_simp
     exact m _ () _ ⟨Nat.le_refl _,fun _ _ _=>rfl⟩ (t _) (rfl)
   refine StepsG.cons rfl (fun _ _=>rfl) (fun Q g b u X f H a d K m=>?_) ?_
   · have p6:u 6=_:=(d 6 rfl).2
     have d3:(1:Int)≤(l.length:Int)+1:=by omega
     have t:=fun v=>a.idle 7 v (by decide)
     clear a f
     clear d
     generalize u 6=x6 at *
     subst p6
     go_simp
     exact m _ () _ ⟨Nat.le_refl _,fun _ _ _=>rfl⟩ (t _) (rfl)
   refine StepsG.cons rfl (fun _ _=>rfl) (fun Q g b u X f H a d K m=>?_) ?_
   · have t:=fun v=>a.idle 8 v (by decide)
     clear a f
     clear d
     go_simp
     exact m _ () _ ⟨Nat.le_refl _,fun _ _ _=>rfl⟩ (t _) (rfl)
   refine StepsG.cons rfl (fun _ _=>rfl) (fun Q g b u X f H a d K m=>?_) ?_
   · have t:=fun v=>a.idle 9 v (by decide)
     clear a f
     clear d
     go_simp
     exact m _ () _ ⟨Nat.le_refl _,fun _ _ _=>rfl⟩ (t _) (rfl)
   refine StepsG.cons rfl (fun _ _=>rfl) (fun Q g b u X f H a d K m=>?_) ?_
   · have p8:u 8=_:=(d 8 rfl).2
     have p9:u 9=_:=(d 9 rfl).2
     have hw:IntKind.i64.wrap ((n:Int) - (kk:Int))=((n - kk:Nat):Int):=by rw [IntWalk.i64_in _ (by omega)];omega
     have t:=fun v=>a.idle 10 v (by decide)
     clear a f
     clear d
     generalize u 8=x8 at *
     subst p8
     generalize u 9=x9 at *
     subst p9
     go_simp
     exact m _ () _ ⟨Nat.le_refl _,fun _ _ _=>rfl⟩ (t _) (by first | rfl | rw [hw])
   refine StepsG.cons rfl (fun _ _=>rfl) (fun Q g b u X f H a d K m=>?_) ?_
   · have p5:u 5=_:=(d 5 rfl).2
     have p7:u 7=_:=(d 7 rfl).2
     have dd:u 10=_:=(d 10 rfl).2
     have ap:b 15=false:=Bool.eq_false_iff.2 fun h=>by have:=f 15 _ rfl h 11 rfl;rw [H] at this;cases this
     obtain ⟨S2,al,bb,bw⟩:=a.asked 11 (.inr ⟨rfl,ap⟩)
     have CC:Calls Tryz.prog 125 #[.pointer (some ⟨k.c,0,none⟩), .slice At l.length (c - 1), .int .i64 ((n - kk:Nat):Int)] X _:=tr_bof HB.out K2.out H2.out S2 X _ _ al bb (cr.out.below al.base)
     clear a f
     clear d
     generalize u 5=x5 at *
     subst p5
     generalize u 7=x7 at *
     subst p7
     generalize u 10=fc at *
     subst dd
     go_simp
     go_at_call 125
     (with_reducible refine CC.mono ?_)
     rintro e X' ⟨bv,a6,z,n1,c1,L,rfl,hv⟩
     go_simp
     exact m _ () _ (al.keep a6) (bw _ _ bv a6) ⟨z,n1,c1,L,rfl,hv⟩
   refine StepsG.cons rfl (fun _ _=>rfl) (fun Q g b u X f H a d K m=>?_) ?_
   · have ap:b 14=false:=Bool.eq_false_iff.2 fun h=>by have:=f 14 _ rfl h 12 rfl;rw [H] at this;cases this
     have t:=a.made 12 (.inl ⟨rfl,ap⟩)
     clear a f
     clear d
     go_simp
     exact m _ () _ (.of_below (alloc_below _ _)) t trivial
   refine StepsG.cons rfl (fun _ _=>rfl) (fun Q g b u X f H a d K m=>?_) ?_
   · have ap:b 15=false:=Bool.eq_false_iff.2 fun h=>by have:=f 15 _ rfl h 13 rfl;rw [H] at this;cases this
     have t:=a.made 13 (.inr ⟨rfl,ap⟩)
     clear a f
     clear d
     go_simp
     exact m _ () _ (.of_below (alloc_below _ _)) t trivial
   refine StepsG.cons rfl (fun _ _=>rfl) (fun Q g b u X f H a d K m=>?_) ?_
   · obtain ⟨z,n1,c1,L,p4,hv⟩:=(d 4 rfl).2
     obtain ⟨gC,A0,n0,c0,d0,de,P,a8⟩:=a.wrote 14 12 4 (.inl ⟨rfl,rfl,rfl⟩) (d 12 rfl).1 p4 (Nat.le_refl _) b2
     clear d a f
     generalize u 12=fe at *
     subst de
     generalize u 4=x4 at *
     subst p4
     have y0:=P.cell 0
     have y1:=P.cell 1
     have y2:=P.frozen 0
     have y3:=P.frozen 1
     have y4:=P.lt
     clear P
     go_simp
     exact m undef () _ (a8 undef).2 (a8 undef).1 trivial
   refine StepsG.cons rfl (fun _ _=>rfl) (fun Q g b u X f H a d K m=>?_) ?_
   · obtain ⟨z,n1,c1,L,cl,hv⟩:=(d 11 rfl).2
     obtain ⟨gC,A0,n0,c0,d0,df,P,a8⟩:=a.wrote 15 13 11 (.inr ⟨rfl,rfl,rfl⟩) (d 13 rfl).1 cl (Nat.le_refl _) b2
     clear d a f
     generalize u 13=ff at *
     subst df
     generalize u 11=fd at *
     subst cl
     have y0:=P.cell 0
     have y1:=P.cell 1
     have y2:=P.frozen 0
     have y3:=P.frozen 1
     have y4:=P.lt
     clear P
     go_simp
     exact m undef () _ (a8 undef).2 (a8 undef).1 trivial
   exact StepsG.nil
 intro _ b u J a7 a hd
 obtain ⟨z,n1,c1,L,e4,b5⟩:=hd 4 (by decide)
 obtain ⟨A2,n2,c2,d2,bt,b6⟩:=hd 11 (by decide)
 obtain ⟨⟨S2,hC,b4,bb,cd,ce⟩,hO,hR,c7⟩:=a
 obtain ⟨g1,B1,m1,k1,q1,b9,c9,dn,X1,t1⟩:=cd (a7 12 (by decide))
 obtain ⟨g2,B2,m2,k2,q2,ca,da,dp,X2,t2⟩:=ce (a7 13 (by decide))
 have t1:=e4.symm.trans (t1 (a7 14 (by decide)))
 have t2:=bt.symm.trans (t2 (a7 15 (by decide)))
 injection t1 with t1
 injection t2 with t2
 simp only [Array.mk.injEq,List.cons.injEq,Value.slice.injEq,Value.bool.injEq,and_true] at t1 t2
 obtain ⟨⟨rfl,rfl,rfl⟩,rfl⟩:=t1
 obtain ⟨⟨rfl,rfl,rfl⟩,rfl⟩:=t2
 rw [e4,bt,b9,ca]
 clear c7 cd ce a7 hd HM e4 bt b9 ca
 clear t1 t2
 generalize u 0=z0 at *
 generalize u 1=z1 at *
 generalize u 2=z2 at *
 generalize u 3=z3 at *
 generalize u 5=z5 at *
 generalize u 6=z6 at *
 generalize u 7=z7 at *
 generalize u 8=z8 at *
 generalize u 9=z9 at *
 generalize u 10=fq at *
 clear u
 have bl:J.cell? ⟨g1,0,none⟩=some (.slice z n1 c1):=X1.cell 0
 have bm:J.cell? ⟨g1,1,none⟩=some (.bool L):=X1.cell 1
 have bn:J.cell? ⟨g2,0,none⟩=some (.slice A2 n2 c2):=X2.cell 0
 have bo:J.cell? ⟨g2,1,none⟩=some (.bool d2):=X2.cell 1
 have bp:=X1.lt
 have br:=X2.lt
 have r0:J.cell? ⟨w.heap.size,0,none⟩=some (.slice none 0 0):=hR.cell 0
 have r1:J.cell? ⟨w.heap.size,1,none⟩=some (.bool false):=hR.cell 1
 have f0:=hR.frozen 0
 have f1:=hR.frozen 1
 have l0:=hR.lt
 have HC:=LH hC
 have HO:=LH hO
 have HR:=LH hR
 have bc:=LH X1
 have bd:=LH X2
 have ae:=LH b5
 have af:=LH b6
 have cu:Hid (∀ q,S q→S2 q):=LH fun q R=>b4 q (.inl R)
 have ct:Hid (S2 w.heap.size):=LH (b4 _ (.inr rfl))
 have k1:=val_look b5
 have k2:=val_look b6
 clear hC hO hR X1 X2 b5 b6 b4 bb c9 da dn dp
 generalize forestT (treeN G) [s] kk=x at *
 generalize forestT (treeN G) l (n - kk)=y at *
 have ai:Hid (∀ (W:World) (A':Option Addr) (n' c':Nat) (b':Bool),Below J.heap.size J W→ValN W A' n' c' b' (x * y) →
  Blk ((W.setCell ⟨w.heap.size,0,none⟩ (.slice A' n' c')).setCell ⟨w.heap.size,1,none⟩ (.bool b')) w.heap.size 174 #[.slice A' n' c', .bool b']∧BkRet W0 k h G S w (x * y) (.returned (.agg #[.slice A' n' c', .bool b'])) ((W.setCell ⟨w.heap.size,0,none⟩ (.slice A' n' c')).setCell ⟨w.heap.size,1,none⟩ (.bool b'))):=LH fun W A' n' c' b' hb hv =>
  bk_store (S:=S) (HC.out.below hb) (HR.out.ext hb) hv (HO.out.map_trans (Off.of_below hb)) ct.out b2 (Nat.le_refl _) cu.out
 rcases k1 with ⟨rfl,rfl,rfl⟩ | ⟨O,d4,rfl⟩ | ⟨O,rfl,rfl⟩
 case inl =>
  clear k2
  have B:=LH (ai.out J none 0 0 false (Below.refl _ _) (by rw [Nat.zero_mul];exact ValN.zero J none 0 (by omega)))
  go_wp2_with fail
  refine bodyPost_ret (results_cell_row (p:=8) (by kernel_rfl) _ _ w.heap.size 174 #[.slice none 0 0, .bool false] (0,0) _ rfl B.out.1 Tryz.underlying174 rfl (by kernel_rfl)) rfl ?_
  exact B.out.2
 case inr.inl =>
  rcases k2 with ⟨rfl,rfl,rfl⟩ | ⟨hy,c6,rfl⟩ | ⟨hy,rfl,rfl⟩
  case inl =>
   have B:=LH (ai.out J none 0 0 false (Below.refl _ _) (by rw [Nat.mul_zero];exact ValN.zero J none 0 (by omega)))
   go_wp2_with fail
   refine bodyPost_ret (results_cell_row (p:=8) (by kernel_rfl) _ _ w.heap.size 174 #[.slice none 0 0, .bool false] (0,0) _ rfl B.out.1 Tryz.underlying174 rfl (by kernel_rfl)) rfl ?_
   exact B.out.2
  case inr.inl =>
   obtain ⟨zs,er,Z,I⟩:=pair_val O hy
   obtain ⟨U,R⟩:∃ U,((er:Int) != 0)=U:=⟨_,rfl⟩
   rw [R] at I
   have D:=nat_mul z _ c1 (capV x).1 A2 _ c2 (capV y).1 J ae.out.2 af.out.2 (capV_lim x) (capV_lim y)
   rw [Z] at D
   have V:=ae.out.1
   have Y:=af.out.1
   rw [← V,← Y] at I
   have D:=LH D
   have aj:=LH I
   clear Z I V Y
   go_wp2_with (first
    | (go_at_call 177
       (with_reducible refine D.out.mono ?_)
       rintro e T ⟨M,c3,rfl,N,r⟩
       simp only [] at N
       have B:=LH (ai.out T M zs.length c3 _ r (aj.out T M c3 N))
       have E:=bc.out.ext r
       have F:=bd.out.ext r
       have o:=HR.out.ext r
       have bl:=E.cell 0
       have bm:=E.cell 1
       have bn:=F.cell 0
       have bo:=F.cell 1
       have bp:=E.lt
       have br:=F.lt
       have r0:=o.cell 0
       have r1:=o.cell 1
       have f0:=o.frozen 0
       have f1:=o.frozen 1
       have l0:=o.lt
       clear r N E F o))
   refine bodyPost_ret (results_cell_row (p:=8) (by kernel_rfl) _ _ w.heap.size 174 #[.slice M zs.length c3, .bool _] (0,0) _ rfl B.out.1 Tryz.underlying174 rfl (by kernel_rfl)) rfl ?_
   exact B.out.2
  case inr.inr =>
   obtain ⟨zs,er,Z,I⟩:=pair_val O hy
   obtain ⟨U,R⟩:∃ U,((er:Int) != 0)=U:=⟨_,rfl⟩
   rw [R] at I
   have D:=nat_mul z _ c1 (capV x).1 A2 _ c2 (capV y).1 J ae.out.2 af.out.2 (capV_lim x) (capV_lim y)
   rw [Z] at D
   have V:=ae.out.1
   have Y:=af.out.1
   rw [← V,← Y] at I
   have D:=LH D
   have aj:=LH I
   clear Z I V Y
   go_wp2_with (first
    | (go_at_call 177
       (with_reducible refine D.out.mono ?_)
       rintro e T ⟨M,c3,rfl,N,r⟩
       simp only [] at N
       have B:=LH (ai.out T M zs.length c3 _ r (aj.out T M c3 N))
       have E:=bc.out.ext r
       have F:=bd.out.ext r
       have o:=HR.out.ext r
       have bl:=E.cell 0
       have bm:=E.cell 1
       have bn:=F.cell 0
       have bo:=F.cell 1
       have bp:=E.lt
       have br:=F.lt
       have r0:=o.cell 0
       have r1:=o.cell 1
       have f0:=o.frozen 0
       have f1:=o.frozen 1
       have l0:=o.lt
       clear r N E F o))
   refine bodyPost_ret (results_cell_row (p:=8) (by kernel_rfl) _ _ w.heap.size 174 #[.slice M zs.length c3, .bool _] (0,0) _ rfl B.out.1 Tryz.underlying174 rfl (by kernel_rfl)) rfl ?_
   exact B.out.2
 case inr.inr =>
  rcases k2 with ⟨rfl,rfl,rfl⟩ | ⟨hy,c6,rfl⟩ | ⟨hy,rfl,rfl⟩
  case inl =>
   have B:=LH (ai.out J none 0 0 false (Below.refl _ _) (by rw [Nat.mul_zero];exact ValN.zero J none 0 (by omega)))
   go_wp2_with fail
   refine bodyPost_ret (results_cell_row (p:=8) (by kernel_rfl) _ _ w.heap.size 174 #[.slice none 0 0, .bool false] (0,0) _ rfl B.out.1 Tryz.underlying174 rfl (by kernel_rfl)) rfl ?_
   exact B.out.2
  case inr.inl =>
   obtain ⟨zs,er,Z,I⟩:=pair_val O hy
   obtain ⟨U,R⟩:∃ U,((er:Int) != 0)=U:=⟨_,rfl⟩
   rw [R] at I
   have D:=nat_mul z _ c1 (capV x).1 A2 _ c2 (capV y).1 J ae.out.2 af.out.2 (capV_lim x) (capV_lim y)
   rw [Z] at D
   have V:=ae.out.1
   have Y:=af.out.1
   rw [← V,← Y] at I
   have D:=LH D
   have aj:=LH I
   clear Z I V Y
   go_wp2_with (first
    | (go_at_call 177
       (with_reducible refine D.out.mono ?_)
       rintro e T ⟨M,c3,rfl,N,r⟩
       simp only [] at N
       have B:=LH (ai.out T M zs.length c3 _ r (aj.out T M c3 N))
       have E:=bc.out.ext r
       have F:=bd.out.ext r
       have o:=HR.out.ext r
       have bl:=E.cell 0
       have bm:=E.cell 1
       have bn:=F.cell 0
       have bo:=F.cell 1
       have bp:=E.lt
       have br:=F.lt
       have r0:=o.cell 0
       have r1:=o.cell 1
       have f0:=o.frozen 0
       have f1:=o.frozen 1
       have l0:=o.lt
       clear r N E F o))
   refine bodyPost_ret (results_cell_row (p:=8) (by kernel_rfl) _ _ w.heap.size 174 #[.slice M zs.length c3, .bool _] (0,0) _ rfl B.out.1 Tryz.underlying174 rfl (by kernel_rfl)) rfl ?_
   exact B.out.2
  case inr.inr =>
   obtain ⟨zs,er,Z,I⟩:=pair_val O hy
   obtain ⟨U,R⟩:∃ U,((er:Int) != 0)=U:=⟨_,rfl⟩
   rw [R] at I
   have D:=nat_mul z _ c1 (capV x).1 A2 _ c2 (capV y).1 J ae.out.2 af.out.2 (capV_lim x) (capV_lim y)
   rw [Z] at D
   have V:=ae.out.1
   have Y:=af.out.1
   rw [← V,← Y] at I
   have D:=LH D
   have aj:=LH I
   clear Z I V Y
   go_wp2_with (first
    | (go_at_call 177
       (with_reducible refine D.out.mono ?_)
       rintro e T ⟨M,c3,rfl,N,r⟩
       simp only [] at N
       have B:=LH (ai.out T M zs.length c3 _ r (aj.out T M c3 N))
       have E:=bc.out.ext r
       have F:=bd.out.ext r
       have o:=HR.out.ext r
       have bl:=E.cell 0
       have bm:=E.cell 1
       have bn:=F.cell 0
       have bo:=F.cell 1
       have bp:=E.lt
       have br:=F.lt
       have r0:=o.cell 0
       have r1:=o.cell 1
       have f0:=o.frozen 0
       have f1:=o.frozen 1
       have l0:=o.lt
       clear r N E F o))
   refine bodyPost_ret (results_cell_row (p:=8) (by kernel_rfl) _ _ w.heap.size 174 #[.slice M zs.length c3, .bool _] (0,0) _ rfl B.out.1 Tryz.underlying174 rfl (by kernel_rfl)) rfl ?_
   exact B.out.2
end Go.Proofs.YtggbjdmpjidhgaaGreatDoor
