/- the cycles: the reference's, walked. -/
import Derived.Test.YtggbjdmpjidhgaaGreatDoorQCyW2
import Derived.Test.YtggbjdmpjidhgaaGreatDoorQPs8
set_option linter.unusedVariables false
set_option linter.unusedSimpArgs false
set_option maxHeartbeats 8000000
set_option maxRecDepth 100000
namespace Go.Proofs.YtggbjdmpjidhgaaGreatDoor
open Go.RowKit
theorem hasN_nat {s:Nat} (hs:s < 4294967296) (k:Nat):hasN s (k:Int)=s.testBit k:=by
 unfold hasN
 rw [Int.toNat_natCast]
 rcases Nat.lt_or_ge k 32 with h | h
 · rw [decide_eq_true (by omega),Bool.true_and]
 · rw [test_big s hs k h,Bool.and_false]
theorem ref_hasN (s k:Nat) (w:World) (hs:s < 4294967296):Calls Tryz.prog 62 #[.int .u32 (s:Int), .int .i64 (k:Int)] w fun e w'=>e = .returned (.bool (s.testBit k))∧w=w' :=
 (ref_has s k w hs).mono fun e w' h=>by rw [hasN_nat hs] at h;exact h
def cycG (G:Gr):Nat:=if G.right then cycS (stepsN G) else 0
theorem cycG_lt (G:Gr):cycG G < 4294967296:=by
 unfold cycG cycS
 split
 · exact setB_lt _ _
 · decide
theorem rf_Cycles (h:GH) (G:Gr) (w:World) (hg:GrAt w h G) (h1:h.n1≤100) (h2:h.n2≤100) (h3:h.n3≤100) :
 Calls Tryz.prog 28 #[GV h G.start] w fun e w'=>Below w.heap.size w w'∧e = .returned (.int .u32 ((cycG G:Nat):Int)):=by
 obtain ⟨a1,n1,c1,a2,n2,c2,a3,n3,c3⟩:=h
 have e2:G.nons.length=n2:=hg.nons.len
 have k2:=hg.nons.cap
 simp only [] at h1 h2 h3 k2
 have Hg:=LH hg
 have hB0:=alloc_below w (.cells #[.slice a1 n1 c1, .slice a2 n2 c2, .slice a3 n3 c3, .int .i64 G.start] 26)
 have hbox:=GBox.new w 26 ⟨a1,n1,c1,a2,n2,c2,a3,n3,c3⟩ G.start
 clear hg
 go_enter Tryz.func28,Tryz.ntmps28
 have ⟨z5,z0,z1,z2,z3⟩:=hbox
 simp only [] at z0 z1 z2 z3
 go_wp2_with fail
 generalize w.alloc (.cells #[.slice a1 n1 c1, .slice a2 n2 c2, .slice a3 n3 c3, .int .i64 G.start] 26)=W0 at *
 have Hbox:=LH hbox
 have HB0:=LH hB0
 (with_reducible refine (rf_Steps ⟨a1,n1,c1,a2,n2,c2,a3,n3,c3⟩ G W0 (Hg.out.below hB0) (by simp only [];omega) (by simp only [];omega) (by simp only [];omega)).mono ?_)
 rintro e W1 ⟨hb1,hres⟩
 have HB1:=LH (below_tail hB0 hb1)
 have Hb1:=LH hb1
 have hbx1:=hbox.below hb1
 clear z0 z1 z2 z3 z5 hbox hB0 hb1
 rcases hres with ⟨hrt,rfl⟩ | ⟨hrt,gS,hgS,rfl,hT⟩
 · have ⟨y5,y0,y1,y2,y3⟩:=hbx1
   simp only [] at y0 y1 y2 y3
   have Hz:Hid (cycG G=0):=LH (by unfold cycG;rw [hrt];rfl)
   clear hrt hbx1
   go_wp2_with fail
   go_loop [4] (fun i=>i = .int .i64 0) (fun i=>0)
   case atStart=>rfl
   case round =>
    subst hrel
    rcases Nat.eq_zero_or_pos n2 with rfl | hpos
    · go_wp2_with fail
      go_loop [7,8] (fun s i=>s = .int .u32 0∧i = .int .i64 0) (fun s i=>0)
      case atStart=>exact ⟨rfl,rfl⟩
      case round =>
       obtain ⟨rfl,rfl⟩:=hrel
       go_wp2_with fail
       go_ret
       exact ⟨HB1.out,by rw [Hz.out];rfl⟩
    · go_wp2_with fail
      go_loop [7,8] (fun s i=>s = .int .u32 0∧i = .int .i64 0) (fun s i=>0)
      case atStart=>exact ⟨rfl,rfl⟩
      case round =>
       obtain ⟨rfl,rfl⟩:=hrel
       go_wp2_with fail
       go_ret
       exact ⟨HB1.out,by rw [Hz.out];rfl⟩
 · have hfit:=Gr.fits hrt
   have Hn16:=hfit.n2.2
   have Hn1:=hfit.n2.1
   rw [e2] at Hn16 Hn1
   have hsl:(stepsN G).length=n2:=by rw [stepsN_len];exact e2
   have hss:=stepsN_small G
   have Hz:Hid (cycG G=cycS (stepsN G)):=LH (by unfold cycG;rw [hrt];rfl)
   have HT:=LH hT
   have HgS:=LH hgS
   have hg1:gS < W1.heap.size:=hT.lt
   generalize stepsN G=S at *
   subst hsl
   have hd1:decide (0 < S.length)=true:=by rw [decide_eq_true_iff];omega
   have hd2:decide ((0:Int) < (S.length:Int))=true:=by rw [decide_eq_true_iff];omega
   have Hss:=LH hss
   have Hfl:=LH (floyd_eq S)
   have hcs:=closeS_small hss
   have Hcs:=LH hcs
   have Hcl:=LH (closeS_len S)
   clear hfit hrt hT hgS hss hcs hbx1
   go_wp2_with fail
   go_loopw [4] (fun i wr=>∃ q:Nat,q≤S.length∧i = .int .i64 (q:Int)∧Hid (Below W0.heap.size W0 wr)∧Hid (SetT wr gS (iter (fwI S.length S.length) q S))) (fun i _=>S.length - (intOf i).toNat)
   case atStart=>exact ⟨0,Nat.zero_le _,rfl,Hb1,HT⟩
   case round =>
    obtain ⟨q,hq,rfl,HB,HT⟩:=hrel
    have hbx:=Hbox.out.below HB.out
    have ⟨y5,y0,y1,y2,y3⟩:=hbx
    simp only [] at y0 y1 y2 y3
    by_cases hqq:q < S.length
    case neg =>
     obtain rfl:q=S.length:=by omega
     rw [Hfl.out] at HT
     have hcS:cycS S=setB (fun i=>comesTo S i i) S.length:=rfl
     have HcS:=LH hcS
     clear hcS hbx
     go_wp2_with fail
     go_loop [7,8] (fun s i=>∃ j:Nat,j≤S.length∧i = .int .i64 (j:Int)∧s = .int .u32 ((setB (fun i=>comesTo S i i) j:Nat):Int)) (fun s i=>S.length - (intOf i).toNat)
     case atStart=>exact ⟨0,Nat.zero_le _,rfl,rfl⟩
     case round =>
      obtain ⟨j,hj,rfl,rfl⟩:=hrel
      by_cases hjj:j < S.length
      case neg =>
       obtain rfl:j=S.length:=by omega
       go_wp2_with fail
       go_ret
       exact ⟨below_tail HB0.out HB.out,by rw [Hz.out,HcS.out];rfl⟩
      case pos =>
       have hat:=HT.out.at (i:=j) (by rw [Hcl.out];exact hjj)
       have hlt:=Hcs.out.get j
       have cH:=ref_hasN ((closeS S).getD j 0) j wr hlt
       have hx:((closeS S).getD j 0).testBit j=comesTo S j j:=rfl
       have hsc:=setB_succ (fun i=>comesTo S i i) j
       have hsl:=setB_lt (fun i=>comesTo S i i) j
       have hor:=or32 (setB (fun i=>comesTo S i i) j) (bitN (j:Int)) hsl (bitN_lt _)
       have cB:=ref_bit (j:Int) wr
       rw [hx] at cH
       generalize (closeS S).getD j 0=v at *
       generalize comesTo S j j=b at *
       generalize setB (fun i=>comesTo S i i) j=s0 at *
       generalize bitN (j:Int)=bj at *
       have Hsc:=LH hsc
       have CH:=LH cH
       have CB:=LH cB
       clear hx hsc cH cB hlt
       cases b
       · go_wp2_with (go_at_call 62;(with_reducible refine CH.out.mono ?_);rintro e w' ⟨rfl,rfl⟩)
         go_round
         case rel=>exact ⟨j+1,by omega,by go_num,by rw [Hsc.out];rfl⟩
         case measure=>simp [intOf];omega
       · go_wp2_with (first
          | (go_at_call 62;(with_reducible refine CH.out.mono ?_);rintro e w' ⟨rfl,rfl⟩)
          | (go_at_call 63;(with_reducible refine CB.out.mono ?_);rintro e w' ⟨rfl,rfl⟩))
         go_round
         case rel=>exact ⟨j+1,by omega,by go_num,by rw [Hsc.out];rfl⟩
         case measure=>simp [intOf];omega
    case pos =>
     have Hnx:Hid (iter (fwI S.length S.length) (q+1) S=fwI S.length S.length (iter (fwI S.length S.length) q S)):=LH rfl
     have hcl:=iterFw_len S.length S.length S q
     have hcs:=iterFw_small S.length S.length Hss.out q
     generalize iter (fwI S.length S.length) q S=F at *
     have Hls:=LH hcl
     have Hsm:=LH hcs
     clear hcl hcs hbx
     go_wp2_with fail
     clear y0 y1 y2 y3 y5
     go_loopw [5] (fun i wz=>∃ j:Nat,j≤S.length∧i = .int .i64 (j:Int)∧Hid (Below W0.heap.size W0 wz)∧Hid (SetT wz gS (fwI S.length j F))) (fun i _=>S.length - (intOf i).toNat)
     case atStart=>exact ⟨0,Nat.zero_le _,rfl,HB,HT⟩
     case round =>
      obtain ⟨j,hj,rfl,HB,HT⟩:=hrel
      by_cases hjj:j < S.length
      case neg =>
       obtain rfl:j=S.length:=by omega
       go_wp2_with fail
       go_roundw
       case rel=>exact ⟨q+1,by omega,by go_num,HB,LH (by rw [Hnx.out];exact HT.out)⟩
       case measure=>simp [intOf];omega
      case pos =>
       have HnI:=LH (fwI_succ S.length j F)
       have hcl:=fwI_len S.length F j
       have hcs:=fwI_small S.length Hsm.out j
       rw [Hls.out] at hcl
       generalize fwI S.length j F=F1 at *
       have Hl1:=LH hcl
       have Hs1:=LH hcs
       clear hcl hcs
       go_wp2_with fail
       go_loopw [6] (fun i wz=>∃ k:Nat,k≤S.length∧i = .int .i64 (k:Int)∧Hid (Below W0.heap.size W0 wz)∧Hid (SetT wz gS (fwR j k F1))) (fun i _=>S.length - (intOf i).toNat)
       case atStart=>exact ⟨0,Nat.zero_le _,rfl,HB,HT⟩
       case round =>
        obtain ⟨k,hk,rfl,HB,HT⟩:=hrel
        by_cases hkk:k < S.length
        case neg =>
         obtain rfl:k=S.length:=by omega
         go_wp2_with fail
         go_roundw
         case rel=>exact ⟨j+1,by omega,by go_num,HB,LH (by rw [HnI.out];exact HT.out)⟩
         case measure=>simp [intOf];omega
        case pos =>
         have hsu:=fwR_succ j k F1
         have hcl:=fwR_len j F1 k
         have hcs:=fwR_small j Hs1.out k
         rw [Hl1.out] at hcl
         generalize fwR j k F1=F2 at *
         unfold fwK addAt at hsu
         have hat:=HT.out.at (i:=j) (by rw [hcl];exact hjj)
         have hak:=HT.out.at (i:=k) (by rw [hcl];exact hkk)
         have hfz:=Blk.frozen HT.out j
         have hgw:gS < wr.heap.size:=HT.out.lt
         have cH:=ref_hasN (F2.getD j 0) k wr (hcs.get j)
         have hor:=or32 (F2.getD j 0) (F2.getD k 0) (hcs.get j) (hcs.get k)
         have Hput:=LH fun x:Ext wr=>SetT.put (Blk.ext HT.out (bl_below wr x):SetT (bl wr x) gS F2) j (F2.getD j 0 ||| F2.getD k 0)
         have CH:=LH cH
         have bc:=bl_cell wr
         have bf:=bl_frozen wr
         generalize (F2.getD j 0).testBit k=b at *
         generalize F2.getD j 0 ||| F2.getD k 0=z at *
         generalize F2.getD j 0=vj at *
         generalize F2.getD k 0=vk at *
         have Hsu:=LH hsu
         clear hsu hcl hcs cH
         cases b
         · go_wp2_with (go_at_call 62;(with_reducible refine CH.out.mono ?_);rintro e w' ⟨rfl,rfl⟩)
           go_roundw
           case rel=>exact ⟨k+1,by omega,by go_num,HB,LH (by rw [Hsu.out];exact HT.out)⟩
           case measure=>simp [intOf];omega
         · go_wp2_with (go_at_call 62;(with_reducible refine CH.out.mono ?_);rintro e w' ⟨rfl,rfl⟩)
           refine wp_region_below_tail 12 (by kernel_rfl) (by kernel_rfl) ?_
           simp only [List.take_succ_cons,List.take_zero,List.drop_succ_cons,List.drop_zero]
           repeat (go_big_quiet_step (fail))
           refine wpQuiet_nil ?_
           rintro _ ⟨x,rfl⟩
           have hcx:=(bc x gS j hgw).trans hat
           have hfx:=(bf x gS j hgw).trans hfz
           have hsx:=bl_size wr x
           go_wp2_with fail
           go_roundw
           case rel=>exact ⟨k+1,by omega,by go_num,LH (below_set (below_tail HB.out (bl_below wr x)) _ _ _ HgS.out),LH (by rw [Hsu.out];exact Hput.out x)⟩
           case measure=>simp [intOf];omega
def useS (G:Gr):Nat:=setB (fun i=>(prodN G).getD i false && (reachN G).getD i false) G.nons.length
def useG (G:Gr):Nat:=if G.right then useS G else 0
theorem useG_lt (G:Gr):useG G < 4294967296:=by
 unfold useG useS
 split
 · exact setB_lt _ _
 · decide
def endG (G:Gr):Bool:=(cycG G &&& useG G) != 0
theorem bne_cast (z:Nat):((z:Int) != 0)=(z != 0):=by
 rw [Bool.eq_iff_iff,bne_iff_ne,bne_iff_ne]
 omega
theorem reachN_len (G:Gr):(reachN G).length=G.nons.length:=by
 unfold reachN
 have:∀ k,(iter (passI (reachI (prodN G)) G.rules) k (startN G)).length=(startN G).length:=fun k=>iterI_len _ _ _ k
 rw [this]
 unfold startN
 simp
theorem rf_useful (h:GH) (G:Gr) (w:World) (hg:GrAt w h G) (h1:h.n1≤100) (h2:h.n2≤100) (h3:h.n3≤100) :
 Calls Tryz.prog 67 #[GV h G.start] w fun e w'=>Below w.heap.size w w'∧e = .returned (.int .u32 ((useG G:Nat):Int)):=by
 obtain ⟨a1,n1,c1,a2,n2,c2,a3,n3,c3⟩:=h
 have e2:G.nons.length=n2:=hg.nons.len
 have k2:=hg.nons.cap
 simp only [] at h1 h2 h3 k2
 have Hg:=LH hg
 have hB0:=alloc_below w (.cells #[.slice a1 n1 c1, .slice a2 n2 c2, .slice a3 n3 c3, .int .i64 G.start] 26)
 have hbox:=GBox.new w 26 ⟨a1,n1,c1,a2,n2,c2,a3,n3,c3⟩ G.start
 clear hg
 go_enter Tryz.func67,Tryz.ntmps67
 have ⟨y5,y0,y1,y2,y3⟩:=hbox
 simp only [] at y0 y1 y2 y3
 go_upto_region 1 with fail
 generalize w.alloc (.cells #[.slice a1 n1 c1, .slice a2 n2 c2, .slice a3 n3 c3, .int .i64 G.start] 26)=W1 at *
 have HB1:=LH hB0
 have HG1:=LH (Hg.out.below hB0)
 clear hB0 hbox
 rcases hrt:G.right with _ | _
 · have Hrt:=LH hrt
   have CP:=LH fun x:Ext W1=>(rf_Productive ⟨a1,n1,c1,a2,n2,c2,a3,n3,c3⟩ G (bl W1 x) (HG1.out.below (bl_below W1 x)) (by simp only [];omega) (by simp only [];omega) (by simp only [];omega)).mono fun e w' hh=>And.intro (hh.2.resolve_right fun hc=>by rw [Hrt.out] at hc;cases hc.1).2 hh.1
   have CR:=LH fun x:Ext W1=>(rf_Reachable ⟨a1,n1,c1,a2,n2,c2,a3,n3,c3⟩ G (bl W1 x) (HG1.out.below (bl_below W1 x)) (by simp only [];omega) (by simp only [];omega) (by simp only [];omega)).mono fun e w' hh=>And.intro (hh.2.resolve_right fun hc=>by rw [Hrt.out] at hc;cases hc.1).2 hh.1
   have Hz:Hid (useG G=0):=LH (by unfold useG;rw [hrt];rfl)
   have bc:=bl_cell W1
   clear hrt
   refine wp_region_below (by kernel_rfl) (by kernel_rfl) ?_
   repeat (go_big_quiet_step (first
    | (go_at_call 109;with_reducible exact bl_of (CP.out _))
    | (go_at_call 110;with_reducible exact bl_of (CR.out _))))
   refine wpQuiet_nil ?_
   rintro _ ⟨x,rfl⟩
   have HBx:=LH (below_tail HB1.out (bl_below W1 x))
   generalize bl W1 x=W2 at *
   clear y0 y1 y2 y3 y5 bc
   go_wp2_with fail
   go_loop [5,6] (fun s i=>s = .int .u32 0∧i = .int .i64 0) (fun s i=>0)
   case atStart=>exact ⟨rfl,rfl⟩
   case round =>
    obtain ⟨rfl,rfl⟩:=hrel
    go_wp2_with fail
    go_ret
    exact ⟨HBx.out,by rw [Hz.out];rfl⟩
 · have hfit:=Gr.fits hrt
   have Hrt:=LH hrt
   have Hz:Hid (useG G=useS G):=LH (by unfold useG;rw [hrt];rfl)
   have CN:=LH fun X (hb:Below W1.heap.size W1 X)=>(rf_Productive ⟨a1,n1,c1,a2,n2,c2,a3,n3,c3⟩ G X (HG1.out.below hb) (by simp only [];omega) (by simp only [];omega) (by simp only [];omega)).mono fun e w' hh=>And.intro (below_tail hb hh.1) (And.intro (LH hh.1) (hh.2.resolve_left fun hc=>by rw [Hrt.out] at hc;cases hc.1).2)
   have CP:=LH fun X (hb:Below W1.heap.size W1 X)=>(rf_Reachable ⟨a1,n1,c1,a2,n2,c2,a3,n3,c3⟩ G X (HG1.out.below hb) (by simp only [];omega) (by simp only [];omega) (by simp only [];omega)).mono fun e w' hh=>And.intro (below_tail hb hh.1) (And.intro (LH hh.1) (hh.2.resolve_left fun hc=>by rw [Hrt.out] at hc;cases hc.1).2)
   have HS:Hid (∀ W',Below W1.heap.size W1 W'→W'.cell? ⟨w.heap.size,0,none⟩=some (.slice a1 n1 c1)∧W'.cell? ⟨w.heap.size,1,none⟩=some (.slice a2 n2 c2)∧W'.cell? ⟨w.heap.size,2,none⟩=some (.slice a3 n3 c3)∧W'.cell? ⟨w.heap.size,3,none⟩=some (.int .i64 G.start)∧Below W1.heap.size W1 W'):=LH fun W' hb=>⟨by rw [hb.cell (by exact y5)];exact y0,by rw [hb.cell (by exact y5)];exact y1,by rw [hb.cell (by exact y5)];exact y2,by rw [hb.cell (by exact y5)];exact y3,hb⟩
   clear hrt hfit
   go_region_held3 (fun W'=>W'.cell? ⟨w.heap.size,0,none⟩=some (.slice a1 n1 c1)∧W'.cell? ⟨w.heap.size,1,none⟩=some (.slice a2 n2 c2)∧W'.cell? ⟨w.heap.size,2,none⟩=some (.slice a3 n3 c3)∧W'.cell? ⟨w.heap.size,3,none⟩=some (.int .i64 G.start)∧Below W1.heap.size W1 W')
    ((refine HS.out _ ?_;(repeat (first | assumption | exact Below.refl _ _ | refine Below.drew ?_ | refine below_alloc ?_ _ | refine below_set ?_ _ _ _ (by (first | exact Nat.le_refl _ | exact Nat.le_succ _ | exact Below.size (by assumption) | exact Nat.le_succ_of_le (Below.size (by assumption)) | (simp;done) | omega))));done))
    (first
      | (go_at_call 109;refine (CN.out _ (by (repeat (first | assumption | exact Below.refl _ _ | refine Below.drew ?_ | refine below_alloc ?_ _ | refine below_set ?_ _ _ _ (by (first | exact Nat.le_refl _ | exact Nat.le_succ _ | exact Below.size (by assumption) | exact Nat.le_succ_of_le (Below.size (by assumption)) | (simp;done) | omega)))))).mono ?_;rintro e w2 ⟨hB2,Hb2,gN,hgN,rfl,HTN⟩)
      | (go_at_call 110;refine (CP.out _ (by (repeat (first | assumption | exact Below.refl _ _ | refine Below.drew ?_ | refine below_alloc ?_ _ | refine below_set ?_ _ _ _ (by (first | exact Nat.le_refl _ | exact Nat.le_succ _ | exact Below.size (by assumption) | exact Nat.le_succ_of_le (Below.size (by assumption)) | (simp;done) | omega)))))).mono ?_;rintro e w3 ⟨hB3,Hb3,gP,hgP,rfl,HTP⟩))
   have HN3:Hid (BoolT w3 gN (prodN G)):=LH (Blk.hidden HTN Hb3)
   have HP3:Hid (BoolT w3 gP (reachN G)):=LH HTP
   have HB3:=LH (below_tail HB1.out hB3)
   have Huse:Hid (useS G=setB (fun i=>(prodN G).getD i false && (reachN G).getD i false) n2):=LH (by unfold useS;rw [e2])
   have Hlp:Hid ((prodN G).length=n2):=LH (by rw [prodN_len];exact e2)
   have Hlr:Hid ((reachN G).length=n2):=LH (by rw [reachN_len];exact e2)
   clear hB2 Hb2 hgN HTN Hb3 hgP HTP hB3 CN CP HS y0 y1 y2 y3 y5
   go_wp2_with fail
   go_loop [5,6] (fun s i=>∃ j:Nat,j≤n2∧i = .int .i64 (j:Int)∧s = .int .u32 ((setB (fun i=>(prodN G).getD i false && (reachN G).getD i false) j:Nat):Int)) (fun s i=>n2 - (intOf i).toNat)
   case atStart=>exact ⟨0,Nat.zero_le _,rfl,rfl⟩
   case round =>
    obtain ⟨j,hj,rfl,rfl⟩:=hrel
    by_cases hjj:j < n2
    case neg =>
     obtain rfl:j=n2:=by omega
     go_wp2_with fail
     go_ret
     exact ⟨HB3.out,by rw [Hz.out,Huse.out];rfl⟩
    case pos =>
     have hap:=HN3.out.at (i:=j) (by rw [Hlp.out];exact hjj)
     have har:=HP3.out.at (i:=j) (by rw [Hlr.out];exact hjj)
     have hsc:=setB_succ (fun i=>(prodN G).getD i false && (reachN G).getD i false) j
     have hsl:=setB_lt (fun i=>(prodN G).getD i false && (reachN G).getD i false) j
     have hor:=or32 (setB (fun i=>(prodN G).getD i false && (reachN G).getD i false) j) (bitN (j:Int)) hsl (bitN_lt _)
     have cB:=ref_bit (j:Int) w3
     generalize setB (fun i=>(prodN G).getD i false && (reachN G).getD i false) j=s0 at *
     generalize (prodN G).getD j false=p at *
     generalize (reachN G).getD j false=q at *
     generalize bitN (j:Int)=bj at *
     have Hsc:=LH hsc
     have CB:=LH cB
     clear hsc cB
     cases p <;> cases q
     all_goals
      go_wp2_with (go_at_call 63;(with_reducible refine CB.out.mono ?_);rintro e w' ⟨rfl,rfl⟩)
      go_round
      case rel=>exact ⟨j+1,by omega,by go_num,by rw [Hsc.out];rfl⟩
      case measure=>simp [intOf];omega
theorem rf_Endless (h:GH) (G:Gr) (w:World) (hg:GrAt w h G) (h1:h.n1≤100) (h2:h.n2≤100) (h3:h.n3≤100) :
 Calls Tryz.prog 30 #[GV h G.start] w fun e w'=>Below w.heap.size w w'∧e = .returned (.bool (endG G)):=by
 obtain ⟨a1,n1,c1,a2,n2,c2,a3,n3,c3⟩:=h
 have Hg:=LH hg
 have hB0:=alloc_below w (.cells #[.slice a1 n1 c1, .slice a2 n2 c2, .slice a3 n3 c3, .int .i64 G.start] 26)
 have hbox:=GBox.new w 26 ⟨a1,n1,c1,a2,n2,c2,a3,n3,c3⟩ G.start
 clear hg
 go_enter Tryz.func30,Tryz.ntmps30
 have ⟨y5,y0,y1,y2,y3⟩:=hbox
 simp only [] at y0 y1 y2 y3
 go_upto_region 1 with fail
 generalize w.alloc (.cells #[.slice a1 n1 c1, .slice a2 n2 c2, .slice a3 n3 c3, .int .i64 G.start] 26)=W1 at *
 have HB1:=LH hB0
 have HG1:=LH (Hg.out.below hB0)
 clear hB0 hbox
 have CC:=LH fun x:Ext W1=>(rf_Cycles ⟨a1,n1,c1,a2,n2,c2,a3,n3,c3⟩ G (bl W1 x) (HG1.out.below (bl_below W1 x)) h1 h2 h3).mono fun e w' hh=>And.intro hh.2 hh.1
 have CU:=LH fun x:Ext W1=>(rf_useful ⟨a1,n1,c1,a2,n2,c2,a3,n3,c3⟩ G (bl W1 x) (HG1.out.below (bl_below W1 x)) h1 h2 h3).mono fun e w' hh=>And.intro hh.2 hh.1
 have hand:=and32 (cycG G) (useG G) (cycG_lt G) (useG_lt G)
 have he:endG G=((((cycG G &&& useG G:Nat):Int)) != 0):=by rw [bne_cast];rfl
 have He:=LH he
 generalize cycG G &&& useG G=z at *
 generalize cycG G=zc at *
 generalize useG G=zu at *
 have bc:=bl_cell W1
 clear h1 h2 h3 he
 refine wp_region_below (by kernel_rfl) (by kernel_rfl) ?_
 repeat (go_big_quiet_step (first
  | (go_at_call 28;with_reducible exact bl_of (CC.out _))
  | (go_at_call 67;with_reducible exact bl_of (CU.out _))))
 refine wpQuiet_nil ?_
 rintro _ ⟨x,rfl⟩
 have HBx:=LH (below_tail HB1.out (bl_below W1 x))
 generalize bl W1 x=W2 at *
 go_wp2_with fail
 go_ret
 exact ⟨HBx.out,by rw [He.out];rfl⟩
theorem steps_sub (Q:Nat→Nat→Prop) (N P:List Bool) (rs:List Rul) (hQ:∀ r ∈ rs,∀ k s,r.right[k]? = some s→standsR N P r.right k s=true→Q r.left.toNat (nonI s)) :
 ∀ (F:List Nat),(∀ i t,(F.getD i 0).testBit t=true→Q i t)→∀ i t,((passSt N P rs F).getD i 0).testBit t=true→Q i t:=by
 have hgrow:∀ (r:Rul),r ∈ rs→∀ (k:Nat) (F:List Nat),(∀ i t,(F.getD i 0).testBit t=true→Q i t)→∀ i t,((growSt N P r k F).getD i 0).testBit t=true→Q i t:=by
  intro r hr k F hF i t h
  unfold growSt at h
  split at h
  · exact hF i t h
  · rename_i s hs
    split at h
    · rename_i hst
      rw [addAt_get] at h
      split at h
      · rename_i he
        rw [Nat.testBit_or,Bool.or_eq_true] at h
        rcases h with h | h
        · rw [he.1];exact hF _ t h
        · have hq:=hQ r hr k s hs hst
          unfold standsR at hst
          simp only [Bool.and_eq_true,decide_eq_true_eq] at hst
          obtain ⟨j,hj⟩:∃ j:Nat,-1 - s=(j:Int):=⟨(-1 - s).toNat,by omega⟩
          rw [hj,bitN_test,Bool.and_eq_true,decide_eq_true_iff,decide_eq_true_iff] at h
          have hn:nonI s=t:=by unfold nonI;omega
          rw [he.1,← hn]
          exact hq
      · exact hF i t h
    · exact hF i t h
 have hpos:∀ (r:Rul),r ∈ rs→∀ (k:Nat) (F:List Nat),(∀ i t,(F.getD i 0).testBit t=true→Q i t)→∀ i t,((posSt N P r k F).getD i 0).testBit t=true→Q i t:=by
  intro r hr k F hF
  induction k with
  | zero=>exact hF
  | succ k ih=>rw [posSt_succ];exact hgrow r hr k _ ih
 have hpass:∀ (l:List Rul),(∀ r ∈ l,r ∈ rs)→∀ (F:List Nat),(∀ i t,(F.getD i 0).testBit t=true→Q i t)→∀ i t,((passSt N P l F).getD i 0).testBit t=true→Q i t:=by
  intro l
  induction l with
  | nil=>exact fun _ F hF=>hF
  | cons r l ih=>exact fun h F hF=>ih (fun r' hr'=>h r' (List.mem_cons_of_mem _ hr')) _ (hpos r (h r (List.mem_cons_self ..)) _ F hF)
 exact hpass rs fun _ h=>h
theorem passI_fixed (ids:Rul→List Bool→List Int):∀ (rs:List Rul) {N:List Bool},passI ids rs N=N→∀ r ∈ rs,setI N (ids r N)=N
 | [],N,h,r,hr=>by cases hr
 | q::rs,N,h,r,hr=>by
   have hq:growI ids q N=N:=Grows.anti (f:=growI ids q) (g:=passI ids rs) ⟨fun N=>((setI_le N (ids q N)).1).symm,fun N i h=>(setI_le N (ids q N)).2 i h⟩ (passI_grows ids rs) h
   rcases List.mem_cons.1 hr with rfl | hr
   · exact hq
   · refine passI_fixed ids rs ?_ r hr
     have:passI ids rs (growI ids q N)=N:=h
     rwa [hq] at this
theorem setI_has:∀ (l:List Int) {N:List Bool} {s:Int},s ∈ l→s.toNat < N.length→(setI N l).getD s.toNat false=true
 | q::l,N,s,hs,hl=>by
   rcases List.mem_cons.1 hs with rfl | hs
   · exact setI_getD l ((set_getD N s.toNat s.toNat).2 (.inr ⟨rfl,hl⟩))
   · exact setI_has l (N:=N.set q.toNat true) hs (by simpa using hl)
theorem useS_bit (G:Gr) (hG:G.Fits) (i:Nat):(useS G).testBit i=true ↔ (prodN G).getD i false=true∧(reachN G).getD i false=true:=by
 unfold useS
 rw [setB_bit]
 simp only [Bool.and_eq_true,decide_eq_true_eq]
 have:=hG.n2.2
 constructor
 · rintro ⟨_,_,h⟩;exact h
 · intro h
   have hl:i < G.nons.length:=by
    rcases Nat.lt_or_ge i G.nons.length with h' | h'
    · exact h'
    · have h1:=h.1
      rw [List.getD_eq_getElem?_getD,List.getElem?_eq_none (by rw [prodN_len];exact h')] at h1
      cases h1
   exact ⟨by omega,hl,h⟩
theorem use_closed (G:Gr) (hG:G.Fits):∀ i t,(useS G).testBit i=true→((stepsN G).getD i 0).testBit t=true→(useS G).testBit t=true:=by
 intro i t hi ht
 rw [useS_bit G hG] at hi ⊢
 have hfix:passI (reachI (prodN G)) G.rules (reachN G)=reachN G:=by
  have:=(passI_grows (reachI (prodN G)) G.rules).fix (startN G)
  have hl:(startN G).length=G.nons.length:=by unfold startN;simp
  rw [hl] at this
  exact this
 refine steps_sub (fun i t=>((prodN G).getD i false=true∧(reachN G).getD i false=true)→(prodN G).getD t false=true∧(reachN G).getD t false=true) (nullN G) (prodN G) G.rules (fun r hr k s hs hst hi=>?_) _ (fun i t h=>?_) i t ht hi
 · unfold standsR at hst
   simp only [Bool.and_eq_true,decide_eq_true_eq] at hst
   obtain ⟨⟨h0,_⟩,hmade⟩:=hst
   have hmem:=List.mem_of_getElem? hs
   have hsy:=hG.sym r hr s hmem
   refine ⟨?_,?_⟩
   · have hm:=hmade
     unfold allP at hm
     rw [List.all_eq_true] at hm
     have:=hm s hmem
     rwa [if_neg (by omega)] at this
   · have hin:=passI_fixed (reachI (prodN G)) G.rules hfix r hr
     have hgo:goesP (prodN G) r (reachN G)=true:=by unfold goesP;rw [hi.2,hmade];rfl
     have hids:reachI (prodN G) r (reachN G)=nonsI r.right:=by unfold reachI;rw [if_pos hgo]
     rw [hids] at hin
     have hmem2:-1 - s ∈ nonsI r.right:=by
      unfold nonsI
      rw [List.mem_map]
      exact ⟨s,List.mem_filter.2 ⟨hmem,by rw [decide_eq_true_iff];exact h0⟩,rfl⟩
     have:=setI_has (nonsI r.right) (N:=reachN G) hmem2 (by rw [reachN_len];omega)
     rw [hin] at this
     exact this
 · rw [List.getD_eq_getElem?_getD] at h
   rcases Nat.lt_or_ge i G.nons.length with hl | hl
   · simp [hl] at h
   · simp [List.getElem?_eq_none,hl] at h
theorem order_next (G:Gr) (hG:G.right=true) (he:endG G=false) {there:Nat} (hn:findB (pickB (stepsN G) (useS G) there) G.nons.length=none):andN (useS G) there=0:=by
 have hfit:=Gr.fits hG
 rw [← stepsN_len] at hn
 refine order_goes (use_closed G hfit) (fun i hi=>?_) (fun i hi=>?_) hn
 · rw [useS_bit G hfit] at hi
   rw [stepsN_len]
   rcases Nat.lt_or_ge i G.nons.length with h' | h'
   · exact h'
   · have h1:=hi.1
     rw [List.getD_eq_getElem?_getD,List.getElem?_eq_none (by rw [prodN_len];exact h')] at h1
     cases h1
 · cases hc:comesTo (stepsN G) i i
   · rfl
   · exfalso
     have h32:=bit_lt (setB_lt _ _) hi
     have hil:i < (stepsN G).length:=by
      unfold useS at hi
      rw [setB_bit] at hi
      simp only [Bool.and_eq_true,decide_eq_true_eq] at hi
      rw [stepsN_len]
      exact hi.2.1
     have hcy:(cycG G).testBit i=true:=by
      unfold cycG cycS
      rw [if_pos hG,setB_bit,hc]
      simp [h32,hil]
     have hu:(useG G).testBit i=true:=by
      unfold useG
      rw [if_pos hG]
      exact hi
     have hz:cycG G &&& useG G=0:=by
      unfold endG at he
      simpa using he
     have:=Nat.testBit_and (cycG G) (useG G) i
     rw [hz,hcy,hu,Nat.zero_testBit] at this
     cases this
theorem getD_lt {N:List Bool} {i:Nat} (h:N.getD i false=true):i < N.length:=by
 rcases Nat.lt_or_ge i N.length with h' | h'
 · exact h'
 · rw [List.getD_eq_getElem?_getD,List.getElem?_eq_none h'] at h
   cases h
theorem rep_false (n i:Nat):(List.replicate n false).getD i false=false:=by
 rw [List.getD_eq_getElem?_getD,List.getElem?_replicate]
 split <;> rfl
theorem passN_fixed (p:Rul→List Bool→Bool):∀ (rs:List Rul) {N:List Bool},passN p rs N=N→∀ r ∈ rs,growN p r N=N
 | [],N,h,r,hr=>by cases hr
 | q::rs,N,h,r,hr=>by
   have hq:growN p q N=N:=Grows.anti (f:=growN p q) (g:=passN p rs) (growN_grows p q) (passN_grows p rs) h
   rcases List.mem_cons.1 hr with rfl | hr
   · exact hq
   · refine passN_fixed p rs ?_ r hr
     have:passN p rs (growN p q N)=N:=h
     rwa [hq] at this
theorem grown_fix (b:Bool) (G:Gr):passN (bareP b) G.rules (grownN b G)=grownN b G:=by
 have:=(passN_grows (bareP b) G.rules).fix (List.replicate G.nons.length false)
 rw [List.length_replicate] at this
 exact this
theorem grown_closed {b:Bool} {G:Gr} {r:Rul} (hr:r ∈ G.rules) (hl:r.left.toNat < G.nons.length) (h:allP b (grownN b G) r.right=true):(grownN b G).getD r.left.toNat false=true:=by
 have hf:=passN_fixed (bareP b) G.rules (grown_fix b G) r hr
 unfold growN at hf
 rw [if_pos (show bareP b r (grownN b G)=true from h)] at hf
 rw [← hf]
 exact (set_getD _ _ _).2 (.inr ⟨rfl,by rw [grownN_len];exact hl⟩)
theorem passN_least {b:Bool} (X:Nat→Prop):∀ (rs:List Rul),(∀ r ∈ rs,(∀ s ∈ r.right,(0≤s→b=true)∧(s < 0→X (nonI s)))→X r.left.toNat) →
 ∀ {N:List Bool},(∀ i,N.getD i false=true→X i)→∀ i,(passN (bareP b) rs N).getD i false=true→X i
 | [],_,N,hN,i,h=>hN i h
 | r::rs,hX,N,hN,i,h=>by
   refine passN_least X rs (fun q hq=>hX q (List.mem_cons_of_mem _ hq)) (N:=growN (bareP b) r N) (fun j hj=>?_) i h
   unfold growN at hj
   split at hj
   · rename_i hc
     rcases (set_getD _ _ _).1 hj with hj | ⟨rfl,_⟩
     · exact hN j hj
     · refine hX r (List.mem_cons_self ..) fun s hs=>?_
       have h1:(if 0≤s then b else N.getD (nonI s) false)=true:=List.all_eq_true.1 hc s hs
       refine ⟨fun h0=>?_,fun h0=>?_⟩
       · rwa [if_pos h0] at h1
       · rw [if_neg (by omega)] at h1
         exact hN _ h1
   · exact hN j hj
theorem grown_least {b:Bool} {G:Gr} (X:Nat→Prop) (hX:∀ r ∈ G.rules,(∀ s ∈ r.right,(0≤s→b=true)∧(s < 0→X (nonI s)))→X r.left.toNat) {i:Nat} (h:(grownN b G).getD i false=true):X i:=by
 unfold grownN at h
 have key:∀ (k i:Nat),(iter (passN (bareP b) G.rules) k (List.replicate G.nons.length false)).getD i false=true→X i:=by
  intro k
  induction k with
  | zero=>intro i h;rw [iter,rep_false] at h;cases h
  | succ k ih=>intro i h;exact passN_least X G.rules hX ih i h
 exact key _ i h
theorem allP_iff {b:Bool} {N:List Bool} {ss:List Int}:allP b N ss=true ↔ ∀ s ∈ ss,(0≤s→b=true)∧(s < 0→N.getD (nonI s) false=true):=by
 unfold allP
 rw [List.all_eq_true]
 constructor
 · intro h s hs
   have:=h s hs
   refine ⟨fun h0=>by rwa [if_pos h0] at this,fun h0=>by rwa [if_neg (by omega)] at this⟩
 · intro h s hs
   split
   · rename_i h0;exact (h s hs).1 h0
   · rename_i h0;exact (h s hs).2 (by omega)
theorem reach_fix (G:Gr):passI (reachI (prodN G)) G.rules (reachN G)=reachN G:=by
 have:=(passI_grows (reachI (prodN G)) G.rules).fix (startN G)
 have hl:(startN G).length=G.nons.length:=by unfold startN;simp
 rw [hl] at this
 exact this
theorem reach_start {G:Gr} (hG:G.Fits):(reachN G).getD G.start.toNat false=true:=by
 have key:∀ (k:Nat),(iter (passI (reachI (prodN G)) G.rules) k (startN G)).getD G.start.toNat false=true:=by
  intro k
  induction k with
  | zero =>
    rw [iter]
    unfold startN
    exact (set_getD _ _ _).2 (.inr ⟨rfl,by rw [List.length_replicate];have:=hG.st;omega⟩)
  | succ k ih =>
    rw [iter]
    have h1:=(passI_grows (reachI (prodN G)) G.rules)
    have h2:=getD_lt ih
    generalize iter (passI (reachI (prodN G)) G.rules) k (startN G)=N at *
    have h3:N[G.start.toNat]? = some true:=by
     rw [List.getD_eq_getElem?_getD,List.getElem?_eq_getElem h2] at ih
     rw [List.getElem?_eq_getElem h2]
     exact congrArg some ih
    have:=h1.up N _ h3
    rw [List.getD_eq_getElem?_getD,this]
    rfl
 exact key _
theorem nonsI_mem {ss:List Int} {t:Int}:t ∈ nonsI ss ↔ ∃ s ∈ ss,s < 0∧-1 - s=t:=by
 unfold nonsI
 simp only [List.mem_map,List.mem_filter,decide_eq_true_eq]
 constructor
 · rintro ⟨s,⟨h1,h2⟩,h3⟩;exact ⟨s,h1,h2,h3⟩
 · rintro ⟨s,h1,h2,h3⟩;exact ⟨s,⟨h1,h2⟩,h3⟩
theorem reach_closed {G:Gr} (hG:G.Fits) {r:Rul} (hr:r ∈ G.rules) (hl:(reachN G).getD r.left.toNat false=true) (h:allP true (prodN G) r.right=true) {s:Int} (hs:s ∈ r.right) (h0:s < 0):(reachN G).getD (nonI s) false=true:=by
 have hin:=passI_fixed (reachI (prodN G)) G.rules (reach_fix G) r hr
 have hgo:goesP (prodN G) r (reachN G)=true:=by unfold goesP;rw [hl,h];rfl
 have hids:reachI (prodN G) r (reachN G)=nonsI r.right:=by unfold reachI;rw [if_pos hgo]
 rw [hids] at hin
 have hsy:=hG.sym r hr s hs
 have:=setI_has (nonsI r.right) (N:=reachN G) (nonsI_mem.2 ⟨s,hs,h0,rfl⟩) (by rw [reachN_len];omega)
 rw [hin] at this
 exact this
theorem setI_least (X:Nat→Prop):∀ (ids:List Int),(∀ t ∈ ids,X t.toNat)→∀ {N:List Bool},(∀ i,N.getD i false=true→X i)→∀ i,(setI N ids).getD i false=true→X i
 | [],_,N,hN,i,h=>hN i h
 | t::ids,hX,N,hN,i,h=>by
   refine setI_least X ids (fun q hq=>hX q (List.mem_cons_of_mem _ hq)) (N:=N.set t.toNat true) (fun j hj=>?_) i h
   rcases (set_getD _ _ _).1 hj with hj | ⟨rfl,_⟩
   · exact hN j hj
   · exact hX t (List.mem_cons_self ..)
theorem passR_least {P:List Bool} (X:Nat→Prop):∀ (rs:List Rul),(∀ r ∈ rs,X r.left.toNat→allP true P r.right=true→∀ s ∈ r.right,s < 0→X (nonI s)) →
 ∀ {N:List Bool},(∀ i,N.getD i false=true→X i)→∀ i,(passI (reachI P) rs N).getD i false=true→X i
 | [],_,N,hN,i,h=>hN i h
 | r::rs,hX,N,hN,i,h=>by
   refine passR_least X rs (fun q hq=>hX q (List.mem_cons_of_mem _ hq)) (N:=growI (reachI P) r N) (fun j hj=>?_) i h
   refine setI_least X _ (fun t ht=>?_) hN j hj
   unfold reachI at ht
   split at ht
   · rename_i hc
     unfold goesP at hc
     rw [Bool.and_eq_true] at hc
     obtain ⟨s,hs,h0,rfl⟩:=nonsI_mem.1 ht
     exact hX r (List.mem_cons_self ..) (hN _ hc.1) hc.2 s hs h0
   · cases ht
theorem reach_least {G:Gr} (X:Nat→Prop) (h0:X G.start.toNat) (hX:∀ r ∈ G.rules,X r.left.toNat→allP true (prodN G) r.right=true→∀ s ∈ r.right,s < 0→X (nonI s)) {i:Nat} (h:(reachN G).getD i false=true):X i:=by
 unfold reachN at h
 have key:∀ (k i:Nat),(iter (passI (reachI (prodN G)) G.rules) k (startN G)).getD i false=true→X i:=by
  intro k
  induction k with
  | zero =>
    intro i h
    rw [iter] at h
    unfold startN at h
    rcases (set_getD _ _ _).1 h with h | ⟨rfl,_⟩
    · rw [rep_false] at h;cases h
    · exact h0
  | succ k ih=>intro i h;exact passR_least X G.rules hX ih i h
 exact key _ i h
theorem growSt_up (N P:List Bool) (r:Rul) (k:Nat) {F:List Nat} {i t:Nat} (h:(F.getD i 0).testBit t=true):((growSt N P r k F).getD i 0).testBit t=true:=by
 unfold growSt
 split
 · exact h
 · split
   · rw [addAt_get]
     split
     · rename_i he
       rw [Nat.testBit_or,← he.1,h];rfl
     · exact h
   · exact h
theorem posSt_up (N P:List Bool) (r:Rul) {F:List Nat} {i t:Nat} (h:(F.getD i 0).testBit t=true):∀ k,((posSt N P r k F).getD i 0).testBit t=true
 | 0=>h
 | k+1=>by rw [posSt_succ];exact growSt_up N P r k (posSt_up N P r h k)
theorem passSt_up (N P:List Bool):∀ (rs:List Rul) {F:List Nat} {i t:Nat},(F.getD i 0).testBit t=true→((passSt N P rs F).getD i 0).testBit t=true
 | [],F,i,t,h=>h
 | r::rs,F,i,t,h=>passSt_up N P rs (posSt_up N P r h _)
theorem posSt_has {N P:List Bool} {r:Rul} {F:List Nat} {k:Nat} {s:Int} (hs:r.right[k]? = some s) (hst:standsR N P r.right k s=true) (hl:r.left.toNat < F.length) (h0:s < 0) (h32:nonI s < 32) :
 ∀ m,k < m→((posSt N P r m F).getD r.left.toNat 0).testBit (nonI s)=true
 | 0,h=>by omega
 | m+1,h=>by
   rw [posSt_succ]
   by_cases hk:k=m
   · subst hk
     unfold growSt
     rw [hs]
     simp only []
     rw [if_pos hst,addAt_get,if_pos ⟨rfl,by rw [posSt_len];exact hl⟩,Nat.testBit_or]
     rw [show (-1 - s)=((nonI s:Nat):Int) by unfold nonI;omega,bitN_test]
     simp [h32]
   · exact growSt_up N P r m (posSt_has hs hst hl h0 h32 m (by omega))
theorem passSt_has {N P:List Bool} {r:Rul} {k:Nat} {s:Int} (hs:r.right[k]? = some s) (hst:standsR N P r.right k s=true) (h0:s < 0) (h32:nonI s < 32) :
 ∀ (rs:List Rul) {F:List Nat},r ∈ rs→r.left.toNat < F.length→((passSt N P rs F).getD r.left.toNat 0).testBit (nonI s)=true
 | q::rs,F,hr,hl=>by
   rcases List.mem_cons.1 hr with rfl | hr
   · exact passSt_up N P rs (posSt_has hs hst hl h0 h32 _ (List.getElem?_eq_some_iff.1 hs).1)
   · exact passSt_has hs hst h0 h32 rs hr (by rw [posSt_len];exact hl)
theorem steps_mem {G:Gr} (hG:G.Fits) {i t:Nat}:((stepsN G).getD i 0).testBit t=true ↔ ∃ r ∈ G.rules,∃ k s,r.right[k]? = some s∧standsR (nullN G) (prodN G) r.right k s=true∧r.left.toNat=i∧nonI s=t:=by
 constructor
 · intro h
   refine steps_sub (fun i t=>∃ r ∈ G.rules,∃ k s,r.right[k]? = some s∧standsR (nullN G) (prodN G) r.right k s=true∧r.left.toNat=i∧nonI s=t) (nullN G) (prodN G) G.rules (fun r hr k s hs hst=>⟨r,hr,k,s,hs,hst,rfl,rfl⟩) _ (fun i t h=>?_) i t h
   rw [List.getD_eq_getElem?_getD] at h
   rcases Nat.lt_or_ge i G.nons.length with hl | hl
   · simp [hl] at h
   · simp [List.getElem?_eq_none,hl] at h
 · rintro ⟨r,hr,k,s,hs,hst,rfl,rfl⟩
   have h0:s < 0:=by
    unfold standsR at hst
    simp only [Bool.and_eq_true,decide_eq_true_eq] at hst
    exact hst.1.1
   have hsy:=hG.sym r hr s (List.mem_of_getElem? hs)
   have hn:=hG.n2
   have hl:=hG.left r hr
   exact passSt_has hs hst h0 (by unfold nonI;omega) G.rules hr (by rw [List.length_replicate];omega)
theorem snoc_ind {α:Type} {M:List α→Prop} (h0:M []) (h1:∀ l x,M l→M (l++[x])) (l:List α):M l:=by
 have key:∀ q:List α,M q.reverse:=by
  intro q
  induction q with
  | nil=>exact h0
  | cons x q ih=>rw [List.reverse_cons];exact h1 _ x ih
 have:=key l.reverse
 rwa [List.reverse_reverse] at this
theorem nodup_le:∀ (n:Nat) (l:List Nat),l.Nodup→(∀ i ∈ l,i < n)→l.length≤n
 | 0,l,_,h=>by
   cases l with
   | nil=>simp
   | cons x l=>exact absurd (h x (List.mem_cons_self ..)) (by omega)
 | n+1,l,hn,h=>by
   by_cases hm:n ∈ l
   · have:=nodup_le n (l.erase n) (hn.erase n) fun i hi=>by
      rw [hn.mem_erase_iff] at hi
      have:=h i hi.2
      omega
     rw [List.length_erase_of_mem hm] at this
     omega
   · have:=nodup_le n l hn fun i hi=>by
      have:=h i hi
      have:i ≠ n:=fun he=>hm (he ▸ hi)
      omega
     omega
def putO (o:List Nat) (i:Nat):List Nat:=if i ∈ o then o else o++[i]
def oldOf (rs:List Rul):List Nat:=rs.foldl (fun o r=>putO o r.left.toNat) []
theorem oldOf_snoc (rs:List Rul) (r:Rul):oldOf (rs++[r])=putO (oldOf rs) r.left.toNat:=by simp [oldOf]
def toI (o:List Nat) (i:Nat):Int:=findI (fun x=>decide (x=i)) o
theorem oldOf_mem {rs:List Rul} {i:Nat}:i ∈ oldOf rs ↔ ∃ r ∈ rs,r.left.toNat=i:=by
 induction rs using snoc_ind with
 | h0=>simp [oldOf]
 | h1 rs r ih =>
   rw [oldOf_snoc]
   unfold putO
   simp only [List.mem_append,List.mem_singleton]
   split
   · rename_i h
     rw [ih]
     constructor
     · rintro ⟨q,hq,rfl⟩;exact ⟨q, .inl hq,rfl⟩
     · rintro ⟨q,hq | rfl,rfl⟩
       · exact ⟨q,hq,rfl⟩
       · exact ih.1 h
   · rw [List.mem_append,ih,List.mem_singleton]
     constructor
     · rintro (⟨q,hq,rfl⟩ | rfl)
       · exact ⟨q, .inl hq,rfl⟩
       · exact ⟨r, .inr rfl,rfl⟩
     · rintro ⟨q,hq | rfl,rfl⟩
       · exact .inl ⟨q,hq,rfl⟩
       · exact .inr rfl
theorem putO_nodup {o:List Nat} (h:o.Nodup) (i:Nat):(putO o i).Nodup:=by
 unfold putO
 split
 · exact h
 · rename_i hi
   rw [List.nodup_append]
   refine ⟨h,by simp,fun a ha b hb=>?_⟩
   rw [List.mem_singleton] at hb
   subst hb
   rintro rfl
   exact hi ha
theorem oldOf_nodup (rs:List Rul):(oldOf rs).Nodup:=by
 induction rs using snoc_ind with
 | h0=>simp [oldOf]
 | h1 rs r ih=>rw [oldOf_snoc];exact putO_nodup ih _
theorem toI_get {o:List Nat} (hn:o.Nodup) {k i:Nat} (h:o[k]? = some i):toI o i=(k:Int):=by
 unfold toI
 refine findI_at h (by simp) fun j hj y hy=>?_
 rw [decide_eq_false_iff_not]
 rintro rfl
 have h1:=(List.getElem?_eq_some_iff.1 h)
 have h2:=(List.getElem?_eq_some_iff.1 hy)
 have:=List.pairwise_iff_getElem.1 hn j k h2.1 h1.1 hj
 exact this (h2.2.trans h1.2.symm)
theorem toI_mem {o:List Nat} (hn:o.Nodup) {i:Nat} (h:i ∈ o):∃ k,k < o.length∧o[k]? = some i∧toI o i=(k:Int):=by
 obtain ⟨k,hk⟩:=List.getElem?_of_mem h
 exact ⟨k,(List.getElem?_eq_some_iff.1 hk).1,hk,toI_get hn hk⟩
theorem toI_none {o:List Nat} {i:Nat} (h:i ∉ o):toI o i=-1:=by
 unfold toI
 refine findI_none fun j y hy=>?_
 rw [decide_eq_false_iff_not]
 rintro rfl
 exact h (List.mem_of_getElem? hy)
theorem toI_neg {o:List Nat} {i:Nat}:toI o i < 0 ↔ i ∉ o:=by
 constructor
 · intro h hi
   obtain ⟨k,hk⟩:=List.getElem?_of_mem hi
   have:=findI_neg (p:=fun x=>decide (x=i)) h k i hk
   simp at this
 · intro h;rw [toI_none h];decide
theorem toI_lt (o:List Nat) (i:Nat):-1≤toI o i∧toI o i < o.length:=findI_lo _ o
theorem toI_app {o:List Nat} {i:Nat} (hn:(o++[i]).Nodup):toI (o++[i]) i=(o.length:Int):=toI_get hn (by simp)
theorem toI_app_ne (o:List Nat) {i j:Nat} (hij:j ≠ i):toI (o++[i]) j=toI o j:=by
 by_cases hj:j ∈ o
 · unfold toI
   obtain ⟨k,hk⟩:∃ k:Nat,findI (fun x=>decide (x=j)) o=(k:Int):=by
    have h1:=toI_lt o j
    have h2:¬ toI o j < 0:=fun h=>toI_neg.1 h hj
    unfold toI at h1 h2
    exact ⟨(findI (fun x=>decide (x=j)) o).toNat,by omega⟩
   obtain ⟨x,hx,hp,hb⟩:=findI_pos hk
   rw [hk]
   have hlt:=(List.getElem?_eq_some_iff.1 hx).1
   refine findI_at (x:=x) (by rw [List.getElem?_append_left hlt];exact hx) hp fun q hq y hy=>?_
   rw [List.getElem?_append_left (by omega)] at hy
   exact hb q hq y hy
 · rw [toI_none hj,toI_none]
   rw [List.mem_append,List.mem_singleton]
   rintro (h | h)
   · exact hj h
   · exact hij h
def useB (G:Gr) (i:Nat):Prop:=(prodN G).getD i false=true∧(reachN G).getD i false=true
def keepB (P Q:List Bool) (r:Rul):Bool:=Q.getD r.left.toNat false && allP true P r.right
def keptR (G:Gr):List Rul:=G.rules.filter (keepB (prodN G) (reachN G))
def oldN (G:Gr):List Nat:=oldOf (keptR G)
def redS (o:List Nat) (s:Int):Int:=if s < 0 then -1 - toI o (nonI s) else s
def redR (o:List Nat) (r:Rul):Rul:=⟨toI o r.left.toNat,r.right.map (redS o),r.prec⟩
def nameO (G:Gr) (i:Nat):ByteArray:=(G.nons[i]?).getD ByteArray.empty
def redG (G:Gr):Gr:=⟨G.terms,(oldN G).map (nameO G),(keptR G).map (redR (oldN G)),toI (oldN G) G.start.toNat⟩
theorem kept_mem {G:Gr} {r:Rul}:r ∈ keptR G ↔ r ∈ G.rules∧(reachN G).getD r.left.toNat false=true∧allP true (prodN G) r.right=true:=by
 unfold keptR keepB
 rw [List.mem_filter,Bool.and_eq_true]
theorem prod_rule {G:Gr} {i:Nat} (hG:G.Fits) (h:(prodN G).getD i false=true):∃ r ∈ G.rules,r.left.toNat=i∧allP true (prodN G) r.right=true:=by
 have:=grown_least (b:=true) (G:=G) (fun i=>(prodN G).getD i false=true∧∃ r ∈ G.rules,r.left.toNat=i∧allP true (prodN G) r.right=true) (fun r hr hX=>?_) h
 · exact this.2
 · have ha:allP true (prodN G) r.right=true:=allP_iff.2 fun s hs=>⟨(hX s hs).1,fun h0=>((hX s hs).2 h0).1⟩
   refine ⟨grown_closed (b:=true) hr ?_ ha,r,hr,rfl,ha⟩
   have:=hG.left r hr
   omega
theorem old_mem {G:Gr} (hG:G.Fits) {i:Nat}:i ∈ oldN G ↔ useB G i:=by
 unfold oldN
 rw [oldOf_mem]
 constructor
 · rintro ⟨r,hr,rfl⟩
   obtain ⟨h1,h2,h3⟩:=kept_mem.1 hr
   refine ⟨grown_closed (b:=true) h1 ?_ h3,h2⟩
   have:=hG.left r h1
   omega
 · rintro ⟨hp,hq⟩
   obtain ⟨r,hr,rfl,ha⟩:=prod_rule hG hp
   exact ⟨r,kept_mem.2 ⟨hr,hq,ha⟩,rfl⟩
theorem use_lt {G:Gr} {i:Nat} (h:useB G i):i < G.nons.length:=by
 have:=getD_lt h.1
 rwa [prodN_len] at this
theorem kept_left {G:Gr} {r:Rul} (hr:r ∈ keptR G):r.left.toNat ∈ oldN G:=oldOf_mem.2 ⟨r,hr,rfl⟩
theorem kept_sym {G:Gr} (hG:G.Fits) {r:Rul} (hr:r ∈ keptR G) {s:Int} (hs:s ∈ r.right) (h0:s < 0):nonI s ∈ oldN G:=by
 obtain ⟨h1,h2,h3⟩:=kept_mem.1 hr
 rw [old_mem hG]
 exact ⟨(allP_iff.1 h3 s hs).2 h0,reach_closed hG h1 h2 h3 hs h0⟩
theorem old_nodup (G:Gr):(oldN G).Nodup:=oldOf_nodup _
theorem old_len {G:Gr} (hG:G.Fits):(oldN G).length≤G.nons.length:=by
 exact nodup_le _ _ (old_nodup G) fun i hi=>use_lt ((old_mem hG).1 hi)
theorem redS_neg {o:List Nat} (s:Int) (h:s < 0→nonI s ∈ o):redS o s < 0 ↔ s < 0:=by
 unfold redS
 split
 · rename_i h0
   have:=h h0
   have h2:¬ toI o (nonI s) < 0:=fun hn=>toI_neg.1 hn this
   omega
 · rfl
theorem redS_non {o:List Nat} {s:Int} (h0:s < 0) (h:nonI s ∈ o):(nonI (redS o s):Int)=toI o (nonI s):=by
 have h2:¬ toI o (nonI s) < 0:=fun hn=>toI_neg.1 hn h
 show (((-1 - redS o s).toNat:Nat):Int)=_
 unfold redS
 rw [if_pos h0]
 omega
end Go.Proofs.YtggbjdmpjidhgaaGreatDoor
