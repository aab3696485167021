/- counts: the reference's forests, walked. -/
import Derived.Test.YtggbjdmpjidhgaaGreatDoorQCtR4
import Derived.Test.YtggbjdmpjidhgaaGreatDoorQCtP4
import Derived.Test.YtggbjdmpjidhgaaGreatDoorQInvF
set_option linter.unusedVariables false
set_option linter.unusedSimpArgs false
set_option maxHeartbeats 8000000
set_option maxRecDepth 100000
namespace Go.Proofs.YtggbjdmpjidhgaaGreatDoor
open Go.RowKit
theorem rf_Forest (A:Option Addr) (n c N:Nat) (tab:Nat→Nat→Nat) (Al:Option Addr) (cl:Nat) (l:List Int) (m:Nat) (w:World) (hT:TabM w A n c N tab) (hm:m < n) (hm2:m≤100) (hN:N≤1000)
 (hl:Ints .i64 w Al l.length cl l) (hlen:l.length≤100) (hs:∀ s ∈ l,-(N:Int)≤s∧s≤1000) :
 Calls Tryz.prog 53 #[.slice A n c, .slice Al l.length cl, .int .i64 (m:Int)] w (RetV w (forestT (tabT tab) l m)):=by
 have hcap:=hl.cap
 have HT:=Lib.hid hT
 have Hl:=Lib.hid hl
 have Hs:=Lib.hid hs
 clear hT hl hs
 have hB1:=alloc_below w (.cells #[.slice none 0 0, .bool false] 46)
 have hX1:=Blk.new w 46 #[.slice none 0 0, .bool false]
 have e1:(w.alloc (.cells #[.slice none 0 0, .bool false] 46)).heap.size=w.heap.size+1:=alloc_size _ _
 have hmk:=make_vals (m+1) (by omega)
 have hw1:IntKind.i64.wrap ((m:Int)+1)=(m:Int)+1:=IntWalk.i64_in _ (by omega)
 rw [show ((m+1:Nat):Int)=(m:Int)+1 from rfl] at hmk
 go_enter Tryz.func53,Tryz.ntmps53
 go_upto_region 1 with fail
 generalize w.alloc (.cells #[.slice none 0 0, .bool false] 46)=W1 at *
 go_upto_region 2 with fail
 have hR:=VRow.new W1 46 (m+1)
 have hB2:=alloc_below W1 (.cells (zeroCells (m+1)) 46)
 have hX2:=Blk.ext hX1 hB2
 have hB12:=below_tail hB1 hB2
 generalize W1.alloc (.cells (zeroCells (m+1)) 46)=W2 at *
 rw [e1] at hR
 clear hX1 hB1 hB2
 go_wp2_with fail
 (with_reducible refine (rf_one22 W2).mono ?_)
 rintro e W3 ⟨hb3,A3,m3,c3,b3,rfl,hv3⟩
 have hR3:=hR.below hb3
 have hX3:=Blk.ext hX2 hb3
 have hB3:=below_tail hB12 hb3
 obtain ⟨Az,nz,cz,bz,q0,q1,_⟩:=hR3.get (j:=0) (by simp)
 rw [Nat.zero_mul] at q0 q1
 rw [Nat.zero_add] at q1
 have fz0:=hR3.frozen 0
 have fz1:=hR3.frozen 1
 have hlz:=hR3.lt
 obtain ⟨hRow0,hK0⟩:=hR3.put (j:=0) (by simp) hv3
 rw [Nat.zero_mul,Nat.zero_add] at hRow0 hK0
 have hO:=(Off.of_set W3 (w.heap.size+1) 0 (.slice A3 m3 c3)).trans (Off.of_set _ (w.heap.size+1) 1 (.bool b3)) fun _ _ h=>h
 have hX4:=hO.blk hX3 (by omega)
 have hB4:Below w.heap.size w _:=hB3.trans (hO.is_below hB3.size fun k hk=>by omega)
 have hRow:VRow ((W3.setCell ⟨w.heap.size+1,0,none⟩ (.slice A3 m3 c3)).setCell ⟨w.heap.size+1,1,none⟩ (.bool b3)) (w.heap.size+1) 46 (forR (tabT tab) (l.drop l.length) m):=by rw [List.drop_length,forR_nil];exact hRow0
 clear hR hX2 hB12 hb3 hR3 hX3 hB3 hv3 hK0 hRow0 hmk e1
 go_upto_region 3 with fail
 generalize (W3.setCell ⟨w.heap.size+1,0,none⟩ (.slice A3 m3 c3)).setCell ⟨w.heap.size+1,1,none⟩ (.bool b3)=W4 at *
 have HRow:=Lib.hid hRow
 have HX4:=Lib.hid hX4
 have HB4:=Lib.hid hB4
 have hwl:IntKind.i64.wrap ((l.length:Int) - 1)=(l.length:Int) - 1:=IntWalk.i64_in _ (by omega)
 clear hRow hX4 hB4 hO q0 q1 fz0 fz1 hlz
 go_wp2_with fail
 go_loopw [7,8] (fun v i wr=>∃ (q gN:Nat),q≤l.length∧i = .int .i64 ((q:Int) - 1)∧v = .slice (some ⟨gN,0,none⟩) (m+1) (m+1)∧w.heap.size < gN∧Hid (VRow wr gN 46 (forR (tabT tab) (l.drop q) m))∧Hid (Below w.heap.size w wr)∧Hid (Blk wr w.heap.size 46 #[.slice none 0 0, .bool false])) (fun _ i _=>(intOf i+1).toNat)
 case atStart=>exact ⟨l.length,w.heap.size+1,Nat.le_refl _,rfl,rfl,Nat.lt_succ_self _,HRow,HB4,HX4⟩
 case round =>
  obtain ⟨q,gN,hq,rfl,rfl,hgN,HR,HB,HX⟩:=hrel
  by_cases hq0:q=0
  case pos =>
   subst hq0
   have hn:¬ (((0:Nat):Int) - 1 ≥ 0):=by omega
   obtain ⟨A5,m5,c5,b5,q0,q1,hv5⟩:=HR.out.get (j:=m) (by rw [forR_len];omega)
   rw [List.drop_zero,forR_get _ _ (Nat.le_refl m)] at hv5
   have x0:wr.cell? ⟨w.heap.size,0,none⟩=some (.slice none 0 0):=HX.out.cell 0
   have x1:wr.cell? ⟨w.heap.size,1,none⟩=some (.bool false):=HX.out.cell 1
   have f0:=HX.out.frozen 0
   have f1:=HX.out.frozen 1
   have xl:=HX.out.lt
   have gl:=HR.out.lt
   have Hv5:=Lib.hid hv5
   have Hend:=Lib.hid (valcell_end HX.out HB.out (Nat.le_refl _) A5 m5 c5 b5)
   clear hv5
   go_wp2_with fail
   refine bodyPost_ret (results_cell_row (p:=6) (by kernel_rfl) _ _ w.heap.size 46 #[.slice A5 m5 c5, .bool b5] (0,0) _ rfl Hend.out.2.1 Tryz.underlying46 rfl (by kernel_rfl)) rfl ?_
   exact ⟨Hend.out.1,_,_,_,_,rfl,Hv5.out.kept Hend.out.2.2⟩
  case neg =>
   obtain ⟨q',rfl⟩:∃ q',q=q'+1:=⟨q - 1,by omega⟩
   have hi:((q'+1:Nat):Int) - 1=(q':Int):=by omega
   rw [hi]
   have hmk:=make_vals (m+1) (by omega)
   rw [show ((m+1:Nat):Int)=(m:Int)+1 from rfl] at hmk
   have hl':=Hl.out.below HB.out
   obtain ⟨lb,lo,sv,rfl,hlb,Hsv,clv⟩:=hl'.get (j:=q') (by omega)
   have hsb:=Hs.out sv (List.mem_of_getElem? Hsv.out)
   have Hdr:Hid (l.drop q'=sv::l.drop (q'+1)):=Lib.hid (by
    have h1:=(List.getElem?_eq_some_iff.1 Hsv.out)
    rw [List.drop_eq_getElem_cons h1.1,h1.2])
   generalize hls:l.drop (q'+1)=ls at *
   have HTw:=Lib.hid (HT.out.below HB.out)
   clear hls hi
   go_upto_region 7 with fail
   have hRx:=VRow.new wr 46 (m+1)
   have hBx:=alloc_below wr (.cells (zeroCells (m+1)) 46)
   have hRn:=HR.out.below hBx
   have hXn:=Blk.ext HX.out hBx
   have hBn:=below_tail HB.out hBx
   have hgl:=HR.out.lt
   have hxl:=HX.out.lt
   have Hl2:=Lib.hid (hl'.below hBx)
   have HT2:=Lib.hid (HTw.out.below hBx)
   have e2:(wr.alloc (.cells (zeroCells (m+1)) 46)).heap.size=wr.heap.size+1:=alloc_size _ _
   have clv2:(wr.alloc (.cells (zeroCells (m+1)) 46)).cell? ⟨lb,lo+q',none⟩=some (.int .i64 sv):=(hBx.cell (p:=⟨lb,lo+q',none⟩) hlb).trans clv
   generalize hgx:wr.heap.size=gX at *
   generalize wr.alloc (.cells (zeroCells (m+1)) 46)=WX at *
   have HRx:Hid (VRow WX gX 46 (rowF (tabT tab) sv (forestT (tabT tab) ls) m 0)):=Lib.hid (by rw [rowF_zero];exact hRx)
   have HRn:=Lib.hid hRn
   have HXn:=Lib.hid hXn
   have HBn:=Lib.hid hBn
   have hlbx:lb < gX:=hlb
   clear hRx hBx hRn hXn hBn HR HB HX HTw hl' hmk clv hlb hgx
   go_wp2_with fail
   go_loopw [10] (fun i wz=>∃ K:Nat,K≤m+1∧i = .int .i64 (K:Int)∧Hid (VRow wz gX 46 (rowF (tabT tab) sv (forestT (tabT tab) ls) m K))∧Hid (VRow wz gN 46 (forR (tabT tab) ls m))∧Hid (Off (fun k=>k=gX) WX wz)) (fun i _=>m+1 - (intOf i).toNat)
   case atStart=>exact ⟨0,Nat.zero_le _,rfl,HRx,HRn,Lib.hid (Off.refl _ _)⟩
   case round =>
    obtain ⟨K,hK,rfl,HRK,HRN,HO⟩:=hrel
    by_cases hKm:K≤m
    case neg =>
     obtain rfl:m+1=K:=by omega
     have hnl:¬ (((m+1:Nat):Int)≤(m:Int)):=by omega
     have Hfin:Hid (VRow wr gX 46 (forR (tabT tab) (l.drop q') m)):=Lib.hid (by rw [Hdr.out,← rowF_done];exact HRK.out)
     have HBf:=Lib.hid (HBn.out.trans (HO.out.is_below HBn.out.size fun k hk=>by omega))
     have HXf:=Lib.hid (HO.out.blk HXn.out (by omega))
     go_wp2_with fail
     go_roundw
     case rel=>exact ⟨q',gX,by omega,by go_num,rfl,by omega,Hfin,HBf,HXf⟩
     case measure=>simp [intOf] <;> omega
    case pos =>
     have hxw:gX < WX.heap.size:=by omega
     have hIK:IntKeep WX wr:=IntKeep.of_off HO.out fun g hg=>by rw [hg];exact HRx.out.noInt
     have hTr:TabM wr A n c N tab:=HT.out.below (HBn.out.trans (HO.out.is_below HBn.out.size fun k hk=>by omega))
     have cT:=rf_Tree A n c N tab sv K wr hTr (by omega) hN (by omega) (fun _=>hsb.1)
     have clv3:wr.cell? ⟨lb,lo+q',none⟩=some (.int .i64 sv):=(World.cell?_of_block (a:=⟨lb,lo+q',none⟩) (HO.out.keep lb (by omega) (by omega))).trans clv2
     have CT:=Lib.hid cT
     clear hTr cT
     go_wp2_with fail
     (with_reducible refine CT.out.mono ?_)
     rintro e W6 ⟨hb6,A6,m6,c6,b6,rfl,hv6⟩
     have hR6:=HRK.out.below hb6
     have hN6:=HRN.out.below hb6
     have hO6:=HO.out.trans (Off.of_below (S:=fun k=>k=gX) hb6) fun _ _ h=>h
     have hBb:=alloc_below W6 (.cells #[.slice A6 m6 c6, .bool b6] 46)
     have hBx6:=Blk.new W6 46 #[.slice A6 m6 c6, .bool b6]
     have hR7:=Lib.hid (hR6.below hBb)
     have hN7:=Lib.hid (hN6.below hBb)
     have hO7:=Lib.hid (hO6.trans (Off.of_below (S:=fun k=>k=gX) hBb) fun _ _ h=>h)
     have hv7:=Lib.hid (hv6.below hBb)
     have hz:=hv6.none_iff
     have hgx6:gX < W6.heap.size:=hR6.lt
     go_upto_region 11 with fail
     generalize W6.alloc (.cells #[.slice A6 m6 c6, .bool b6] 46)=W7 at *
     generalize W6.heap.size=gB at *
     have HBox:=Lib.hid hBx6
     clear hR6 hN6 hO6 hBb hBx6 hv6 hb6 CT clv3 HRK HRN HO hIK
     have Hz:=Lib.hid hz
     have hxb:W7.cell? ⟨gB,0,none⟩=some (.slice A6 m6 c6):=HBox.out.cell 0
     clear hz hxb
     go_wp2_with fail
     go_loopw [12] (fun i wz=>∃ M:Nat,K≤M∧M≤m+1∧i = .int .i64 (M:Int)∧Hid (tabT tab sv K=0→M=K)∧Hid (VRow wz gX 46 (midF (tabT tab) sv (forestT (tabT tab) ls) m K M))∧Hid (VRow wz gN 46 (forR (tabT tab) ls m))∧Hid (Off (fun k=>k=gX) W7 wz)) (fun i _=>m+1 - (intOf i).toNat)
     case atStart=>exact ⟨K,Nat.le_refl _,by omega,rfl,Lib.hid fun _=>rfl,Lib.hid (by rw [mid_start];exact hR7.out),hN7,Lib.hid (Off.refl _ _)⟩
     case round =>
      obtain ⟨M,hKM,hM,rfl,Hx0,HRM,HRN,HO⟩:=hrel
      have hbx:=HO.out.blk HBox.out (by omega)
      have x0:wr.cell? ⟨gB,0,none⟩=some (.slice A6 m6 c6):=hbx.cell 0
      have x1:wr.cell? ⟨gB,1,none⟩=some (.bool b6):=hbx.cell 1
      have xl:=hbx.lt
      have HOx:=Lib.hid (hO7.out.trans HO.out fun _ _ h=>h)
      by_cases hMm:M≤m
      case neg =>
       obtain rfl:m+1=M:=by omega
       have hnl:¬ (((m+1:Nat):Int)≤(m:Int)):=by omega
       have Hfin:Hid (VRow wr gX 46 (rowF (tabT tab) sv (forestT (tabT tab) ls) m (K+1))):=Lib.hid (by rw [← mid_end];exact HRM.out)
       clear hbx
       go_wp2_with fail
       go_roundw
       case rel=>exact ⟨K+1,by omega,by go_num,Hfin,HRN,HOx⟩
       case measure=>simp [intOf] <;> omega
      case pos =>
       by_cases hx0:tabT tab sv K=0
       case pos =>
        obtain ⟨rfl,rfl⟩:=Hz.out.2 hx0
        obtain rfl:M=K:=Hx0.out hx0
        have Hfin:Hid (VRow wr gX 46 (rowF (tabT tab) sv (forestT (tabT tab) ls) m (M+1))):=Lib.hid (by rw [mid_skip _ _ hx0,← mid_start];exact HRM.out)
        clear hbx
        go_wp2_with fail
        go_roundw
        case rel=>exact ⟨M+1,by omega,by go_num,Hfin,HRN,HOx⟩
        case measure=>simp [intOf] <;> omega
       case neg =>
        have hcnd:(b6=true)∨(b6=false∧(0:Int) < (m6:Int)):=by
         rcases b6 with _ | _
         · exact .inr ⟨rfl,by have h7:m6 ≠ 0:=fun h=>hx0 (Hz.out.1 ⟨rfl,h⟩);omega⟩
         · exact .inl rfl
        rcases hcnd with rfl | ⟨rfl,hpos⟩
        case inl =>
         as_aux_lemma =>
          go_upto_region 14 with fail
          obtain ⟨A1,n1,c1,d1,r0,r1,hv1⟩:=HRM.out.get (j:=M) (by rw [midF_len];omega)
          obtain ⟨A2,n2,c2,d2,s0,s1,hv2⟩:=HRN.out.get (j:=M - K) (by rw [forR_len];omega)
          rw [mid_get _ _ _ hMm] at hv1
          rw [forR_get _ _ (by omega:M - K≤m)] at hv2
          have Hvx:Hid (ValN wr A6 m6 c6 true (tabT tab sv K)):=Lib.hid (hv7.out.kept (IntKeep.of_off HO.out fun g hg=>by rw [hg];exact hR7.out.noInt))
          have Hv1:=Lib.hid hv1
          have Hv2:=Lib.hid hv2
          have hgxw:=HRM.out.lt
          have hgnw:=HRN.out.lt
          have hmk1:((M:Int) - (K:Int))=((M - K:Nat):Int):=by omega
          have hwmk:IntKind.i64.wrap ((M:Int) - (K:Int))=(M:Int) - (K:Int):=IntWalk.i64_in _ (by omega)
          have hmk0:(0:Int)≤(M:Int) - (K:Int):=by omega
          have hmk2:(M:Int) - (K:Int) < (m:Int)+1:=by omega
          have hmk3:((M:Int) - (K:Int)).toNat=M - K:=by omega
          have hM1:(M:Int) < (m:Int)+1:=by omega
          have Hacc:Hid (accF (tabT tab) sv (forestT (tabT tab) ls) (K+1) M=accF (tabT tab) sv (forestT (tabT tab) ls) K M+tabT tab sv K * forestT (tabT tab) ls (M - K)):=Lib.hid (accF_succ _ _ _ hKM)
          clear hv1 hv2 hmk1 hbx
          refine wp_region_grow1 (fun X=>Below wr.heap.size wr X) (fun X X'=>Below X.heap.size X X') (fun u=>(⟨(Value.slice A n c::Value.slice (some ⟨lb,lo,none⟩) l.length cl::Value.int .i64 (m:Int)::undef::undef::undef::Value.pointer (some ⟨w.heap.size,0,none⟩)::Value.slice (some ⟨gN,0,none⟩) (m+1) (m+1)::Value.int .i64 (q':Int)::Value.slice (some ⟨gX,0,none⟩) (m+1) (m+1)::Value.int .i64 (K:Int)::Value.pointer (some ⟨gB,0,none⟩)::Value.int .i64 (M:Int)::Value.int .i64 (m:Int)::Value.int .i64 ((m:Int)+1)::Value.slice (some ⟨w.heap.size+1,0,none⟩) (m+1) (m+1)::Value.slice (some ⟨w.heap.size+1,0,none⟩) (m+1) (m+1)::Value.agg #[Value.slice A3 m3 c3,Value.bool b3]::Value.pointer (some ⟨w.heap.size+1,0,none⟩)::Value.slice (some ⟨lb,lo,none⟩) l.length cl::Value.int .i64 (l.length:Int)::Value.int .i64 ((l.length:Int) - 1)::Value.int .i64 (q':Int)::Value.bool true::u24::u25::Value.int .i64 (m:Int)::Value.int .i64 ((m:Int)+1)::Value.slice (some ⟨gX,0,none⟩) (m+1) (m+1)::Value.int .i64 (K:Int)::Value.int .i64 (m:Int)::Value.bool true::u32::u33::Value.slice A n c::Value.slice (some ⟨lb,lo,none⟩) l.length cl::Value.int .i64 (q':Int)::Value.pointer (some ⟨lb,lo+q',none⟩)::Value.int .i64 sv::Value.int .i64 (K:Int)::Value.agg #[Value.slice A6 m6 c6,Value.bool true]::Value.int .i64 (K:Int)::Value.int .i64 (M:Int)::Value.int .i64 (m:Int)::Value.bool true::Value.bool true::Value.pointer (some ⟨gB,1,none⟩)::Value.bool true::Value.bool true::undef::undef::undef::undef::Value.bool true::Value.bool true::u55::u56::u 0::u 1::u 2::u 3::u 4::u 5::u 6::u 7::u 8::u 9::u 10::u 11::u 12::u 13::u 14::u 15::u73::undef::undef::undef::undef::[]).toArray,[]⟩:Act)) [u57,u58,u59,u60,u61,u62,u63,u64,u65,u66,u67,u68,u69,u70,u71,u72] [fun v X=>v=Value.slice (some ⟨gX,0,none⟩) (m+1) (m+1),fun v X=>v=Value.int .i64 (M:Int),fun v X=>v=Value.slice (some ⟨gX,0,none⟩) (m+1) (m+1),fun v X=>v=Value.int .i64 (M:Int),fun v X=>v=Value.pointer (some ⟨gX,M * 2,none⟩),fun v X=>v=Value.agg #[Value.slice A1 n1 c1,Value.bool d1],fun v X=>v=Value.agg #[Value.slice A6 m6 c6,Value.bool true],fun v X=>v=Value.slice (some ⟨gN,0,none⟩) (m+1) (m+1),fun v X=>v=Value.int .i64 (M:Int),fun v X=>v=Value.int .i64 (K:Int),fun v X=>v=Value.int .i64 ((M:Int) - (K:Int)),fun v X=>v=Value.pointer (some ⟨gN,(M - K) * 2,none⟩),fun v X=>v=Value.agg #[Value.slice A2 n2 c2,Value.bool d2],fun v X=>∃ A n c b,v=Value.agg #[Value.slice A n c,Value.bool b]∧ValN X A n c b (tabT tab sv K * forestT (tabT tab) ls (M - K)),fun v X=>∃ A n c b,v=Value.agg #[Value.slice A n c,Value.bool b]∧ValN X A n c b (accF (tabT tab) sv (forestT (tabT tab) ls) (K+1) M),fun v X=>v=Value.pointer (some ⟨gX,M * 2,none⟩)] (fun u X=>VRow X gX 46 (midF (tabT tab) sv (forestT (tabT tab) ls) m K (M+1))∧VRow X gN 46 (forR (tabT tab) ls m)∧Off (fun k=>k=gX) wr X) (l:=[_,_,_,_,_,_,_,_,_,_,_,_,_,_,_,_]) (by kernel_rfl) (by kernel_rfl) (by kernel_rfl) rfl rfl (Below.refl _ _).drew ⟨fun _ _ _ h _=>h,fun _ _ _ h _=>h,fun _ _ _ h _=>h,fun _ _ _ h _=>h,fun _ _ _ h _=>h,fun _ _ _ h _=>h,fun _ _ _ h _=>h,fun _ _ _ h _=>h,fun _ _ _ h _=>h,fun _ _ _ h _=>h,fun _ _ _ h _=>h,fun _ _ _ h _=>h,fun _ _ _ h _=>h,(fun _ _ _ ⟨A,n,c,b,e,h⟩ hb=>⟨A,n,c,b,e,h.below hb⟩),(fun _ _ _ ⟨A,n,c,b,e,h⟩ hb=>⟨A,n,c,b,e,h.below hb⟩),fun _ _ _ h _=>h,trivial⟩ ?_ ?_ ?_
          · refine StepsF.cons rfl (fun _ _=>rfl) (fun Q u X hBX hp KK hKK=>?_) ?_
            · go_simp
              exact hKK _ _ hBX (Below.refl _ _) rfl
            refine StepsF.cons rfl (fun _ _=>rfl) (fun Q u X hBX hp KK hKK=>?_) ?_
            · go_simp
              exact hKK _ _ hBX (Below.refl _ _) rfl
            refine StepsF.cons rfl (fun _ _=>rfl) (fun Q u X hBX hp KK hKK=>?_) ?_
            · go_simp
              exact hKK _ _ hBX (Below.refl _ _) rfl
            refine StepsF.cons rfl (fun _ _=>rfl) (fun Q u X hBX hp KK hKK=>?_) ?_
            · go_simp
              exact hKK _ _ hBX (Below.refl _ _) rfl
            refine StepsF.cons rfl (fun _ _=>rfl) (fun Q u X hBX hp KK hKK=>?_) ?_
            · have p2:u 2=_:=hp 2 rfl
              have p3:u 3=_:=hp 3 rfl
              clear hp
              generalize u 2=x2 at *
              subst p2
              generalize u 3=x3 at *
              subst p3
              go_simp
              exact hKK _ _ hBX (Below.refl _ _) rfl
            refine StepsF.cons rfl (fun _ _=>rfl) (fun Q u X hBX hp KK hKK=>?_) ?_
            · have p4:u 4=_:=hp 4 rfl
              clear hp
              generalize u 4=x4 at *
              subst p4
              have cg0:=(hBX.cell (p:=⟨gX,M * 2,none⟩) hgxw).trans r0
              have cg1:=(hBX.cell (p:=⟨gX,M * 2+1,none⟩) hgxw).trans r1
              go_simp
              exact hKK _ _ hBX (Below.refl _ _) rfl
            refine StepsF.cons rfl (fun _ _=>rfl) (fun Q u X hBX hp KK hKK=>?_) ?_
            · have cg0:=(hBX.cell (p:=⟨gB,0,none⟩) xl).trans x0
              have cg1:=(hBX.cell (p:=⟨gB,1,none⟩) xl).trans x1
              go_simp
              exact hKK _ _ hBX (Below.refl _ _) rfl
            refine StepsF.cons rfl (fun _ _=>rfl) (fun Q u X hBX hp KK hKK=>?_) ?_
            · go_simp
              exact hKK _ _ hBX (Below.refl _ _) rfl
            refine StepsF.cons rfl (fun _ _=>rfl) (fun Q u X hBX hp KK hKK=>?_) ?_
            · go_simp
              exact hKK _ _ hBX (Below.refl _ _) rfl
            refine StepsF.cons rfl (fun _ _=>rfl) (fun Q u X hBX hp KK hKK=>?_) ?_
            · go_simp
              exact hKK _ _ hBX (Below.refl _ _) rfl
            refine StepsF.cons rfl (fun _ _=>rfl) (fun Q u X hBX hp KK hKK=>?_) ?_
            · have p8:u 8=_:=hp 8 rfl
              have p9:u 9=_:=hp 9 rfl
              clear hp
              generalize u 8=x8 at *
              subst p8
              generalize u 9=x9 at *
              subst p9
              go_simp
              exact hKK _ _ hBX (Below.refl _ _) rfl
            refine StepsF.cons rfl (fun _ _=>rfl) (fun Q u X hBX hp KK hKK=>?_) ?_
            · have p7:u 7=_:=hp 7 rfl
              have p10:u 10=_:=hp 10 rfl
              clear hp
              generalize u 7=x7 at *
              subst p7
              generalize u 10=x10 at *
              subst p10
              go_simp
              exact hKK _ _ hBX (Below.refl _ _) rfl
            refine StepsF.cons rfl (fun _ _=>rfl) (fun Q u X hBX hp KK hKK=>?_) ?_
            · have p11:u 11=_:=hp 11 rfl
              clear hp
              generalize u 11=x11 at *
              subst p11
              have cg0:=(hBX.cell (p:=⟨gN,(M - K) * 2,none⟩) hgnw).trans s0
              have cg1:=(hBX.cell (p:=⟨gN,(M - K) * 2+1,none⟩) hgnw).trans s1
              go_simp
              exact hKK _ _ hBX (Below.refl _ _) rfl
            refine StepsF.cons rfl (fun _ _=>rfl) (fun Q u X hBX hp KK hKK=>?_) ?_
            · have p6:u 6=_:=hp 6 rfl
              have p12:u 12=_:=hp 12 rfl
              clear hp
              generalize u 6=x6 at *
              subst p6
              generalize u 12=x12 at *
              subst p12
              have hvx:=Hvx.out.below hBX
              have hvy:=Hv2.out.below hBX
              go_simp
              (with_reducible refine (rf_Times A6 m6 c6 true _ A2 n2 c2 d2 _ X hvx hvy).mono ?_)
              rintro e w2 ⟨hB2,Ar,nr,cr,dr,rfl,hvr⟩
              go_simp
              exact hKK _ _ (below_tail hBX hB2) hB2 ⟨Ar,nr,cr,dr,rfl,hvr⟩
            refine StepsF.cons rfl (fun _ _=>rfl) (fun Q u X hBX hp KK hKK=>?_) ?_
            · have p5:u 5=_:=hp 5 rfl
              obtain ⟨Ar,nr,cr,dr,p13,hvr⟩:=hp 13 rfl
              clear hp
              generalize u 5=x5 at *
              subst p5
              generalize u 13=x13 at *
              subst p13
              have hva:=Hv1.out.below hBX
              go_simp
              (with_reducible refine (rf_Plus A1 n1 c1 d1 _ Ar nr cr dr _ X hva hvr).mono ?_)
              rintro e w2 ⟨hB2,As,ns,cs,ds,rfl,hvs⟩
              rw [← Hacc.out] at hvs
              go_simp
              exact hKK _ _ (below_tail hBX hB2) hB2 ⟨As,ns,cs,ds,rfl,hvs⟩
            refine StepsF.cons rfl (fun _ _=>rfl) (fun Q u X hBX hp KK hKK=>?_) ?_
            · have p0:u 0=_:=hp 0 rfl
              have p1:u 1=_:=hp 1 rfl
              clear hp
              generalize u 0=x0 at *
              subst p0
              generalize u 1=x1 at *
              subst p1
              go_simp
              exact hKK _ _ hBX (Below.refl _ _) rfl
            exact StepsF.nil
          · intro Q u X hBX hp KK hKK
            obtain ⟨As,ns,cs,ds,p14,hvs⟩:=hp 14 (by decide)
            have p15:u 15=_:=hp 15 (by decide)
            clear hp
            generalize u 14=x14 at *
            subst p14
            generalize u 15=x15 at *
            subst p15
            have hRX:=HRM.out.below hBX
            have hRN:=HRN.out.below hBX
            obtain ⟨Aq,nq,cq,dq,q0,q1,_⟩:=hRX.get (j:=M) (by rw [midF_len];omega)
            have fz0:=hRX.frozen (M * 2)
            have fz1:=hRX.frozen (M * 2+1)
            have hrl:=hRX.lt
            have hput:=hRX.put (j:=M) (by rw [midF_len];omega) hvs
            rw [mid_set _ _ _ hMm] at hput
            have hoff:Off (fun k=>k=gX) X ((X.setCell ⟨gX,M * 2,none⟩ (.slice As ns cs)).setCell ⟨gX,M * 2+1,none⟩ (.bool ds)):=(Off.of_set X gX (M * 2) (.slice As ns cs)).trans (Off.of_set _ gX (M * 2+1) (.bool ds)) fun _ _ h=>h
            have hfin:VRow _ gX 46 (midF (tabT tab) sv (forestT (tabT tab) ls) m K (M+1))∧VRow _ gN 46 (forR (tabT tab) ls m)∧Off (fun k=>k=gX) wr _:=⟨hput.1,hRN.kept hput.2 (hoff.keep gN hRN.lt (Nat.ne_of_lt hgl)),(Off.of_below (S:=fun k=>k=gX) hBX).trans hoff fun _ _ h=>h⟩
            have Hfin:=Lib.hid hfin
            clear hfin hput hoff hRX hRN
            go_simp
            exact hKK (fun i=>([u 0,u 1,u 2,u 3,u 4,u 5,u 6,u 7,u 8,u 9,u 10,u 11,u 12,u 13,Value.agg #[Value.slice As ns cs,Value.bool ds],Value.pointer (some ⟨gX,M * 2,none⟩)]:List Value).getD i undef) _ (Hfin.out)
          intro u W9 hfin
          obtain ⟨g1,g2,g3⟩:=hfin
          have Hg1:=Lib.hid g1
          have Hg2:=Lib.hid g2
          have Hg3:=Lib.hid (HO.out.trans g3 fun _ _ h=>h)
          clear g1 g2 g3 r0 r1 s0 s1
          go_wp2_with fail
          go_roundw
          case rel=>exact ⟨M+1,by omega,by omega,by go_num,Lib.hid fun h=>absurd h hx0,Hg1,Hg2,Hg3⟩
          case measure=>simp [intOf] <;> omega
        case inr =>
         as_aux_lemma =>
          go_upto_region 14 with fail
          have hd6:decide (0 < m6)=true:=by rw [decide_eq_true_iff];omega
          rw [hd6]
          obtain ⟨A1,n1,c1,d1,r0,r1,hv1⟩:=HRM.out.get (j:=M) (by rw [midF_len];omega)
          obtain ⟨A2,n2,c2,d2,s0,s1,hv2⟩:=HRN.out.get (j:=M - K) (by rw [forR_len];omega)
          rw [mid_get _ _ _ hMm] at hv1
          rw [forR_get _ _ (by omega:M - K≤m)] at hv2
          have Hvx:Hid (ValN wr A6 m6 c6 false (tabT tab sv K)):=Lib.hid (hv7.out.kept (IntKeep.of_off HO.out fun g hg=>by rw [hg];exact hR7.out.noInt))
          have Hv1:=Lib.hid hv1
          have Hv2:=Lib.hid hv2
          have hgxw:=HRM.out.lt
          have hgnw:=HRN.out.lt
          have hmk1:((M:Int) - (K:Int))=((M - K:Nat):Int):=by omega
          have hwmk:IntKind.i64.wrap ((M:Int) - (K:Int))=(M:Int) - (K:Int):=IntWalk.i64_in _ (by omega)
          have hmk0:(0:Int)≤(M:Int) - (K:Int):=by omega
          have hmk2:(M:Int) - (K:Int) < (m:Int)+1:=by omega
          have hmk3:((M:Int) - (K:Int)).toNat=M - K:=by omega
          have hM1:(M:Int) < (m:Int)+1:=by omega
          have Hacc:Hid (accF (tabT tab) sv (forestT (tabT tab) ls) (K+1) M=accF (tabT tab) sv (forestT (tabT tab) ls) K M+tabT tab sv K * forestT (tabT tab) ls (M - K)):=Lib.hid (accF_succ _ _ _ hKM)
          clear hv1 hv2 hmk1 hbx
          refine wp_region_grow1 (fun X=>Below wr.heap.size wr X) (fun X X'=>Below X.heap.size X X') (fun u=>(⟨(Value.slice A n c::Value.slice (some ⟨lb,lo,none⟩) l.length cl::Value.int .i64 (m:Int)::undef::undef::undef::Value.pointer (some ⟨w.heap.size,0,none⟩)::Value.slice (some ⟨gN,0,none⟩) (m+1) (m+1)::Value.int .i64 (q':Int)::Value.slice (some ⟨gX,0,none⟩) (m+1) (m+1)::Value.int .i64 (K:Int)::Value.pointer (some ⟨gB,0,none⟩)::Value.int .i64 (M:Int)::Value.int .i64 (m:Int)::Value.int .i64 ((m:Int)+1)::Value.slice (some ⟨w.heap.size+1,0,none⟩) (m+1) (m+1)::Value.slice (some ⟨w.heap.size+1,0,none⟩) (m+1) (m+1)::Value.agg #[Value.slice A3 m3 c3,Value.bool b3]::Value.pointer (some ⟨w.heap.size+1,0,none⟩)::Value.slice (some ⟨lb,lo,none⟩) l.length cl::Value.int .i64 (l.length:Int)::Value.int .i64 ((l.length:Int) - 1)::Value.int .i64 (q':Int)::Value.bool true::u24::u25::Value.int .i64 (m:Int)::Value.int .i64 ((m:Int)+1)::Value.slice (some ⟨gX,0,none⟩) (m+1) (m+1)::Value.int .i64 (K:Int)::Value.int .i64 (m:Int)::Value.bool true::u32::u33::Value.slice A n c::Value.slice (some ⟨lb,lo,none⟩) l.length cl::Value.int .i64 (q':Int)::Value.pointer (some ⟨lb,lo+q',none⟩)::Value.int .i64 sv::Value.int .i64 (K:Int)::Value.agg #[Value.slice A6 m6 c6,Value.bool false]::Value.int .i64 (K:Int)::Value.int .i64 (M:Int)::Value.int .i64 (m:Int)::Value.bool true::Value.bool true::Value.pointer (some ⟨gB,1,none⟩)::Value.bool false::Value.bool false::Value.pointer (some ⟨gB,0,none⟩)::Value.slice A6 m6 c6::Value.int .i64 (m6:Int)::Value.bool true::Value.bool true::Value.bool true::u55::u56::u 0::u 1::u 2::u 3::u 4::u 5::u 6::u 7::u 8::u 9::u 10::u 11::u 12::u 13::u 14::u 15::u73::undef::undef::undef::undef::[]).toArray,[]⟩:Act)) [u57,u58,u59,u60,u61,u62,u63,u64,u65,u66,u67,u68,u69,u70,u71,u72] [fun v X=>v=Value.slice (some ⟨gX,0,none⟩) (m+1) (m+1),fun v X=>v=Value.int .i64 (M:Int),fun v X=>v=Value.slice (some ⟨gX,0,none⟩) (m+1) (m+1),fun v X=>v=Value.int .i64 (M:Int),fun v X=>v=Value.pointer (some ⟨gX,M * 2,none⟩),fun v X=>v=Value.agg #[Value.slice A1 n1 c1,Value.bool d1],fun v X=>v=Value.agg #[Value.slice A6 m6 c6,Value.bool false],fun v X=>v=Value.slice (some ⟨gN,0,none⟩) (m+1) (m+1),fun v X=>v=Value.int .i64 (M:Int),fun v X=>v=Value.int .i64 (K:Int),fun v X=>v=Value.int .i64 ((M:Int) - (K:Int)),fun v X=>v=Value.pointer (some ⟨gN,(M - K) * 2,none⟩),fun v X=>v=Value.agg #[Value.slice A2 n2 c2,Value.bool d2],fun v X=>∃ A n c b,v=Value.agg #[Value.slice A n c,Value.bool b]∧ValN X A n c b (tabT tab sv K * forestT (tabT tab) ls (M - K)),fun v X=>∃ A n c b,v=Value.agg #[Value.slice A n c,Value.bool b]∧ValN X A n c b (accF (tabT tab) sv (forestT (tabT tab) ls) (K+1) M),fun v X=>v=Value.pointer (some ⟨gX,M * 2,none⟩)] (fun u X=>VRow X gX 46 (midF (tabT tab) sv (forestT (tabT tab) ls) m K (M+1))∧VRow X gN 46 (forR (tabT tab) ls m)∧Off (fun k=>k=gX) wr X) (l:=[_,_,_,_,_,_,_,_,_,_,_,_,_,_,_,_]) (by kernel_rfl) (by kernel_rfl) (by kernel_rfl) rfl rfl (Below.refl _ _).drew ⟨fun _ _ _ h _=>h,fun _ _ _ h _=>h,fun _ _ _ h _=>h,fun _ _ _ h _=>h,fun _ _ _ h _=>h,fun _ _ _ h _=>h,fun _ _ _ h _=>h,fun _ _ _ h _=>h,fun _ _ _ h _=>h,fun _ _ _ h _=>h,fun _ _ _ h _=>h,fun _ _ _ h _=>h,fun _ _ _ h _=>h,(fun _ _ _ ⟨A,n,c,b,e,h⟩ hb=>⟨A,n,c,b,e,h.below hb⟩),(fun _ _ _ ⟨A,n,c,b,e,h⟩ hb=>⟨A,n,c,b,e,h.below hb⟩),fun _ _ _ h _=>h,trivial⟩ ?_ ?_ ?_
          · refine StepsF.cons rfl (fun _ _=>rfl) (fun Q u X hBX hp KK hKK=>?_) ?_
            · go_simp
              exact hKK _ _ hBX (Below.refl _ _) rfl
            refine StepsF.cons rfl (fun _ _=>rfl) (fun Q u X hBX hp KK hKK=>?_) ?_
            · go_simp
              exact hKK _ _ hBX (Below.refl _ _) rfl
            refine StepsF.cons rfl (fun _ _=>rfl) (fun Q u X hBX hp KK hKK=>?_) ?_
            · go_simp
              exact hKK _ _ hBX (Below.refl _ _) rfl
            refine StepsF.cons rfl (fun _ _=>rfl) (fun Q u X hBX hp KK hKK=>?_) ?_
            · go_simp
              exact hKK _ _ hBX (Below.refl _ _) rfl
            refine StepsF.cons rfl (fun _ _=>rfl) (fun Q u X hBX hp KK hKK=>?_) ?_
            · have p2:u 2=_:=hp 2 rfl
              have p3:u 3=_:=hp 3 rfl
              clear hp
              generalize u 2=x2 at *
              subst p2
              generalize u 3=x3 at *
              subst p3
              go_simp
              exact hKK _ _ hBX (Below.refl _ _) rfl
            refine StepsF.cons rfl (fun _ _=>rfl) (fun Q u X hBX hp KK hKK=>?_) ?_
            · have p4:u 4=_:=hp 4 rfl
              clear hp
              generalize u 4=x4 at *
              subst p4
              have cg0:=(hBX.cell (p:=⟨gX,M * 2,none⟩) hgxw).trans r0
              have cg1:=(hBX.cell (p:=⟨gX,M * 2+1,none⟩) hgxw).trans r1
              go_simp
              exact hKK _ _ hBX (Below.refl _ _) rfl
            refine StepsF.cons rfl (fun _ _=>rfl) (fun Q u X hBX hp KK hKK=>?_) ?_
            · have cg0:=(hBX.cell (p:=⟨gB,0,none⟩) xl).trans x0
              have cg1:=(hBX.cell (p:=⟨gB,1,none⟩) xl).trans x1
              go_simp
              exact hKK _ _ hBX (Below.refl _ _) rfl
            refine StepsF.cons rfl (fun _ _=>rfl) (fun Q u X hBX hp KK hKK=>?_) ?_
            · go_simp
              exact hKK _ _ hBX (Below.refl _ _) rfl
            refine StepsF.cons rfl (fun _ _=>rfl) (fun Q u X hBX hp KK hKK=>?_) ?_
            · go_simp
              exact hKK _ _ hBX (Below.refl _ _) rfl
            refine StepsF.cons rfl (fun _ _=>rfl) (fun Q u X hBX hp KK hKK=>?_) ?_
            · go_simp
              exact hKK _ _ hBX (Below.refl _ _) rfl
            refine StepsF.cons rfl (fun _ _=>rfl) (fun Q u X hBX hp KK hKK=>?_) ?_
            · have p8:u 8=_:=hp 8 rfl
              have p9:u 9=_:=hp 9 rfl
              clear hp
              generalize u 8=x8 at *
              subst p8
              generalize u 9=x9 at *
              subst p9
              go_simp
              exact hKK _ _ hBX (Below.refl _ _) rfl
            refine StepsF.cons rfl (fun _ _=>rfl) (fun Q u X hBX hp KK hKK=>?_) ?_
            · have p7:u 7=_:=hp 7 rfl
              have p10:u 10=_:=hp 10 rfl
              clear hp
              generalize u 7=x7 at *
              subst p7
              generalize u 10=x10 at *
              subst p10
              go_simp
              exact hKK _ _ hBX (Below.refl _ _) rfl
            refine StepsF.cons rfl (fun _ _=>rfl) (fun Q u X hBX hp KK hKK=>?_) ?_
            · have p11:u 11=_:=hp 11 rfl
              clear hp
              generalize u 11=x11 at *
              subst p11
              have cg0:=(hBX.cell (p:=⟨gN,(M - K) * 2,none⟩) hgnw).trans s0
              have cg1:=(hBX.cell (p:=⟨gN,(M - K) * 2+1,none⟩) hgnw).trans s1
              go_simp
              exact hKK _ _ hBX (Below.refl _ _) rfl
            refine StepsF.cons rfl (fun _ _=>rfl) (fun Q u X hBX hp KK hKK=>?_) ?_
            · have p6:u 6=_:=hp 6 rfl
              have p12:u 12=_:=hp 12 rfl
              clear hp
              generalize u 6=x6 at *
              subst p6
              generalize u 12=x12 at *
              subst p12
              have hvx:=Hvx.out.below hBX
              have hvy:=Hv2.out.below hBX
              go_simp
              (with_reducible refine (rf_Times A6 m6 c6 false _ A2 n2 c2 d2 _ X hvx hvy).mono ?_)
              rintro e w2 ⟨hB2,Ar,nr,cr,dr,rfl,hvr⟩
              go_simp
              exact hKK _ _ (below_tail hBX hB2) hB2 ⟨Ar,nr,cr,dr,rfl,hvr⟩
            refine StepsF.cons rfl (fun _ _=>rfl) (fun Q u X hBX hp KK hKK=>?_) ?_
            · have p5:u 5=_:=hp 5 rfl
              obtain ⟨Ar,nr,cr,dr,p13,hvr⟩:=hp 13 rfl
              clear hp
              generalize u 5=x5 at *
              subst p5
              generalize u 13=x13 at *
              subst p13
              have hva:=Hv1.out.below hBX
              go_simp
              (with_reducible refine (rf_Plus A1 n1 c1 d1 _ Ar nr cr dr _ X hva hvr).mono ?_)
              rintro e w2 ⟨hB2,As,ns,cs,ds,rfl,hvs⟩
              rw [← Hacc.out] at hvs
              go_simp
              exact hKK _ _ (below_tail hBX hB2) hB2 ⟨As,ns,cs,ds,rfl,hvs⟩
            refine StepsF.cons rfl (fun _ _=>rfl) (fun Q u X hBX hp KK hKK=>?_) ?_
            · have p0:u 0=_:=hp 0 rfl
              have p1:u 1=_:=hp 1 rfl
              clear hp
              generalize u 0=x0 at *
              subst p0
              generalize u 1=x1 at *
              subst p1
              go_simp
              exact hKK _ _ hBX (Below.refl _ _) rfl
            exact StepsF.nil
          · intro Q u X hBX hp KK hKK
            obtain ⟨As,ns,cs,ds,p14,hvs⟩:=hp 14 (by decide)
            have p15:u 15=_:=hp 15 (by decide)
            clear hp
            generalize u 14=x14 at *
            subst p14
            generalize u 15=x15 at *
            subst p15
            have hRX:=HRM.out.below hBX
            have hRN:=HRN.out.below hBX
            obtain ⟨Aq,nq,cq,dq,q0,q1,_⟩:=hRX.get (j:=M) (by rw [midF_len];omega)
            have fz0:=hRX.frozen (M * 2)
            have fz1:=hRX.frozen (M * 2+1)
            have hrl:=hRX.lt
            have hput:=hRX.put (j:=M) (by rw [midF_len];omega) hvs
            rw [mid_set _ _ _ hMm] at hput
            have hoff:Off (fun k=>k=gX) X ((X.setCell ⟨gX,M * 2,none⟩ (.slice As ns cs)).setCell ⟨gX,M * 2+1,none⟩ (.bool ds)):=(Off.of_set X gX (M * 2) (.slice As ns cs)).trans (Off.of_set _ gX (M * 2+1) (.bool ds)) fun _ _ h=>h
            have hfin:VRow _ gX 46 (midF (tabT tab) sv (forestT (tabT tab) ls) m K (M+1))∧VRow _ gN 46 (forR (tabT tab) ls m)∧Off (fun k=>k=gX) wr _:=⟨hput.1,hRN.kept hput.2 (hoff.keep gN hRN.lt (Nat.ne_of_lt hgl)),(Off.of_below (S:=fun k=>k=gX) hBX).trans hoff fun _ _ h=>h⟩
            have Hfin:=Lib.hid hfin
            clear hfin hput hoff hRX hRN
            go_simp
            exact hKK (fun i=>([u 0,u 1,u 2,u 3,u 4,u 5,u 6,u 7,u 8,u 9,u 10,u 11,u 12,u 13,Value.agg #[Value.slice As ns cs,Value.bool ds],Value.pointer (some ⟨gX,M * 2,none⟩)]:List Value).getD i undef) _ (Hfin.out)
          intro u W9 hfin
          obtain ⟨g1,g2,g3⟩:=hfin
          have Hg1:=Lib.hid g1
          have Hg2:=Lib.hid g2
          have Hg3:=Lib.hid (HO.out.trans g3 fun _ _ h=>h)
          clear g1 g2 g3 r0 r1 s0 s1
          go_wp2_with fail
          go_roundw
          case rel=>exact ⟨M+1,by omega,by omega,by go_num,Lib.hid fun h=>absurd h hx0,Hg1,Hg2,Hg3⟩
          case measure=>simp [intOf] <;> omega
end Go.Proofs.YtggbjdmpjidhgaaGreatDoor
