/- the program's counter: tree, walked. -/
import Derived.Test.YtggbjdmpjidhgaaGreatDoorQCtW8
import Derived.Test.YtggbjdmpjidhgaaGreatDoorQInvF
set_option linter.unusedVariables false
set_option linter.unusedSimpArgs false
set_option maxHeartbeats 8000000
set_option maxRecDepth 100000
namespace Go.Proofs.YtggbjdmpjidhgaaGreatDoor
open Go.RowKit
theorem rulesT_takeC {T:Int→Nat→Nat} {rs:List Rul} {k:Nat} {r:Rul} (hr:rs[k]? = some r) (i n:Nat):rulesT T (rs.take (k+1)) i n=rulesT T (rs.take k) i n+(if r.left.toNat=i then forestT T r.right n else 0):=by
 rw [List.take_add_one,hr]
 exact rulesT_snoc T _ r i n
theorem setCell_self {w:World} {g i:Nat} {t:TypeId} {cs:Array Value} {v:Value} (hB:Blk w g t cs) (hv:cs[i]? = some v):w.setCell ⟨g,i,none⟩ v=w:=by
 have e:(w.setCell ⟨g,i,none⟩ v).heap=w.heap:=by
  apply Array.ext_getElem?
  intro j
  by_cases hj:j=g
  · subst hj
    have h1:=hB.set i v
    unfold Blk at h1 hB
    rw [h1,hB]
    have:cs.setIfInBounds i v=cs:=by
     apply Array.ext_getElem?
     intro q
     rw [Array.getElem?_setIfInBounds]
     split
     · rename_i hq
       subst hq
       rw [hv]
       split
       · rfl
       · rename_i hlt
         rw [Array.getElem?_eq_none (by omega)] at hv
         cases hv
     · rfl
    rw [this]
  · exact Below.heap_setCell w ⟨g,i,none⟩ v j hj
 have:w.setCell ⟨g,i,none⟩ v={ w with heap:=(w.setCell ⟨g,i,none⟩ v).heap }:=rfl
 rw [this,e]
theorem treeC_term {W0:World} {k:CH} {h:GH} {G:Gr} {s:Int} {n:Nat} (h0:0≤s) (hn:n≤100):TreeC W0 k h G s n:=by
 intro S w C hS
 have hB1:=alloc_below w (.cells #[.slice none 0 0, .bool false] 77)
 have hX1:=Blk.new w 77 #[.slice none 0 0, .bool false]
 have hC1:=C.more hB1 (Nat.le_refl w.heap.size)
 have hO1:Off k.maps w (w.alloc (.cells #[.slice none 0 0, .bool false] 77)):=Off.of_below hB1
 have hg0:=C.base.size
 go_enter Tryz.func155,Tryz.ntmps155
 go_upto_region 1 with fail
 generalize w.alloc (.cells #[.slice none 0 0, .bool false] 77)=W1 at *
 have HC1:=Lib.hid hC1
 have HX1:=Lib.hid hX1
 have HO1:=Lib.hid hO1
 have l1:=hX1.lt
 have c0:W1.cell? ⟨w.heap.size,0,none⟩=some (.slice none 0 0):=hX1.cell 0
 have c1:W1.cell? ⟨w.heap.size,1,none⟩=some (.bool false):=hX1.cell 1
 have f0:=hX1.frozen 0
 have f1:=hX1.frozen 1
 have Hval:Hid (treeN G s n=oneT n):=Lib.hid (treeN_term G h0 n)
 clear hC1 hX1 hO1 hB1 C hS
 go_wp2_with fail
 (with_reducible refine (tr_exactly n W1 (by omega)).mono ?_)
 rintro e W2 ⟨hb,A3,m3,c3,b3,rfl,hv3⟩
 have X2:=HX1.out.ext hb
 have hend:=Lib.hid (cnt_store (S':=S) (HC1.out.below hb) X2 hv3 (HO1.out.maps_trans (Off.of_below hb)) (.inr rfl) hg0 (Nat.le_refl _) fun q hq => .inl hq)
 have c0':W2.cell? ⟨w.heap.size,0,none⟩=some (.slice none 0 0):=X2.cell 0
 have c1':W2.cell? ⟨w.heap.size,1,none⟩=some (.bool false):=X2.cell 1
 have f0':=X2.frozen 0
 have f1':=X2.frozen 1
 have l1':=X2.lt
 clear c0 c1 f0 f1 l1 X2 hv3 hb
 go_wp2_with fail
 refine bodyPost_ret (results_cell_row (p:=6) (by kernel_rfl) _ _ w.heap.size 77 #[.slice A3 m3 c3, .bool b3] (0,0) _ rfl hend.out.1 Tryz.underlying77 rfl (by kernel_rfl)) rfl ?_
 rw [Hval.out]
 exact hend.out.2
theorem tr_tree {W0:World} {k:CH} {h:GH} {G:Gr} (hP:Plain G) (hg:GrAt W0 h G) (h2:h.n2≤100) (h3:h.n3≤100):∀ (M n:Nat) (s:Int),(s < 0→nonI s < G.nons.length∧mu G n s=M)→n≤100→TreeC W0 k h G s n:=by
 have e2:G.nons.length=h.n2:=hg.nons.len
 have e3:G.rules.length=h.n3:=hg.rules.len
 have k3:=hg.rules.cap
 have hNl:(nullN G).length=h.n2:=by rw [nullN_grown,grownN_len];exact e2
 have hn16:=hP.fits.n2
 intro M
 induction M using Nat.strongRecOn with
 | ind M ih =>
 intro n s hs hn
 by_cases h0:0≤s
 case pos=>exact treeC_term h0 hn
 case neg =>
  intro S w C hS
  have hB1:=alloc_below w (.cells #[.slice none 0 0, .bool false] 77)
  have hX1:=Blk.new w 77 #[.slice none 0 0, .bool false]
  have hC1:=C.more hB1 (Nat.le_refl w.heap.size)
  have hO1:Off k.maps w (w.alloc (.cells #[.slice none 0 0, .bool false] 77)):=Off.of_below hB1
  have hg0:=C.base.size
  have HS:=Lib.hid hS
  have HP:=Lib.hid hP
  have Hg:=Lib.hid hg
  have Hih:=Lib.hid ih
  have HNl:=Lib.hid hNl
  clear hS hg ih hNl
  go_enter Tryz.func155,Tryz.ntmps155
  go_upto_region 1 with fail
  generalize w.alloc (.cells #[.slice none 0 0, .bool false] 77)=W1 at *
  have HC1:=Lib.hid hC1
  have HX1:=Lib.hid hX1
  have HO1:=Lib.hid hO1
  have l1:=hX1.lt
  have c0:W1.cell? ⟨w.heap.size,0,none⟩=some (.slice none 0 0):=hX1.cell 0
  have c1:W1.cell? ⟨w.heap.size,1,none⟩=some (.bool false):=hX1.cell 1
  have f0:=hX1.frozen 0
  have f1:=hX1.frozen 1
  clear hC1 hX1 hO1 hB1 C
  have hs0:s < 0:=by omega
  obtain ⟨hsl,hsM⟩:=hs hs0
  obtain ⟨j,hj,hnj,hw⟩:=non_place (s:=s) (n:=h.n2) hs0 (by unfold nonI at hsl;omega) (by omega)
  have hat:=BoolT.at HC1.out.nul (i:=j) (by rw [HNl.out];exact hj)
  obtain ⟨kc1,kn1,_,kc4,_,_⟩:=HC1.out.cells
  have Hnull:Hid ((nullN G).getD j false=false→treeN G s 0=0):=Lib.hid fun hz=>by
   apply Classical.byContradiction
   intro hne
   have:=treeN_null HP.out hne
   unfold nulB at this
   rw [hnj,hz] at this
   simp at this
  have HsM:=Lib.hid hsM
  have Hsl:=Lib.hid hsl
  clear hs hP hsM
  generalize (nullN G).getD j false=z at *
  by_cases hz:n=0∧z=false
  case pos =>
   obtain ⟨rfl,rfl⟩:=hz
   have Hval:Hid (treeN G s 0=0):=Lib.hid (Hnull.out rfl)
   have hend:=Lib.hid (cnt_store (S':=S) HC1.out HX1.out (ValN.zero _ none 0 (by omega)) HO1.out (.inr rfl) hg0 (Nat.le_refl _) fun q hq => .inl hq)
   go_wp2_with fail
   refine bodyPost_ret (results_cell_row (p:=6) (by kernel_rfl) _ _ w.heap.size 77 #[.slice none 0 0, .bool false] (0,0) _ rfl hend.out.1 Tryz.underlying77 rfl (by kernel_rfl)) rfl ?_
   rw [Hval.out]
   exact hend.out.2
  case neg =>
   have HX1n:Hid (∀ q:Nat,q≤h.n3→True):=Lib.hid fun _ _=>trivial
   rcases (by cases z <;> simp at hz <;> simp [hz] <;> omega:(n ≠ 0)∨(n=0∧z=true)) with hn0 | ⟨rfl,rfl⟩
   · have hni:((n:Int) == 0)=false:=by rw [beq_eq_false_iff_ne];omega
     clear hz Hnull hn0
     go_upto_region 6 with fail
     have hkB:=alloc_below W1 (.cells #[.int .i64 s, .int .i64 (n:Int)] 247)
     have hkX:=Blk.new W1 247 #[.int .i64 s, .int .i64 (n:Int)]
     have hkg:w.heap.size < W1.heap.size:=HX1.out.lt
     have HC2:=Lib.hid (HC1.out.below hkB)
     have HO2:=Lib.hid (HO1.out.maps_trans (Off.of_below hkB))
     have HX2:=Lib.hid (HX1.out.ext hkB)
     clear c0 c1 f0 f1 l1 hat kc1 kn1 kc4 hkB HX1 HC1 HO1
     generalize W1.alloc (.cells #[.int .i64 s, .int .i64 (n:Int)] 247)=W2 at *
     generalize W1.heap.size=gK at *
     have HK2:=Lib.hid hkX
     obtain ⟨ts,ht⟩:=HC2.out.trees
     have hlk:=ht.look s n hs0 (by have:=Hsl.out;omega) (by omega)
     unfold kT at hlk
     try simp only [Int.ofNat_zero,Int.natCast_zero] at hlk
     obtain ⟨kc1,_,_,_,kc5,_⟩:=HC2.out.cells
     have y0:W2.cell? ⟨gK,0,none⟩=some (.int .i64 s):=hkX.cell 0
     have y1:W2.cell? ⟨gK,1,none⟩=some (.int .i64 (n:Int)):=hkX.cell 1
     have yl:=hkX.lt
     clear hkX ht
     rcases hlk with ⟨bv,hlk,hv⟩ | hlk
     · obtain ⟨Av,nv,cv,dv,hbv,hvv⟩:=hv
       have bc:=bl_cell W2
       refine wp_region_below (by kernel_rfl) (by kernel_rfl) ?_
       repeat (go_big_quiet_step (fail))
       refine wpQuiet_nil ?_
       rintro _ ⟨y,rfl⟩
       have hby:=bl_below W2 y
       have X4:=HX2.out.ext hby
       have hbv2:=hbv.ext hby
       have Hend:=Lib.hid (cnt_store (S':=S) (HC2.out.below hby) X4 (hvv.below hby) (HO2.out.maps_trans (Off.of_below hby)) (.inr rfl) hg0 (Nat.le_refl _) fun q hq => .inl hq)
       have c0:(bl W2 y).cell? ⟨w.heap.size,0,none⟩=some (.slice none 0 0):=X4.cell 0
       have c1:(bl W2 y).cell? ⟨w.heap.size,1,none⟩=some (.bool false):=X4.cell 1
       have f0:=X4.frozen 0
       have f1:=X4.frozen 1
       have l5:=X4.lt
       have v0:(bl W2 y).cell? ⟨bv,0,none⟩=some (.slice Av nv cv):=hbv2.cell 0
       have v1:(bl W2 y).cell? ⟨bv,1,none⟩=some (.bool dv):=hbv2.cell 1
       have l6:=hbv2.lt
       clear hlk hbv hvv bc hby X4 hbv2 y0 y1 yl kc1 kc5
       generalize bl W2 y=W3 at *
       go_wp2_with fail
       refine bodyPost_ret (results_cell_row (p:=6) (by kernel_rfl) _ _ w.heap.size 77 #[.slice Av nv cv, .bool dv] (0,0) _ rfl Hend.out.1 Tryz.underlying77 rfl (by kernel_rfl)) rfl ?_
       exact Hend.out.2
     · have bc:=bl_cell W2
       refine wp_region_below (by kernel_rfl) (by kernel_rfl) ?_
       repeat (go_big_quiet_step (fail))
       refine wpQuiet_nil ?_
       rintro _ ⟨y,rfl⟩
       have hby:=bl_below W2 y
       have HC3:=Lib.hid (HC2.out.below hby)
       have HO3:=Lib.hid (HO2.out.maps_trans (Off.of_below hby))
       have HX3:=Lib.hid (HX2.out.ext hby)
       have HK3:=Lib.hid (HK2.out.ext hby)
       clear hlk bc hby kc1 kc5 y0 y1 yl HC2 HO2 HX2 HK2
       generalize bl W2 y=W3 at *
       obtain ⟨kc1,_,kc3,_,_,_⟩:=HC3.out.cells
       have hcap3:=k3
       go_wp2_with fail
       go_loopw [49] (fun i wr=>∃ (q:Nat) (As:Option Addr) (ns cs:Nat) (bs:Bool),q≤h.n3∧i = .int .i64 (q:Int)∧Hid (CntAt W0 k h G (fun b=>S b∨b=w.heap.size) wr)∧Hid (Off k.maps w wr)∧Hid (Blk wr w.heap.size 77 #[.slice As ns cs, .bool bs])∧Hid (Blk wr gK 247 #[.int .i64 s, .int .i64 (n:Int)])∧Hid (ValN wr As ns cs bs (rulesT (treeN G) (G.rules.take q) j n))) (fun i _=>h.n3 - (intOf i).toNat)
       case atStart=>exact ⟨0,none,0,0,false,Nat.zero_le _,rfl,HC3,HO3,HX3,HK3,Lib.hid (ValN.zero _ _ _ (by omega))⟩
       case round =>
        clear HC3 HO3 HX3 HK3 kc1 kc3
        obtain ⟨q,As,ns,cs,bs,hq,rfl,HC,HO,HX,HK,HV⟩:=hrel
        by_cases hqq:q < h.n3
        case pos =>
         obtain ⟨rb,roff,r,Ar,cr,ha3,hrb,Hr,q0,q1,q2,hrr⟩:=Hg.out.rules.get hqq
         have hmem:=List.mem_of_getElem? Hr.out
         have hBs:=HC.out.base
         have hrb2:rb < wr.heap.size:=Nat.lt_of_lt_of_le hrb hBs.size
         have p0:=(hBs.cell (p:=⟨rb,roff+q * 3,none⟩) hrb).trans q0
         have p1:=(hBs.cell (p:=⟨rb,roff+q * 3+1,none⟩) hrb).trans q1
         have p2:=(hBs.cell (p:=⟨rb,roff+q * 3+2,none⟩) hrb).trans q2
         have hB4:=alloc_below wr (.cells #[.int .i64 r.left, .slice Ar r.right.length cr, .int .i64 r.prec] 52)
         have hR4:=Blk.new wr 52 #[.int .i64 r.left, .slice Ar r.right.length cr, .int .i64 r.prec]
         have HC4:=Lib.hid (HC.out.below hB4)
         have HO4:=Lib.hid (HO.out.maps_trans (Off.of_below hB4))
         have HX4:=Lib.hid (HX.out.ext hB4)
         have HK4:=Lib.hid (HK.out.ext hB4)
         have HV4:=Lib.hid (HV.out.below hB4)
         have hrt:=rulesT_takeC (T:=treeN G) Hr.out j n
         have hlr:=HP.out.fits.left r hmem
         rw [ha3]
         go_upto_region 12 with fail
         generalize wr.alloc (.cells #[.int .i64 r.left, .slice Ar r.right.length cr, .int .i64 r.prec] 52)=W4 at *
         have r0:W4.cell? ⟨wr.heap.size,0,none⟩=some (.int .i64 r.left):=hR4.cell 0
         have rl:=hR4.lt
         have hgv4:w.heap.size < wr.heap.size:=HX.out.lt
         clear hB4 hR4 hBs p0 p1 p2 q0 q1 q2 hrb hrb2 hrr HC HO HX HK HV
         generalize wr.heap.size=gR at *
         by_cases hlj:r.left=(j:Int)
         case neg =>
          have hne:(r.left == (j:Int))=false:=by rw [beq_eq_false_iff_ne];exact hlj
          rw [if_neg (by omega),Nat.add_zero] at hrt
          have Hrt:=Lib.hid hrt
          clear hrt hlj
          go_wp2_with fail
          go_roundw
          case rel=>exact ⟨q+1,As,ns,cs,bs,by omega,by go_num,HC4,HO4,HX4,HK4,by rw [Hrt.out];exact HV4⟩
          case measure=>simp [intOf] <;> omega
         case pos =>
          have heq:(r.left == (j:Int))=true:=by rw [beq_iff_eq];exact hlj
          rw [if_pos (by omega)] at hrt
          have HR:=Lib.hid (tr_rule (k:=k) HP.out Hg.out h2 h3 (i:=q) (s0:=s) (n0:=n) Hr.out (by rw [hnj,hlj];rfl) HsM.out (by omega) (fun q' m' hq' hm'=>by
           by_cases h0':0≤q'
           · exact treeC_term h0' (by omega)
           · obtain ⟨a1,a2⟩:=hq' (by omega)
             exact Hih.out _ a2 m' q' (fun _=>⟨a1,rfl⟩) (by omega)) _ 0 n rfl (Nat.zero_le _) (Nat.le_refl _) (fun _ p sx hp=>absurd hp (Nat.not_lt_zero p)))
          have Hrt:=Lib.hid hrt
          clear hrt
          go_upto_region 13 with fail
          clear hlj heq
          refine wp_region_grow1 (fun X=>MidC W0 k h G (fun b=>S b∨b=w.heap.size) W4 X) (fun X X'=>IntKeep X X') (fun u=>(⟨(Value.pointer (some ⟨k.c,0,none⟩)::Value.int IntKind.i64 s::Value.int IntKind.i64 (n:Int)::undef::undef::undef::Value.pointer (some ⟨w.heap.size,0,none⟩)::Value.pointer (some ⟨gK,0,none⟩)::Value.pointer none::Value.int IntKind.i64 (q:Int)::Value.pointer (some ⟨gR,0,none⟩)::Value.int IntKind.i64 s::Value.bool false::undef::undef::Value.int IntKind.i64 (n:Int)::Value.bool false::Value.bool false::undef::undef::undef::undef::undef::undef::undef::undef::undef::Value.bool false::undef::Value.int IntKind.i64 s::Value.int IntKind.i64 (n:Int)::Value.agg #[Value.int IntKind.i64 s,Value.int IntKind.i64 (n:Int)]::Value.pointer (some ⟨k.c,0,none⟩)::Value.pointer (some ⟨k.c,0,none⟩)::Value.pointer (some ⟨k.c,5,none⟩)::Value.map (some k.t)::Value.agg #[Value.int IntKind.i64 s,Value.int IntKind.i64 (n:Int)]::Value.pointer none::Value.pointer none::Value.bool false::undef::undef::undef::Value.pointer (some ⟨k.c,0,none⟩)::Value.pointer (some ⟨k.c,0,none⟩)::Value.pointer (some ⟨k.c,0,none⟩)::Value.pointer (some ⟨k.c,2,none⟩)::Value.slice (some ⟨rb,roff,none⟩) h.n3 h.c3::Value.int IntKind.i64 (h.n3:Int)::Value.int IntKind.i64 (q:Int)::Value.bool true::Value.int IntKind.i64 (q:Int)::Value.pointer (some ⟨rb,roff+q * 3,none⟩)::Value.agg #[Value.int IntKind.i64 r.left,Value.slice Ar r.right.length cr,Value.int IntKind.i64 r.prec]::Value.pointer (some ⟨gR,0,none⟩)::Value.int IntKind.i64 (j:Int)::Value.int IntKind.i64 s::Value.int IntKind.i64 (j:Int)::Value.bool true::u 0::u 1::u 2::u 3::u 4::u 5::u 6::u66::undef::undef::undef::undef::undef::undef::[]).toArray,[]⟩:Act)) [u59,u60,u61,u62,u63,u64,u65] [fun v X=>v=Value.agg #[Value.slice As ns cs,Value.bool bs],fun v X=>v=Value.pointer (some ⟨k.c,0,none⟩),fun v X=>v=Value.int .i64 (q:Int),fun v X=>v=Value.int .i64 (n:Int),fun v X=>v=Value.agg #[Value.int .i64 (q:Int),Value.int .i64 0,Value.int .i64 (n:Int)],fun v X=>∃ Aq nq cq bq,v=Value.agg #[Value.slice Aq nq cq,Value.bool bq]∧ValN X Aq nq cq bq (forestT (treeN G) r.right n),fun v X=>∃ Aq nq cq bq,v=Value.agg #[Value.slice Aq nq cq,Value.bool bq]∧ValN X Aq nq cq bq (rulesT (treeN G) (G.rules.take q) j n+forestT (treeN G) r.right n)] (fun u X=>∃ A9 n9 c9 d9,CntAt W0 k h G (fun b=>S b∨b=w.heap.size) X∧Off k.maps w X∧Blk X w.heap.size 77 #[Value.slice A9 n9 c9,Value.bool d9]∧Blk X gK 247 #[Value.int .i64 s,Value.int .i64 (n:Int)]∧ValN X A9 n9 c9 d9 (rulesT (treeN G) (G.rules.take q) j n+forestT (treeN G) r.right n)) (l:=[_,_,_,_,_,_,_]) (by kernel_rfl) (by kernel_rfl) (by kernel_rfl) rfl rfl ⟨HC4.out.below (Below.refl _ _).drew,Off.of_below (Below.refl _ _).drew⟩ ⟨fun _ _ _ h _=>h,fun _ _ _ h _=>h,fun _ _ _ h _=>h,fun _ _ _ h _=>h,fun _ _ _ h _=>h,(fun _ _ _ ⟨A,n,c,b,e,h⟩ hb=>⟨A,n,c,b,e,h.kept hb⟩),(fun _ _ _ ⟨A,n,c,b,e,h⟩ hb=>⟨A,n,c,b,e,h.kept hb⟩),trivial⟩ ?_ ?_ ?_
          · refine StepsF.cons rfl (fun _ _=>rfl) (fun Q u X hBX hp KK hKK=>?_) ?_
            · have hXX:=hBX.2.blk HX4.out (HC4.out.not_map HX4.out)
              have cg0:X.cell? ⟨w.heap.size,0,none⟩=some (.slice As ns cs):=hXX.cell 0
              have cg1:X.cell? ⟨w.heap.size,1,none⟩=some (.bool bs):=hXX.cell 1
              have hxl:=hXX.lt
              go_simp
              exact hKK _ _ hBX ⟨Nat.le_refl _,fun _ _ _=>rfl⟩ rfl
            refine StepsF.cons rfl (fun _ _=>rfl) (fun Q u X hBX hp KK hKK=>?_) ?_
            · go_simp
              exact hKK _ _ hBX ⟨Nat.le_refl _,fun _ _ _=>rfl⟩ rfl
            refine StepsF.cons rfl (fun _ _=>rfl) (fun Q u X hBX hp KK hKK=>?_) ?_
            · go_simp
              exact hKK _ _ hBX ⟨Nat.le_refl _,fun _ _ _=>rfl⟩ rfl
            refine StepsF.cons rfl (fun _ _=>rfl) (fun Q u X hBX hp KK hKK=>?_) ?_
            · go_simp
              exact hKK _ _ hBX ⟨Nat.le_refl _,fun _ _ _=>rfl⟩ rfl
            refine StepsF.cons rfl (fun _ _=>rfl) (fun Q u X hBX hp KK hKK=>?_) ?_
            · have p2:u 2=_:=hp 2 rfl
              have p3:u 3=_:=hp 3 rfl
              clear hp
              generalize u 2=x2 at *
              subst p2
              generalize u 3=x3 at *
              subst p3
              go_simp
              exact hKK _ _ hBX ⟨Nat.le_refl _,fun _ _ _=>rfl⟩ rfl
            refine StepsF.cons rfl (fun _ _=>rfl) (fun Q u X hBX hp KK hKK=>?_) ?_
            · have p1:u 1=_:=hp 1 rfl
              have p4:u 4=_:=hp 4 rfl
              clear hp
              generalize u 1=x1 at *
              subst p1
              generalize u 4=x4 at *
              subst p4
              have hSX:∀ b,(S b∨b=w.heap.size)→b < X.heap.size:=fun b hb=>by
               rcases hb with hb | rfl
               · exact Nat.lt_of_lt_of_le (HS.out b hb) (Nat.le_trans HO4.out.size hBX.2.size)
               · exact Nat.lt_of_lt_of_le HX4.out.lt hBX.2.size
              have CO:=HR.out (fun b=>S b∨b=w.heap.size) X hBX.1 hSX
              unfold kF at CO
              simp only [Int.ofNat_zero,Int.natCast_zero,List.drop_zero] at CO
              go_simp
              (with_reducible refine CO.mono ?_)
              rintro e w5 ⟨hC5,hO5,A2,m2,c2,d2,rfl,hv2⟩
              go_simp
              exact hKK _ _ (⟨hC5,hBX.2.maps_trans hO5⟩) (hBX.1.keep hO5) ⟨A2,m2,c2,d2,rfl,hv2⟩
            refine StepsF.cons rfl (fun _ _=>rfl) (fun Q u X hBX hp KK hKK=>?_) ?_
            · have p0:u 0=_:=hp 0 rfl
              obtain ⟨A2,m2,c2,d2,p5,hv2⟩:=hp 5 rfl
              clear hp
              generalize u 0=x0 at *
              subst p0
              generalize u 5=x5 at *
              subst p5
              have hva:=HV4.out.kept (HC4.out.keep hBX.2)
              go_simp
              (with_reducible refine (tr_plus As ns cs bs _ A2 m2 c2 d2 _ X hva hv2).mono ?_)
              rintro e w5 ⟨hB5,A4,m4,c4,d4,rfl,hv4⟩
              go_simp
              exact hKK _ _ (⟨hBX.1.below hB5,hBX.2.maps_trans (Off.of_below hB5)⟩) (IntKeep.of_below hB5) ⟨A4,m4,c4,d4,rfl,hv4⟩
            exact StepsF.nil
          · intro Q u X hBX hp KK hKK
            obtain ⟨A4,m4,c4,d4,p6,hv4⟩:=hp 6 (by decide)
            clear hp
            generalize u 6=x6 at *
            subst p6
            have hXX:=hBX.2.blk HX4.out (HC4.out.not_map HX4.out)
            have cg0:X.cell? ⟨w.heap.size,0,none⟩=some (.slice As ns cs):=hXX.cell 0
            have cg1:X.cell? ⟨w.heap.size,1,none⟩=some (.bool bs):=hXX.cell 1
            have hxl:=hXX.lt
            have fz0:=hXX.frozen 0
            have fz1:=hXX.frozen 1
            have hKK2:=hBX.2.blk HK4.out (HC4.out.not_map HK4.out)
            have hst:=hBX.1.store hXX (.inr rfl) hg0 A4 m4 c4 d4
            have Hfin:=Lib.hid (And.intro hst.1 (And.intro ((HO4.out.maps_trans hBX.2).maps_new hst.2.1 (Nat.le_refl _)) (And.intro hst.2.2.2 (And.intro (hst.2.1.blk hKK2 (fun e=>by omega)) (hv4.kept hst.2.2.1)))))
            clear hst hXX hKK2
            go_simp
            exact hKK (fun i=>([u 0,u 1,u 2,u 3,u 4,u 5,Value.agg #[Value.slice A4 m4 c4,Value.bool d4]]:List Value).getD i undef) _ (⟨A4,m4,c4,d4,Hfin.out⟩)
          intro u W9 hfin
          obtain ⟨A9,n9,c9,d9,g1,g2,g3,g5,g4⟩:=hfin
          have HC9:=Lib.hid g1
          have HO9:=Lib.hid g2
          have HX9:=Lib.hid g3
          have HK9:=Lib.hid g5
          rw [← Hrt.out] at g4
          have HV9:=Lib.hid g4
          clear g1 g2 g3 g4 g5
          go_wp2_with fail
          go_roundw
          case rel=>exact ⟨q+1,A9,n9,c9,d9,by omega,by go_num,HC9,HO9,HX9,HK9,HV9⟩
          case measure=>simp [intOf] <;> omega
        case neg =>
         obtain rfl:q=h.n3:=by omega
         have Hval:Hid (rulesT (treeN G) (G.rules.take h.n3) j n=treeN G s n):=Lib.hid (by rw [List.take_of_length_le (by omega),treeN_non HP.out hs0 Hsl.out,hnj])
         obtain ⟨kc1,_,_,_,kc5,_⟩:=HC.out.cells
         have xl:=HX.out.lt
         have y0:wr.cell? ⟨gK,0,none⟩=some (.int .i64 s):=HK.out.cell 0
         have y1:wr.cell? ⟨gK,1,none⟩=some (.int .i64 (n:Int)):=HK.out.cell 1
         have yl:=HK.out.lt
         have hgl:W0.heap.size≤w.heap.size:=hg0
         go_upto_region 15 with fail
         have bc:=bl_cell wr
         refine wp_region_below_tail 5 (by kernel_rfl) (by kernel_rfl) ?_
         simp only [List.take_succ_cons,List.take_zero,List.drop_succ_cons,List.drop_zero]
         repeat (go_big_quiet_step (fail))
         refine wpQuiet_nil ?_
         rintro _ ⟨y,rfl⟩
         have hby:=bl_below wr y
         have HC6:=Lib.hid ((HC.out.below hby).less (S':=S) fun b hb => .inl hb)
         have HO6:=Lib.hid (HO.out.maps_trans (Off.of_below hby))
         have HX6:=Lib.hid (HX.out.ext hby)
         have HV6:=Lib.hid (HV.out.below hby)
         have hgS:¬ S w.heap.size:=fun hb=>Nat.lt_irrefl _ (HS.out _ hb)
         clear hby bc HC HO HX HV HK y0 y1 yl kc1 kc5 xl
         generalize bl wr y=W6 at *
         obtain ⟨ts6,ht6⟩:=HC6.out.trees
         have hgood:GoodK Tryz.prog 247 (kT s n):=keyOf_kT (by have:=Hsl.out;unfold nonI at this;omega) (by omega) (by omega)
         unfold kT at hgood
         try simp only [Int.ofNat_zero,Int.natCast_zero] at hgood
         have hfew:=ht6.few
         have HT6:=Lib.hid ht6
         have Hgood:=Lib.hid hgood
         have Hfew:=Lib.hid hfew
         clear ht6 hgood hfew
         rw [Hval.out] at HV6
         go_wp2_with (
          at_mapUpdate
          refine wpl_update _ rfl _ _ _ 138 rfl 248 k.t w.heap.size Tryz.keyKT Tryz.underlying138 HT6.out.map Hfew.out (.agg #[.int .i64 s, .int .i64 (n:Int)]) Hgood.out rfl rfl rfl ?_
          intro w7 hm7 hgr7
          obtain ⟨hC7,hO7⟩:=HC6.out.putT HT6.out hs0 (by have:=Hsl.out;omega) (by omega) ⟨As,ns,cs,bs,HX6.out,HV6.out⟩ hgS hm7 hgr7
          have X7:=hO7.blk HX6.out (HC6.out.not_map HX6.out)
          have V7:=HV6.out.kept (HC6.out.keep hO7)
          have e1:=setCell_self (i:=0) (v := .slice As ns cs) X7 rfl
          have e2':(w7.setCell ⟨w.heap.size,0,none⟩ (.slice As ns cs)).setCell ⟨w.heap.size,1,none⟩ (.bool bs)=w7:=by rw [e1];exact setCell_self (i:=1) (v := .bool bs) X7 rfl
          have Hend:Hid (Blk ((w7.setCell ⟨w.heap.size,0,none⟩ (.slice As ns cs)).setCell ⟨w.heap.size,1,none⟩ (.bool bs)) w.heap.size 77 #[.slice As ns cs, .bool bs]∧CRet W0 k h G S w (treeN G s n) (.returned (.agg #[.slice As ns cs, .bool bs])) ((w7.setCell ⟨w.heap.size,0,none⟩ (.slice As ns cs)).setCell ⟨w.heap.size,1,none⟩ (.bool bs))):=Lib.hid (by rw [e2'];exact ⟨X7,hC7,HO6.out.maps_trans hO7,As,ns,cs,bs,rfl,V7⟩)
          have c0:w7.cell? ⟨w.heap.size,0,none⟩=some (.slice As ns cs):=X7.cell 0
          have c1:w7.cell? ⟨w.heap.size,1,none⟩=some (.bool bs):=X7.cell 1
          have f0:=X7.frozen 0
          have f1:=X7.frozen 1
          have l5:=X7.lt
          clear hC7 hO7 X7 V7 hm7 hgr7 e1 e2')
         refine bodyPost_ret (results_cell_row (p:=6) (by kernel_rfl) _ _ w.heap.size 77 #[.slice As ns cs, .bool bs] (0,0) _ rfl Hend.out.1 Tryz.underlying77 rfl (by kernel_rfl)) rfl ?_
         exact Hend.out.2
   · clear hz Hnull
     go_upto_region 6 with fail
     have hkB:=alloc_below W1 (.cells #[.int .i64 s, .int .i64 0] 247)
     have hkX:=Blk.new W1 247 #[.int .i64 s, .int .i64 0]
     have hkg:w.heap.size < W1.heap.size:=HX1.out.lt
     have HC2:=Lib.hid (HC1.out.below hkB)
     have HO2:=Lib.hid (HO1.out.maps_trans (Off.of_below hkB))
     have HX2:=Lib.hid (HX1.out.ext hkB)
     clear c0 c1 f0 f1 l1 hat kc1 kn1 kc4 hkB HX1 HC1 HO1
     generalize W1.alloc (.cells #[.int .i64 s, .int .i64 0] 247)=W2 at *
     generalize W1.heap.size=gK at *
     have HK2:=Lib.hid hkX
     obtain ⟨ts,ht⟩:=HC2.out.trees
     have hlk:=ht.look s 0 hs0 (by have:=Hsl.out;omega) (by omega)
     unfold kT at hlk
     try simp only [Int.ofNat_zero,Int.natCast_zero] at hlk
     obtain ⟨kc1,_,_,_,kc5,_⟩:=HC2.out.cells
     have y0:W2.cell? ⟨gK,0,none⟩=some (.int .i64 s):=hkX.cell 0
     have y1:W2.cell? ⟨gK,1,none⟩=some (.int .i64 0):=hkX.cell 1
     have yl:=hkX.lt
     clear hkX ht
     rcases hlk with ⟨bv,hlk,hv⟩ | hlk
     · obtain ⟨Av,nv,cv,dv,hbv,hvv⟩:=hv
       have bc:=bl_cell W2
       refine wp_region_below (by kernel_rfl) (by kernel_rfl) ?_
       repeat (go_big_quiet_step (fail))
       refine wpQuiet_nil ?_
       rintro _ ⟨y,rfl⟩
       have hby:=bl_below W2 y
       have X4:=HX2.out.ext hby
       have hbv2:=hbv.ext hby
       have Hend:=Lib.hid (cnt_store (S':=S) (HC2.out.below hby) X4 (hvv.below hby) (HO2.out.maps_trans (Off.of_below hby)) (.inr rfl) hg0 (Nat.le_refl _) fun q hq => .inl hq)
       have c0:(bl W2 y).cell? ⟨w.heap.size,0,none⟩=some (.slice none 0 0):=X4.cell 0
       have c1:(bl W2 y).cell? ⟨w.heap.size,1,none⟩=some (.bool false):=X4.cell 1
       have f0:=X4.frozen 0
       have f1:=X4.frozen 1
       have l5:=X4.lt
       have v0:(bl W2 y).cell? ⟨bv,0,none⟩=some (.slice Av nv cv):=hbv2.cell 0
       have v1:(bl W2 y).cell? ⟨bv,1,none⟩=some (.bool dv):=hbv2.cell 1
       have l6:=hbv2.lt
       clear hlk hbv hvv bc hby X4 hbv2 y0 y1 yl kc1 kc5
       generalize bl W2 y=W3 at *
       go_wp2_with fail
       refine bodyPost_ret (results_cell_row (p:=6) (by kernel_rfl) _ _ w.heap.size 77 #[.slice Av nv cv, .bool dv] (0,0) _ rfl Hend.out.1 Tryz.underlying77 rfl (by kernel_rfl)) rfl ?_
       exact Hend.out.2
     · have bc:=bl_cell W2
       refine wp_region_below (by kernel_rfl) (by kernel_rfl) ?_
       repeat (go_big_quiet_step (fail))
       refine wpQuiet_nil ?_
       rintro _ ⟨y,rfl⟩
       have hby:=bl_below W2 y
       have HC3:=Lib.hid (HC2.out.below hby)
       have HO3:=Lib.hid (HO2.out.maps_trans (Off.of_below hby))
       have HX3:=Lib.hid (HX2.out.ext hby)
       have HK3:=Lib.hid (HK2.out.ext hby)
       clear hlk bc hby kc1 kc5 y0 y1 yl HC2 HO2 HX2 HK2
       generalize bl W2 y=W3 at *
       obtain ⟨kc1,_,kc3,_,_,_⟩:=HC3.out.cells
       have hcap3:=k3
       go_wp2_with fail
       go_loopw [49] (fun i wr=>∃ (q:Nat) (As:Option Addr) (ns cs:Nat) (bs:Bool),q≤h.n3∧i = .int .i64 (q:Int)∧Hid (CntAt W0 k h G (fun b=>S b∨b=w.heap.size) wr)∧Hid (Off k.maps w wr)∧Hid (Blk wr w.heap.size 77 #[.slice As ns cs, .bool bs])∧Hid (Blk wr gK 247 #[.int .i64 s, .int .i64 0])∧Hid (ValN wr As ns cs bs (rulesT (treeN G) (G.rules.take q) j 0))) (fun i _=>h.n3 - (intOf i).toNat)
       case atStart=>exact ⟨0,none,0,0,false,Nat.zero_le _,rfl,HC3,HO3,HX3,HK3,Lib.hid (ValN.zero _ _ _ (by omega))⟩
       case round =>
        clear HC3 HO3 HX3 HK3 kc1 kc3
        obtain ⟨q,As,ns,cs,bs,hq,rfl,HC,HO,HX,HK,HV⟩:=hrel
        by_cases hqq:q < h.n3
        case pos =>
         obtain ⟨rb,roff,r,Ar,cr,ha3,hrb,Hr,q0,q1,q2,hrr⟩:=Hg.out.rules.get hqq
         have hmem:=List.mem_of_getElem? Hr.out
         have hBs:=HC.out.base
         have hrb2:rb < wr.heap.size:=Nat.lt_of_lt_of_le hrb hBs.size
         have p0:=(hBs.cell (p:=⟨rb,roff+q * 3,none⟩) hrb).trans q0
         have p1:=(hBs.cell (p:=⟨rb,roff+q * 3+1,none⟩) hrb).trans q1
         have p2:=(hBs.cell (p:=⟨rb,roff+q * 3+2,none⟩) hrb).trans q2
         have hB4:=alloc_below wr (.cells #[.int .i64 r.left, .slice Ar r.right.length cr, .int .i64 r.prec] 52)
         have hR4:=Blk.new wr 52 #[.int .i64 r.left, .slice Ar r.right.length cr, .int .i64 r.prec]
         have HC4:=Lib.hid (HC.out.below hB4)
         have HO4:=Lib.hid (HO.out.maps_trans (Off.of_below hB4))
         have HX4:=Lib.hid (HX.out.ext hB4)
         have HK4:=Lib.hid (HK.out.ext hB4)
         have HV4:=Lib.hid (HV.out.below hB4)
         have hrt:=rulesT_takeC (T:=treeN G) Hr.out j 0
         have hlr:=HP.out.fits.left r hmem
         rw [ha3]
         go_upto_region 12 with fail
         generalize wr.alloc (.cells #[.int .i64 r.left, .slice Ar r.right.length cr, .int .i64 r.prec] 52)=W4 at *
         have r0:W4.cell? ⟨wr.heap.size,0,none⟩=some (.int .i64 r.left):=hR4.cell 0
         have rl:=hR4.lt
         have hgv4:w.heap.size < wr.heap.size:=HX.out.lt
         clear hB4 hR4 hBs p0 p1 p2 q0 q1 q2 hrb hrb2 hrr HC HO HX HK HV
         generalize wr.heap.size=gR at *
         by_cases hlj:r.left=(j:Int)
         case neg =>
          have hne:(r.left == (j:Int))=false:=by rw [beq_eq_false_iff_ne];exact hlj
          rw [if_neg (by omega),Nat.add_zero] at hrt
          have Hrt:=Lib.hid hrt
          clear hrt hlj
          go_wp2_with fail
          go_roundw
          case rel=>exact ⟨q+1,As,ns,cs,bs,by omega,by go_num,HC4,HO4,HX4,HK4,by rw [Hrt.out];exact HV4⟩
          case measure=>simp [intOf] <;> omega
         case pos =>
          have heq:(r.left == (j:Int))=true:=by rw [beq_iff_eq];exact hlj
          rw [if_pos (by omega)] at hrt
          have HR:=Lib.hid (tr_rule (k:=k) HP.out Hg.out h2 h3 (i:=q) (s0:=s) (n0:=0) Hr.out (by rw [hnj,hlj];rfl) HsM.out (by omega) (fun q' m' hq' hm'=>by
           by_cases h0':0≤q'
           · exact treeC_term h0' (by omega)
           · obtain ⟨a1,a2⟩:=hq' (by omega)
             exact Hih.out _ a2 m' q' (fun _=>⟨a1,rfl⟩) (by omega)) _ 0 0 rfl (Nat.zero_le _) (Nat.le_refl _) (fun _ p sx hp=>absurd hp (Nat.not_lt_zero p)))
          have Hrt:=Lib.hid hrt
          clear hrt
          go_upto_region 13 with fail
          clear hlj heq
          refine wp_region_grow1 (fun X=>MidC W0 k h G (fun b=>S b∨b=w.heap.size) W4 X) (fun X X'=>IntKeep X X') (fun u=>(⟨(Value.pointer (some ⟨k.c,0,none⟩)::Value.int IntKind.i64 s::Value.int IntKind.i64 0::undef::undef::undef::Value.pointer (some ⟨w.heap.size,0,none⟩)::Value.pointer (some ⟨gK,0,none⟩)::Value.pointer none::Value.int IntKind.i64 (q:Int)::Value.pointer (some ⟨gR,0,none⟩)::Value.int IntKind.i64 s::Value.bool false::undef::undef::Value.int IntKind.i64 0::Value.bool true::Value.bool true::Value.pointer (some ⟨k.c,0,none⟩)::Value.pointer (some ⟨k.c,0,none⟩)::Value.pointer (some ⟨k.c,4,none⟩)::Value.slice (some ⟨k.n,0,none⟩) h.n2 h.n2::Value.int IntKind.i64 s::Value.int IntKind.i64 (j:Int)::Value.pointer (some ⟨k.n,j,none⟩)::Value.bool true::Value.bool false::Value.bool false::undef::Value.int IntKind.i64 s::Value.int IntKind.i64 0::Value.agg #[Value.int IntKind.i64 s,Value.int IntKind.i64 0]::Value.pointer (some ⟨k.c,0,none⟩)::Value.pointer (some ⟨k.c,0,none⟩)::Value.pointer (some ⟨k.c,5,none⟩)::Value.map (some k.t)::Value.agg #[Value.int IntKind.i64 s,Value.int IntKind.i64 0]::Value.pointer none::Value.pointer none::Value.bool false::undef::undef::undef::Value.pointer (some ⟨k.c,0,none⟩)::Value.pointer (some ⟨k.c,0,none⟩)::Value.pointer (some ⟨k.c,0,none⟩)::Value.pointer (some ⟨k.c,2,none⟩)::Value.slice (some ⟨rb,roff,none⟩) h.n3 h.c3::Value.int IntKind.i64 (h.n3:Int)::Value.int IntKind.i64 (q:Int)::Value.bool true::Value.int IntKind.i64 (q:Int)::Value.pointer (some ⟨rb,roff+q * 3,none⟩)::Value.agg #[Value.int IntKind.i64 r.left,Value.slice Ar r.right.length cr,Value.int IntKind.i64 r.prec]::Value.pointer (some ⟨gR,0,none⟩)::Value.int IntKind.i64 (j:Int)::Value.int IntKind.i64 s::Value.int IntKind.i64 (j:Int)::Value.bool true::u 0::u 1::u 2::u 3::u 4::u 5::u 6::u66::undef::undef::undef::undef::undef::undef::[]).toArray,[]⟩:Act)) [u59,u60,u61,u62,u63,u64,u65] [fun v X=>v=Value.agg #[Value.slice As ns cs,Value.bool bs],fun v X=>v=Value.pointer (some ⟨k.c,0,none⟩),fun v X=>v=Value.int .i64 (q:Int),fun v X=>v=Value.int .i64 0,fun v X=>v=Value.agg #[Value.int .i64 (q:Int),Value.int .i64 0,Value.int .i64 0],fun v X=>∃ Aq nq cq bq,v=Value.agg #[Value.slice Aq nq cq,Value.bool bq]∧ValN X Aq nq cq bq (forestT (treeN G) r.right 0),fun v X=>∃ Aq nq cq bq,v=Value.agg #[Value.slice Aq nq cq,Value.bool bq]∧ValN X Aq nq cq bq (rulesT (treeN G) (G.rules.take q) j 0+forestT (treeN G) r.right 0)] (fun u X=>∃ A9 n9 c9 d9,CntAt W0 k h G (fun b=>S b∨b=w.heap.size) X∧Off k.maps w X∧Blk X w.heap.size 77 #[Value.slice A9 n9 c9,Value.bool d9]∧Blk X gK 247 #[Value.int .i64 s,Value.int .i64 0]∧ValN X A9 n9 c9 d9 (rulesT (treeN G) (G.rules.take q) j 0+forestT (treeN G) r.right 0)) (l:=[_,_,_,_,_,_,_]) (by kernel_rfl) (by kernel_rfl) (by kernel_rfl) rfl rfl ⟨HC4.out.below (Below.refl _ _).drew,Off.of_below (Below.refl _ _).drew⟩ ⟨fun _ _ _ h _=>h,fun _ _ _ h _=>h,fun _ _ _ h _=>h,fun _ _ _ h _=>h,fun _ _ _ h _=>h,(fun _ _ _ ⟨A,n,c,b,e,h⟩ hb=>⟨A,n,c,b,e,h.kept hb⟩),(fun _ _ _ ⟨A,n,c,b,e,h⟩ hb=>⟨A,n,c,b,e,h.kept hb⟩),trivial⟩ ?_ ?_ ?_
          · refine StepsF.cons rfl (fun _ _=>rfl) (fun Q u X hBX hp KK hKK=>?_) ?_
            · have hXX:=hBX.2.blk HX4.out (HC4.out.not_map HX4.out)
              have cg0:X.cell? ⟨w.heap.size,0,none⟩=some (.slice As ns cs):=hXX.cell 0
              have cg1:X.cell? ⟨w.heap.size,1,none⟩=some (.bool bs):=hXX.cell 1
              have hxl:=hXX.lt
              go_simp
              exact hKK _ _ hBX ⟨Nat.le_refl _,fun _ _ _=>rfl⟩ rfl
            refine StepsF.cons rfl (fun _ _=>rfl) (fun Q u X hBX hp KK hKK=>?_) ?_
            · go_simp
              exact hKK _ _ hBX ⟨Nat.le_refl _,fun _ _ _=>rfl⟩ rfl
            refine StepsF.cons rfl (fun _ _=>rfl) (fun Q u X hBX hp KK hKK=>?_) ?_
            · go_simp
              exact hKK _ _ hBX ⟨Nat.le_refl _,fun _ _ _=>rfl⟩ rfl
            refine StepsF.cons rfl (fun _ _=>rfl) (fun Q u X hBX hp KK hKK=>?_) ?_
            · go_simp
              exact hKK _ _ hBX ⟨Nat.le_refl _,fun _ _ _=>rfl⟩ rfl
            refine StepsF.cons rfl (fun _ _=>rfl) (fun Q u X hBX hp KK hKK=>?_) ?_
            · have p2:u 2=_:=hp 2 rfl
              have p3:u 3=_:=hp 3 rfl
              clear hp
              generalize u 2=x2 at *
              subst p2
              generalize u 3=x3 at *
              subst p3
              go_simp
              exact hKK _ _ hBX ⟨Nat.le_refl _,fun _ _ _=>rfl⟩ rfl
            refine StepsF.cons rfl (fun _ _=>rfl) (fun Q u X hBX hp KK hKK=>?_) ?_
            · have p1:u 1=_:=hp 1 rfl
              have p4:u 4=_:=hp 4 rfl
              clear hp
              generalize u 1=x1 at *
              subst p1
              generalize u 4=x4 at *
              subst p4
              have hSX:∀ b,(S b∨b=w.heap.size)→b < X.heap.size:=fun b hb=>by
               rcases hb with hb | rfl
               · exact Nat.lt_of_lt_of_le (HS.out b hb) (Nat.le_trans HO4.out.size hBX.2.size)
               · exact Nat.lt_of_lt_of_le HX4.out.lt hBX.2.size
              have CO:=HR.out (fun b=>S b∨b=w.heap.size) X hBX.1 hSX
              unfold kF at CO
              simp only [Int.ofNat_zero,Int.natCast_zero,List.drop_zero] at CO
              go_simp
              (with_reducible refine CO.mono ?_)
              rintro e w5 ⟨hC5,hO5,A2,m2,c2,d2,rfl,hv2⟩
              go_simp
              exact hKK _ _ (⟨hC5,hBX.2.maps_trans hO5⟩) (hBX.1.keep hO5) ⟨A2,m2,c2,d2,rfl,hv2⟩
            refine StepsF.cons rfl (fun _ _=>rfl) (fun Q u X hBX hp KK hKK=>?_) ?_
            · have p0:u 0=_:=hp 0 rfl
              obtain ⟨A2,m2,c2,d2,p5,hv2⟩:=hp 5 rfl
              clear hp
              generalize u 0=x0 at *
              subst p0
              generalize u 5=x5 at *
              subst p5
              have hva:=HV4.out.kept (HC4.out.keep hBX.2)
              go_simp
              (with_reducible refine (tr_plus As ns cs bs _ A2 m2 c2 d2 _ X hva hv2).mono ?_)
              rintro e w5 ⟨hB5,A4,m4,c4,d4,rfl,hv4⟩
              go_simp
              exact hKK _ _ (⟨hBX.1.below hB5,hBX.2.maps_trans (Off.of_below hB5)⟩) (IntKeep.of_below hB5) ⟨A4,m4,c4,d4,rfl,hv4⟩
            exact StepsF.nil
          · intro Q u X hBX hp KK hKK
            obtain ⟨A4,m4,c4,d4,p6,hv4⟩:=hp 6 (by decide)
            clear hp
            generalize u 6=x6 at *
            subst p6
            have hXX:=hBX.2.blk HX4.out (HC4.out.not_map HX4.out)
            have cg0:X.cell? ⟨w.heap.size,0,none⟩=some (.slice As ns cs):=hXX.cell 0
            have cg1:X.cell? ⟨w.heap.size,1,none⟩=some (.bool bs):=hXX.cell 1
            have hxl:=hXX.lt
            have fz0:=hXX.frozen 0
            have fz1:=hXX.frozen 1
            have hKK2:=hBX.2.blk HK4.out (HC4.out.not_map HK4.out)
            have hst:=hBX.1.store hXX (.inr rfl) hg0 A4 m4 c4 d4
            have Hfin:=Lib.hid (And.intro hst.1 (And.intro ((HO4.out.maps_trans hBX.2).maps_new hst.2.1 (Nat.le_refl _)) (And.intro hst.2.2.2 (And.intro (hst.2.1.blk hKK2 (fun e=>by omega)) (hv4.kept hst.2.2.1)))))
            clear hst hXX hKK2
            go_simp
            exact hKK (fun i=>([u 0,u 1,u 2,u 3,u 4,u 5,Value.agg #[Value.slice A4 m4 c4,Value.bool d4]]:List Value).getD i undef) _ (⟨A4,m4,c4,d4,Hfin.out⟩)
          intro u W9 hfin
          obtain ⟨A9,n9,c9,d9,g1,g2,g3,g5,g4⟩:=hfin
          have HC9:=Lib.hid g1
          have HO9:=Lib.hid g2
          have HX9:=Lib.hid g3
          have HK9:=Lib.hid g5
          rw [← Hrt.out] at g4
          have HV9:=Lib.hid g4
          clear g1 g2 g3 g4 g5
          go_wp2_with fail
          go_roundw
          case rel=>exact ⟨q+1,A9,n9,c9,d9,by omega,by go_num,HC9,HO9,HX9,HK9,HV9⟩
          case measure=>simp [intOf] <;> omega
        case neg =>
         obtain rfl:q=h.n3:=by omega
         have Hval:Hid (rulesT (treeN G) (G.rules.take h.n3) j 0=treeN G s 0):=Lib.hid (by rw [List.take_of_length_le (by omega),treeN_non HP.out hs0 Hsl.out,hnj])
         obtain ⟨kc1,_,_,_,kc5,_⟩:=HC.out.cells
         have xl:=HX.out.lt
         have y0:wr.cell? ⟨gK,0,none⟩=some (.int .i64 s):=HK.out.cell 0
         have y1:wr.cell? ⟨gK,1,none⟩=some (.int .i64 0):=HK.out.cell 1
         have yl:=HK.out.lt
         have hgl:W0.heap.size≤w.heap.size:=hg0
         go_upto_region 15 with fail
         have bc:=bl_cell wr
         refine wp_region_below_tail 5 (by kernel_rfl) (by kernel_rfl) ?_
         simp only [List.take_succ_cons,List.take_zero,List.drop_succ_cons,List.drop_zero]
         repeat (go_big_quiet_step (fail))
         refine wpQuiet_nil ?_
         rintro _ ⟨y,rfl⟩
         have hby:=bl_below wr y
         have HC6:=Lib.hid ((HC.out.below hby).less (S':=S) fun b hb => .inl hb)
         have HO6:=Lib.hid (HO.out.maps_trans (Off.of_below hby))
         have HX6:=Lib.hid (HX.out.ext hby)
         have HV6:=Lib.hid (HV.out.below hby)
         have hgS:¬ S w.heap.size:=fun hb=>Nat.lt_irrefl _ (HS.out _ hb)
         clear hby bc HC HO HX HV HK y0 y1 yl kc1 kc5 xl
         generalize bl wr y=W6 at *
         obtain ⟨ts6,ht6⟩:=HC6.out.trees
         have hgood:GoodK Tryz.prog 247 (kT s 0):=keyOf_kT (by have:=Hsl.out;unfold nonI at this;omega) (by omega) (by omega)
         unfold kT at hgood
         try simp only [Int.ofNat_zero,Int.natCast_zero] at hgood
         have hfew:=ht6.few
         have HT6:=Lib.hid ht6
         have Hgood:=Lib.hid hgood
         have Hfew:=Lib.hid hfew
         clear ht6 hgood hfew
         rw [Hval.out] at HV6
         go_wp2_with (
          at_mapUpdate
          refine wpl_update _ rfl _ _ _ 138 rfl 248 k.t w.heap.size Tryz.keyKT Tryz.underlying138 HT6.out.map Hfew.out (.agg #[.int .i64 s, .int .i64 0]) Hgood.out rfl rfl rfl ?_
          intro w7 hm7 hgr7
          obtain ⟨hC7,hO7⟩:=HC6.out.putT HT6.out hs0 (by have:=Hsl.out;omega) (by omega) ⟨As,ns,cs,bs,HX6.out,HV6.out⟩ hgS hm7 hgr7
          have X7:=hO7.blk HX6.out (HC6.out.not_map HX6.out)
          have V7:=HV6.out.kept (HC6.out.keep hO7)
          have e1:=setCell_self (i:=0) (v := .slice As ns cs) X7 rfl
          have e2':(w7.setCell ⟨w.heap.size,0,none⟩ (.slice As ns cs)).setCell ⟨w.heap.size,1,none⟩ (.bool bs)=w7:=by rw [e1];exact setCell_self (i:=1) (v := .bool bs) X7 rfl
          have Hend:Hid (Blk ((w7.setCell ⟨w.heap.size,0,none⟩ (.slice As ns cs)).setCell ⟨w.heap.size,1,none⟩ (.bool bs)) w.heap.size 77 #[.slice As ns cs, .bool bs]∧CRet W0 k h G S w (treeN G s 0) (.returned (.agg #[.slice As ns cs, .bool bs])) ((w7.setCell ⟨w.heap.size,0,none⟩ (.slice As ns cs)).setCell ⟨w.heap.size,1,none⟩ (.bool bs))):=Lib.hid (by rw [e2'];exact ⟨X7,hC7,HO6.out.maps_trans hO7,As,ns,cs,bs,rfl,V7⟩)
          have c0:w7.cell? ⟨w.heap.size,0,none⟩=some (.slice As ns cs):=X7.cell 0
          have c1:w7.cell? ⟨w.heap.size,1,none⟩=some (.bool bs):=X7.cell 1
          have f0:=X7.frozen 0
          have f1:=X7.frozen 1
          have l5:=X7.lt
          clear hC7 hO7 X7 V7 hm7 hgr7 e1 e2')
         refine bodyPost_ret (results_cell_row (p:=6) (by kernel_rfl) _ _ w.heap.size 77 #[.slice As ns cs, .bool bs] (0,0) _ rfl Hend.out.1 Tryz.underlying77 rfl (by kernel_rfl)) rfl ?_
         exact Hend.out.2
end Go.Proofs.YtggbjdmpjidhgaaGreatDoor
