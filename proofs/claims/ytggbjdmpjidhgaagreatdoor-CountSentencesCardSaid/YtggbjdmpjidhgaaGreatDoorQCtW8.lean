/- the program's counter: a rule from a place on, walked. -/
import Derived.Test.YtggbjdmpjidhgaaGreatDoorQCtW7
import Derived.Test.YtggbjdmpjidhgaaGreatDoorQCtU1
set_option linter.unusedVariables false
set_option linter.unusedSimpArgs false
set_option maxHeartbeats 8000000
set_option maxRecDepth 100000
namespace Go.Proofs.YtggbjdmpjidhgaaGreatDoor
open Go.RowKit
theorem enters_crule1:∀ args w,(callFunc 228 args).run Tryz.prog w = .ok (.enter 228 args) w:=fun args w=>by kernel_rfl
theorem enters_cforest1:∀ args w,(callFunc 93 args).run Tryz.prog w = .ok (.enter 93 args) w:=fun args w=>by kernel_rfl
theorem cnt_store {W0 w Wc:World} {k:CH} {h:GH} {G:Gr} {S S':Nat→Prop} (C:CntAt W0 k h G S w) {g:Nat} {A0 A:Option Addr} {n0 c0 n c:Nat} {b0 b:Bool} {x:Nat} (hX:Blk w g 77 #[.slice A0 n0 c0, .bool b0]) (hV:ValN w A n c b x) (hO:Off k.maps Wc w) (hS:S g) (hg0:W0.heap.size≤g) (hg:Wc.heap.size≤g) (hl:∀ q,S' q→S q) :
 Blk ((w.setCell ⟨g,0,none⟩ (.slice A n c)).setCell ⟨g,1,none⟩ (.bool b)) g 77 #[.slice A n c, .bool b] ∧
  CRet W0 k h G S' Wc x (.returned (.agg #[.slice A n c, .bool b])) ((w.setCell ⟨g,0,none⟩ (.slice A n c)).setCell ⟨g,1,none⟩ (.bool b)):=by
 obtain ⟨h1,h2,h3,h4⟩:=C.store hX hS hg0 A n c b
 exact ⟨h4,h1.less hl,hO.maps_new h2 hg,A,n,c,b,rfl,hV.kept h3⟩
theorem tr_rule1 {W0:World} {k:CH} {h:GH} {G:Gr} {S:Nat→Prop} (x:Rul) (i d m0 m g2 g3:Nat) (X:World) (C:CntAt W0 k h G S X) (hS:∀ b,S b→b < X.heap.size) (b2:Blk X g2 78 #[.pointer (some ⟨k.c,0,none⟩)]) (b3:Blk X g3 251 #[.int .i64 (i:Int), .int .i64 (d:Int), .int .i64 (m0:Int)])
 (hR:RuleC W0 k h G x i (d+1) m) (hd:d≤1000) :
 Calls Tryz.prog 228 #[.int .i64 (m:Int), .pointer (some ⟨g2,0,none⟩), .pointer (some ⟨g3,0,none⟩)] X (CRet W0 k h G S X (forestT (treeN G) (x.right.drop (d+1)) m)):=by
 have hB1:=alloc_below X (.cells #[.slice none 0 0, .bool false] 77)
 have hX1:=Blk.new X 77 #[.slice none 0 0, .bool false]
 have hC1:=C.more hB1 (Nat.le_refl X.heap.size)
 have hO1:Off k.maps X (X.alloc (.cells #[.slice none 0 0, .bool false] 77)):=Off.of_below hB1
 have b2':=b2.ext hB1
 have b3':=b3.ext hB1
 have hsz:(X.alloc (.cells #[.slice none 0 0, .bool false] 77)).heap.size=X.heap.size+1:=alloc_size _ _
 have hg0:=C.base.size
 go_enter Tryz.func228,Tryz.ntmps228
 go_upto_region 1 with fail
 have CR:=hR _ _ hC1 (fun b hb=>by
  rw [hsz]
  rcases hb with hb | rfl
  · exact Nat.lt_succ_of_lt (hS b hb)
  · exact Nat.lt_succ_self _)
 unfold kF at CR
 have hcast:((d+1:Nat):Int)=(d:Int)+1:=by omega
 rw [hcast] at CR
 generalize X.alloc (.cells #[.slice none 0 0, .bool false] 77)=W1 at *
 have HC1:=LH hC1
 have HX1:=LH hX1
 have HO1:=LH hO1
 have HCR:=LH CR
 have l1:=hX1.lt
 have l2:=b2'.lt
 have l3:=b3'.lt
 have p0:W1.cell? ⟨g2,0,none⟩=some (.pointer (some ⟨k.c,0,none⟩)):=b2'.cell 0
 have t0:W1.cell? ⟨g3,0,none⟩=some (.int .i64 (i:Int)):=b3'.cell 0
 have t1:W1.cell? ⟨g3,1,none⟩=some (.int .i64 (d:Int)):=b3'.cell 1
 have hadd:IntKind.i64.wrap ((d:Int)+1)=(d:Int)+1:=IntWalk.i64_in _ (by omega)
 clear C b2 b3 b2' b3' hC1 hX1 hO1 hB1 CR hR hS hsz
 go_wp2_with fail
 (with_reducible refine HCR.out.mono ?_)
 rintro e w2 ⟨hC2,hO2,A2,n2,c2,d2,rfl,hv2⟩
 have hX2:=hO2.blk HX1.out (HC1.out.not_map HX1.out)
 have hend:=cnt_store (S':=S) hC2 hX2 hv2 (HO1.out.maps_trans hO2) (.inr rfl) hg0 (Nat.le_refl _) fun q hq => .inl hq
 have Hend:=LH hend
 have c0:w2.cell? ⟨X.heap.size,0,none⟩=some (.slice none 0 0):=hX2.cell 0
 have c1:w2.cell? ⟨X.heap.size,1,none⟩=some (.bool false):=hX2.cell 1
 have f0:=hX2.frozen 0
 have f1:=hX2.frozen 1
 have l4:=hX2.lt
 clear hC2 hO2 hv2 hX2 hend p0 t0 t1
 go_wp2_with fail
 refine bodyPost_ret (results_cell_row (p:=4) (by kernel_rfl) _ _ X.heap.size 77 #[.slice A2 n2 c2, .bool d2] (0,0) _ rfl Hend.out.1 Tryz.underlying77 rfl (by kernel_rfl)) rfl ?_
 exact Hend.out.2
theorem slice_from {W:World} {A:Option Addr} {n c:Nat} {zs:List Int} (h:Ints .i64 W A n c zs) {i:Nat} (hi:i≤n):∃ At:Option Addr,
 (∀ w:World,(Instr.sliceAt 27 (.slice A n c) (some (.int .i64 (i:Int))) none none).run Tryz.prog w = .ok (.slice At (n - i) (c - i)) w)∧Ints .i64 W At (n - i) (c - i) (zs.drop i):=by
 have hl:=h.len
 have hcap:=h.cap
 rcases Nat.eq_zero_or_pos n with rfl | hn
 · obtain rfl:i=0:=by omega
   have hz:zs=[]:=List.eq_nil_of_length_eq_zero hl
   subst hz
   refine ⟨A,fun w=>?_,Ints.nil _ _ _ _ (by omega)⟩
   rcases A with _ | a
   · go_simp
   · by_cases hc:c=0
     · go_simp
     · have hc2:¬ ((c:Int) < 0):=by omega
       go_simp
 · obtain ⟨b,off,s,rfl,hb,_,_⟩:=h.get (j:=0) hn
   refine ⟨if c=i then some ⟨b,off,none⟩ else some ⟨b,off+i,none⟩,fun w=>?_,?_⟩
   · have hno:¬ ((n:Int) < (i:Int)):=by omega
     go_simp
   · by_cases he:c=i
     · rw [if_pos he]
       obtain rfl:i=n:=by omega
       rw [Nat.sub_self,← hl,List.drop_length]
       exact Ints.nil _ _ _ _ (by omega)
     · rw [if_neg he]
       have:=h.part i (n - i) (c - i) (by omega) (by omega) (by omega)
       rwa [List.take_of_length_le (by rw [List.length_drop];omega)] at this
theorem drop_head {l l':List Int} {d:Nat} {s:Int} (h:l.drop d=s::l'):l[d]? = some s∧l'=l.drop (d+1)∧d < l.length:=by
 have hlt:d < l.length:=by
  rcases Nat.lt_or_ge d l.length with h1 | h1
  · exact h1
  · rw [List.drop_eq_nil_of_le h1] at h;cases h
 rw [List.drop_eq_getElem_cons hlt] at h
 injection h with h1 h2
 exact ⟨by rw [List.getElem?_eq_getElem hlt,h1],h2.symm,hlt⟩
theorem three_blks (w:World) (t1 t2 t3:TypeId) (x1 x2 x3:Array Value):Below w.heap.size w (((w.alloc (.cells x1 t1)).alloc (.cells x2 t2)).alloc (.cells x3 t3))∧Blk (((w.alloc (.cells x1 t1)).alloc (.cells x2 t2)).alloc (.cells x3 t3)) w.heap.size t1 x1 ∧
 Blk (((w.alloc (.cells x1 t1)).alloc (.cells x2 t2)).alloc (.cells x3 t3)) (w.heap.size+1) t2 x2∧Blk (((w.alloc (.cells x1 t1)).alloc (.cells x2 t2)).alloc (.cells x3 t3)) (w.heap.size+2) t3 x3:=by
 have hB1:=alloc_below w (.cells x1 t1)
 have hB2:=alloc_below (w.alloc (.cells x1 t1)) (.cells x2 t2)
 have hB3:=alloc_below ((w.alloc (.cells x1 t1)).alloc (.cells x2 t2)) (.cells x3 t3)
 have h1:=Blk.new w t1 x1
 have h2:=Blk.new (w.alloc (.cells x1 t1)) t2 x2
 have h3:=Blk.new ((w.alloc (.cells x1 t1)).alloc (.cells x2 t2)) t3 x3
 have e1:(w.alloc (.cells x1 t1)).heap.size=w.heap.size+1:=alloc_size _ _
 have e2:((w.alloc (.cells x1 t1)).alloc (.cells x2 t2)).heap.size=w.heap.size+2:=by rw [alloc_size,e1]
 have g2:=Blk.ext h2 hB3
 rw [e1] at g2
 rw [e2] at h3
 exact ⟨below_tail (below_tail hB1 hB2) hB3,Blk.ext (Blk.ext h1 hB2) hB3,g2,h3⟩
theorem tr_rule {W0:World} {k:CH} {h:GH} {G:Gr} (hP:Plain G) (hg:GrAt W0 h G) (h2:h.n2≤100) (h3:h.n3≤100) {M n0 i:Nat} {s0:Int} {x:Rul} (hx:G.rules[i]? = some x) (hs0:nonI s0=x.left.toNat) (hM:mu G n0 s0=M) (hn0:n0≤100)
 (hT:∀ (q:Int) (m:Nat),(q < 0→nonI q < G.nons.length∧mu G m q < M)→m≤n0→TreeC W0 k h G q m) :
 ∀ (c d m:Nat),x.right.length - d=c→d≤x.right.length→m≤n0→(m=n0→∀ (p:Nat) s,p < d→x.right[p]? = some s→nulB (nullN G) s=true)→RuleC W0 k h G x i d m:=by
 have e2:G.nons.length=h.n2:=hg.nons.len
 have e3:G.rules.length=h.n3:=hg.rules.len
 have k3:=hg.rules.cap
 have hmem:=List.mem_of_getElem? hx
 have hi:i < h.n3:=by rw [← e3];exact (List.getElem?_eq_some_iff.1 hx).1
 obtain ⟨rb,roff,r',Ar,cr,ha3,hrb,Hr',q0,q1,q2,hrr⟩:=hg.rules.get hi
 have hrx:r'=x:=by have:=Hr'.out;rw [hx] at this;exact (Option.some.inj this).symm
 subst hrx
 have hrl:r'.right.length≤100:=by have:=hP.fits.len r' hmem;omega
 have hsy:∀ s ∈ r'.right,-(h.n2:Int)≤s∧s≤1000:=fun s hs=>by have:=hP.fits.sym r' hmem s hs;have:=hP.fits.n1;omega
 have hNl:(nullN G).length=h.n2:=by rw [nullN_grown,grownN_len];exact e2
 have step:∀ (d m:Nat),d≤r'.right.length→m≤n0→(m=n0→∀ (p:Nat) s,p < d→r'.right[p]? = some s→nulB (nullN G) s=true) →
  (d < r'.right.length→∀ m',m'≤n0→(m'=n0→∀ (p:Nat) s,p < d+1→r'.right[p]? = some s→nulB (nullN G) s=true)→RuleC W0 k h G r' i (d+1) m')→RuleC W0 k h G r' i d m:=by
  intro d m hd hm hb hNext S w C hS
  obtain ⟨At,hsl,hIt⟩:=slice_from hrr hd
  have hdl:r'.right.length - d=(r'.right.drop d).length:=by rw [List.length_drop]
  rw [hdl] at hsl hIt
  have hdle:(r'.right.drop d).length≤100:=by rw [← hdl];omega
  have Hdl:=LH hdl
  clear hdl
  obtain ⟨hB1,b2,b3,b4⟩:=three_blks w 78 251 77 #[.pointer (some ⟨k.c,0,none⟩)] #[.int .i64 (i:Int), .int .i64 (d:Int), .int .i64 (m:Int)] #[.slice none 0 0, .bool false]
  have hC1:=C.more hB1 (Nat.le_add_right w.heap.size 2)
  have hO1:Off k.maps w (((w.alloc (.cells #[.pointer (some ⟨k.c,0,none⟩)] 78)).alloc (.cells #[.int .i64 (i:Int), .int .i64 (d:Int), .int .i64 (m:Int)] 251)).alloc (.cells #[.slice none 0 0, .bool false] 77)):=Off.of_below hB1
  have hg0:W0.heap.size≤w.heap.size+2:=Nat.le_trans C.base.size (Nat.le_add_right _ _)
  have HS:=LH hS
  have HbN:=LH hb
  have HNext:=LH hNext
  have HT:=LH hT
  have Hx:=LH hx
  have HP:=LH hP
  have Hsy:=LH hsy
  have HNl:=LH hNl
  have Hmem:=LH hmem
  have Hs0:=LH hs0
  have HM:=LH hM
  have HIt:=LH hIt
  unfold kF
  go_enter Tryz.func201,Tryz.ntmps201
  go_upto_region 1 with fail
  generalize ((w.alloc (.cells #[.pointer (some ⟨k.c,0,none⟩)] 78)).alloc (.cells #[.int .i64 (i:Int), .int .i64 (d:Int), .int .i64 (m:Int)] 251)).alloc (.cells #[.slice none 0 0, .bool false] 77)=W1 at *
  obtain ⟨fs,hf⟩:=hC1.forts
  have hlk:=hf.look (i:=i) (d:=d) (n:=m) hx (by omega) (by omega) (by omega)
  unfold kF at hlk
  obtain ⟨kc1,_,_,_,_,kc6⟩:=hC1.cells
  have HC1:=LH hC1
  have HO1:=LH hO1
  have HB2:=LH b2
  have HB3:=LH b3
  have HB4:=LH b4
  have l2:=b2.lt
  have l3:=b3.lt
  have l4:=b4.lt
  have p0:W1.cell? ⟨w.heap.size,0,none⟩=some (.pointer (some ⟨k.c,0,none⟩)):=b2.cell 0
  have t0:W1.cell? ⟨w.heap.size+1,0,none⟩=some (.int .i64 (i:Int)):=b3.cell 0
  have t1:W1.cell? ⟨w.heap.size+1,1,none⟩=some (.int .i64 (d:Int)):=b3.cell 1
  have t2:W1.cell? ⟨w.heap.size+1,2,none⟩=some (.int .i64 (m:Int)):=b3.cell 2
  clear hP hx hs0 hM hT hNl hmem hb hNext hS hIt C hC1 hO1 b2 b3 b4 hB1 hf hsy
  rcases hlk with ⟨bv,hlk,hv⟩ | hlk
  · obtain ⟨Av,nv,cv,dv,hbv,hvv⟩:=hv
    have bc:=bl_cell W1
    refine wp_region_below (by kernel_rfl) (by kernel_rfl) ?_
    repeat (go_big_quiet_step (fail))
    refine wpQuiet_nil ?_
    rintro _ ⟨y,rfl⟩
    have hby:=bl_below W1 y
    have HC2:=LH (HC1.out.below hby)
    have HO2:=LH (HO1.out.maps_trans (Off.of_below hby))
    have X4:=HB4.out.ext hby
    have hbv2:=hbv.ext hby
    have HV2:=LH (hvv.below hby)
    have Hend:=LH (cnt_store (S':=S) HC2.out X4 HV2.out HO2.out (.inr rfl) hg0 (Nat.le_add_right _ _) fun q hq => .inl hq)
    have c0:(bl W1 y).cell? ⟨w.heap.size+2,0,none⟩=some (.slice none 0 0):=X4.cell 0
    have c1:(bl W1 y).cell? ⟨w.heap.size+2,1,none⟩=some (.bool false):=X4.cell 1
    have f0:=X4.frozen 0
    have f1:=X4.frozen 1
    have l5:=X4.lt
    have v0:(bl W1 y).cell? ⟨bv,0,none⟩=some (.slice Av nv cv):=hbv2.cell 0
    have v1:(bl W1 y).cell? ⟨bv,1,none⟩=some (.bool dv):=hbv2.cell 1
    have l6:=hbv2.lt
    clear hlk hbv hvv bc hby X4 hbv2 p0 t0 t1 t2 l2 l3 l4 HC2 HO2
    generalize bl W1 y=W2 at *
    go_wp2_with fail
    refine bodyPost_ret (results_cell_row (p:=4) (by kernel_rfl) _ _ (w.heap.size+2) 77 #[.slice Av nv cv, .bool dv] (0,0) _ rfl Hend.out.1 Tryz.underlying77 rfl (by kernel_rfl)) rfl ?_
    exact Hend.out.2
  · have bc:=bl_cell W1
    refine wp_region_below (by kernel_rfl) (by kernel_rfl) ?_
    repeat (go_big_quiet_step (fail))
    refine wpQuiet_nil ?_
    rintro _ ⟨y,rfl⟩
    have hby:=bl_below W1 y
    have HC2:=LH (HC1.out.below hby)
    have HO2:=LH (HO1.out.maps_trans (Off.of_below hby))
    have X2:=HB2.out.ext hby
    have X3:=HB3.out.ext hby
    have X4:=HB4.out.ext hby
    have HX2:=LH X2
    have HX3:=LH X3
    have HX4:=LH X4
    clear hlk bc hby kc1 kc6 p0 t0 t1 t2 l2 l3 l4 HC1 HO1 HB2 HB3 HB4
    generalize bl W1 y=W2 at *
    have l2:=X2.lt
    have l3:=X3.lt
    have l4:=X4.lt
    have p0:W2.cell? ⟨w.heap.size,0,none⟩=some (.pointer (some ⟨k.c,0,none⟩)):=X2.cell 0
    have t0:W2.cell? ⟨w.heap.size+1,0,none⟩=some (.int .i64 (i:Int)):=X3.cell 0
    have t1:W2.cell? ⟨w.heap.size+1,1,none⟩=some (.int .i64 (d:Int)):=X3.cell 1
    have t2:W2.cell? ⟨w.heap.size+1,2,none⟩=some (.int .i64 (m:Int)):=X3.cell 2
    obtain ⟨kc1,_,kc3,_,_,_⟩:=HC2.out.cells
    rw [ha3] at kc3
    have hBs:=HC2.out.base
    have hrb2:rb < W2.heap.size:=Nat.lt_of_lt_of_le hrb hBs.size
    have q1':=(hBs.cell (p:=⟨rb,roff+i * 3+1,none⟩) hrb).trans q1
    clear X2 X3 X4 hBs
    go_upto_region 4 with fail
    have bc:=bl_cell W2
    refine wp_region_below (by kernel_rfl) (by kernel_rfl) ?_
    repeat (go_big_quiet_step (fail))
    refine wpQuiet_nil ?_
    rintro _ ⟨y,rfl⟩
    have hby:=bl_below W2 y
    have HC3:=LH (HC2.out.below hby)
    have HO3:=LH (HO2.out.maps_trans (Off.of_below hby))
    have X2:=HX2.out.ext hby
    have X3:=HX3.out.ext hby
    have X4:=HX4.out.ext hby
    have HX2':=LH X2
    have HX3':=LH X3
    have HX4':=LH X4
    clear hsl bc hby kc1 kc3 p0 t0 t1 t2 l2 l3 l4 HC2 HO2 HX2 HX3 HX4 q1' hrb2
    generalize bl W2 y=W3 at *
    have l2:=X2.lt
    have l3:=X3.lt
    have p0:W3.cell? ⟨w.heap.size,0,none⟩=some (.pointer (some ⟨k.c,0,none⟩)):=X2.cell 0
    have t2:W3.cell? ⟨w.heap.size+1,2,none⟩=some (.int .i64 (m:Int)):=X3.cell 2
    have hS3:∀ b,(S b∨b=w.heap.size+2)→b < W3.heap.size:=fun b hb=>by
     rcases hb with hb | rfl
     · exact Nat.lt_of_lt_of_le (HS.out b hb) HO3.out.size
     · exact X4.lt
    have CS:=(tr_split HP.out 228 #[.pointer (some ⟨w.heap.size,0,none⟩), .pointer (some ⟨w.heap.size+1,0,none⟩)] enters_crule1 At (cr - d) (r'.right.drop d) m W3 HC3.out hS3 HIt.out HNl.out (fun s hs=>Hsy.out s (List.mem_of_mem_drop hs)) (by omega) (by omega) (by omega)
     (fun s l' hl j hj=>by
       obtain ⟨hq,rfl,hlt⟩:=drop_head hl
       exact HT.out s j (fun hs0'=>⟨InG.rule HP.out.fits Hmem.out s (List.mem_of_getElem? hq) hs0',by have:=rule_down HP.out Hmem.out hq hs0' hm HbN.out hj Hs0.out;rw [HM.out] at this;exact this⟩) (by omega))
     (fun s l' hl j hj hxn=>by
       obtain ⟨hq,rfl,hlt⟩:=drop_head hl
       intro S' w' C' hS' hO'
       exact tr_rule1 r' i d m (m - j) _ _ w' C' hS' (hO'.blk HX2'.out (HC3.out.not_map HX2'.out)) (hO'.blk HX3'.out (HC3.out.not_map HX3'.out)) (HNext.out hlt (m - j) (by omega) (rule_next HP.out hq hm (by omega) HbN.out hxn)) (by omega)))
    rw [List.length_drop] at CS
    have CS:=LH CS
    clear X2 X3 X4 hS3
    go_wp2_with fail
    (with_reducible refine CS.out.mono ?_)
    rintro e w4 ⟨hC4,hO4,A4,n4,c4,d4,rfl,hv4⟩
    have hB5:=alloc_below w4 (.cells #[.slice A4 n4 c4, .bool d4] 77)
    have hG5:=Blk.new w4 77 #[.slice A4 n4 c4, .bool d4]
    have hC5:=hC4.below hB5
    have hO5:=(HO3.out.maps_trans hO4).maps_trans (Off.of_below hB5)
    have X2:=(hO4.blk HX2'.out (HC3.out.not_map HX2'.out)).ext hB5
    have X3:=(hO4.blk HX3'.out (HC3.out.not_map HX3'.out)).ext hB5
    have X4:=(hO4.blk HX4'.out (HC3.out.not_map HX4'.out)).ext hB5
    have hv5:=hv4.below hB5
    have hg7:w.heap.size+2 < w4.heap.size:=(hO4.blk HX4'.out (HC3.out.not_map HX4'.out)).lt
    have hg8:∀ b,S b→b < w4.heap.size:=fun b hb=>Nat.lt_of_lt_of_le (HS.out b hb) (Nat.le_trans HO3.out.size hO4.size)
    go_upto_region 6 with fail
    generalize w4.alloc (.cells #[.slice A4 n4 c4, .bool d4] 77)=W5 at *
    have hgS:¬ (S w4.heap.size∨w4.heap.size=w.heap.size+2):=by
     rintro (hb | hb)
     · exact Nat.lt_irrefl _ (hg8 _ hb)
     · omega
    generalize w4.heap.size=g7 at *
    obtain ⟨kc1,_,_,_,_,kc6⟩:=hC5.cells
    have l2:=X2.lt
    have l3:=X3.lt
    have p0:W5.cell? ⟨w.heap.size,0,none⟩=some (.pointer (some ⟨k.c,0,none⟩)):=X2.cell 0
    have t0:W5.cell? ⟨w.heap.size+1,0,none⟩=some (.int .i64 (i:Int)):=X3.cell 0
    have t1:W5.cell? ⟨w.heap.size+1,1,none⟩=some (.int .i64 (d:Int)):=X3.cell 1
    have t2:W5.cell? ⟨w.heap.size+1,2,none⟩=some (.int .i64 (m:Int)):=X3.cell 2
    have HC5:=LH hC5
    have HO5:=LH hO5
    have HX4:=LH X4
    have HG5:=LH hG5
    have HV5:=LH hv5
    clear hC4 hO4 hv4 hB5 hG5 hC5 hO5 X2 X3 X4 hv5 CS HC3 HO3 HX2' HX3' HX4'
    have bc:=bl_cell W5
    refine wp_region_below_tail 5 (by kernel_rfl) (by kernel_rfl) ?_
    simp only [List.take_succ_cons,List.take_zero,List.drop_succ_cons,List.drop_zero]
    repeat (go_big_quiet_step (fail))
    refine wpQuiet_nil ?_
    rintro _ ⟨y,rfl⟩
    have hby:=bl_below W5 y
    have HC6:=LH (HC5.out.below hby)
    have HO6:=LH (HO5.out.maps_trans (Off.of_below hby))
    have HX6:=LH (HX4.out.ext hby)
    have HG6:=LH (HG5.out.ext hby)
    have HV6:=LH (HV5.out.below hby)
    clear hby bc HC5 HO5 HX4 HG5 HV5 p0 t0 t1 t2 kc1 kc6 l2 l3
    generalize bl W5 y=W6 at *
    obtain ⟨fs6,hf6⟩:=HC6.out.forts
    have hgood:GoodK Tryz.prog 251 (kF i d m):=keyOf_kF (by omega) (by omega) (by omega)
    unfold kF at hgood
    have hfew:=hf6.few
    have HF6:=LH hf6
    have Hgood:=LH hgood
    have Hfew:=LH hfew
    clear hf6 hgood hfew
    go_wp2_with (at_mapUpdate;refine wpl_update _ rfl _ _ _ 139 rfl 248 k.f g7 Tryz.keyKF Tryz.underlying139 HF6.out.map Hfew.out (.agg #[.int .i64 (i:Int), .int .i64 (d:Int), .int .i64 (m:Int)]) Hgood.out rfl rfl rfl ?_;intro w7 hm7 hgr7
                 obtain ⟨hC7,hO7⟩:=HC6.out.putF HF6.out Hx.out (by omega) (by omega) (by omega) ⟨A4,n4,c4,d4,HG6.out,HV6.out⟩ hgS hm7 hgr7
                 have X7:=hO7.blk HX6.out (HC6.out.not_map HX6.out)
                 have G7:=hO7.blk HG6.out (HC6.out.not_map HG6.out)
                 have V7:=HV6.out.kept (HC6.out.keep hO7)
                 have Hend:=LH (cnt_store (S':=S) hC7 X7 V7 (HO6.out.maps_trans hO7) (.inr rfl) hg0 (Nat.le_add_right _ _) fun q hq => .inl hq)
                 have c0:w7.cell? ⟨w.heap.size+2,0,none⟩=some (.slice none 0 0):=X7.cell 0
                 have c1:w7.cell? ⟨w.heap.size+2,1,none⟩=some (.bool false):=X7.cell 1
                 have f0:=X7.frozen 0
                 have f1:=X7.frozen 1
                 have l5:=X7.lt
                 have v0:w7.cell? ⟨g7,0,none⟩=some (.slice A4 n4 c4):=G7.cell 0
                 have v1:w7.cell? ⟨g7,1,none⟩=some (.bool d4):=G7.cell 1
                 have l6:=G7.lt
                 clear hC7 hO7 X7 G7 V7 hm7 hgr7)
    refine bodyPost_ret (results_cell_row (p:=4) (by kernel_rfl) _ _ (w.heap.size+2) 77 #[.slice A4 n4 c4, .bool d4] (0,0) _ rfl Hend.out.1 Tryz.underlying77 rfl (by kernel_rfl)) rfl ?_
    exact Hend.out.2
 intro c
 induction c with
 | zero =>
   intro d m hc hd hm hb
   exact step d m hd hm hb fun hlt=>by omega
 | succ c ih =>
   intro d m hc hd hm hb
   exact step d m hd hm hb fun hlt m' hm' hb'=>ih (d+1) m' (by omega) (by omega) hm' hb'
end Go.Proofs.YtggbjdmpjidhgaaGreatDoor
