/- the program's counter: forest, and how it is made: walked. -/
import Derived.Test.YtggbjdmpjidhgaaGreatDoorQCtW9
set_option linter.unusedVariables false
set_option linter.unusedSimpArgs false
set_option maxHeartbeats 8000000
set_option maxRecDepth 100000
namespace Go.Proofs.YtggbjdmpjidhgaaGreatDoor
open Go.RowKit
def ForC (W0:World) (k:CH) (h:GH) (G:Gr) (Al:Option Addr) (n0 cl:Nat) (l:List Int) (n:Nat):Prop:=∀ (S:Nat→Prop) (w:World),CntAt W0 k h G S w→(∀ b,S b→b < w.heap.size) →
 Calls Tryz.prog 50 #[.pointer (some ⟨k.c,0,none⟩), .slice Al n0 cl, .int .i64 (n:Int)] w (CRet W0 k h G S w (forestT (treeN G) l n))
theorem tr_forest1 {W0:World} {k:CH} {h:GH} {G:Gr} {S:Nat→Prop} (s:Int) (l':List Int) (Al:Option Addr) (cl m g2 g3:Nat) (X:World) (C:CntAt W0 k h G S X) (hS:∀ b,S b→b < X.heap.size) (b2:Blk X g2 78 #[.pointer (some ⟨k.c,0,none⟩)]) (b3:Blk X g3 27 #[.slice Al (l'.length+1) cl])
 {At:Option Addr} (hsl:∀ w:World,(Instr.sliceAt 27 (.slice Al (l'.length+1) cl) (some (.int .i64 1)) none none).run Tryz.prog w = .ok (.slice At l'.length (cl - 1)) w) (hF:ForC W0 k h G At l'.length (cl - 1) l' m) :
 Calls Tryz.prog 93 #[.int .i64 (m:Int), .pointer (some ⟨g2,0,none⟩), .pointer (some ⟨g3,0,none⟩)] X (CRet W0 k h G S X (forestT (treeN G) l' m)):=by
 have hB1:=alloc_below X (.cells #[.slice none 0 0, .bool false] 77)
 have hX1:=Blk.new X 77 #[.slice none 0 0, .bool false]
 have hC1:=C.more hB1 (Nat.le_refl X.heap.size)
 have hO1:Off k.maps X (X.alloc (.cells #[.slice none 0 0, .bool false] 77)):=Off.of_below hB1
 have b2':=b2.ext hB1
 have b3':=b3.ext hB1
 have hg0:=C.base.size
 have hS1:∀ b,(S b∨b=X.heap.size)→b < (X.alloc (.cells #[.slice none 0 0, .bool false] 77)).heap.size:=fun b hb=>by
  rw [alloc_size]
  rcases hb with hb | rfl
  · exact Nat.lt_succ_of_lt (hS b hb)
  · exact Nat.lt_succ_self _
 go_enter Tryz.func93,Tryz.ntmps93
 go_upto_region 1 with fail
 generalize X.alloc (.cells #[.slice none 0 0, .bool false] 77)=W1 at *
 have HC1:=LH hC1
 have HX1:=LH hX1
 have HO1:=LH hO1
 have HS1:=LH hS1
 have HF:=LH hF
 have l2:=b2'.lt
 have l3:=b3'.lt
 have p0:W1.cell? ⟨g2,0,none⟩=some (.pointer (some ⟨k.c,0,none⟩)):=b2'.cell 0
 have t0:W1.cell? ⟨g3,0,none⟩=some (.slice Al (l'.length+1) cl):=b3'.cell 0
 clear C b2 b3 b2' b3' hC1 hX1 hO1 hB1 hF hS hS1
 have bc:=bl_cell W1
 refine wp_region_below_tail 4 (by kernel_rfl) (by kernel_rfl) ?_
 simp only [List.take_succ_cons,List.take_zero,List.drop_succ_cons,List.drop_zero]
 repeat (go_big_quiet_step (fail))
 refine wpQuiet_nil ?_
 rintro _ ⟨y,rfl⟩
 have hby:=bl_below W1 y
 have HC2:=LH (HC1.out.below hby)
 have HO2:=LH (HO1.out.maps_trans (Off.of_below hby))
 have HX2:=LH (HX1.out.ext hby)
 have CF:=LH (HF.out _ _ HC2.out fun b hb=>Nat.lt_of_lt_of_le (HS1.out b hb) hby.size)
 clear hsl bc hby p0 t0 l2 l3 HC1 HO1 HX1
 generalize bl W1 y=W2 at *
 go_wp2_with (
  go_at_call 50
  (with_reducible refine CF.out.mono ?_)
  rintro e w3 ⟨hC3,hO3,A2,n2,c2,d2,rfl,hv2⟩
  have hX3:=hO3.blk HX2.out (HC2.out.not_map HX2.out)
  have Hend:=LH (cnt_store (S':=S) hC3 hX3 hv2 (HO2.out.maps_trans hO3) (.inr rfl) hg0 (Nat.le_refl _) fun q hq => .inl hq)
  have c0:w3.cell? ⟨X.heap.size,0,none⟩=some (.slice none 0 0):=hX3.cell 0
  have c1:w3.cell? ⟨X.heap.size,1,none⟩=some (.bool false):=hX3.cell 1
  have f0:=hX3.frozen 0
  have f1:=hX3.frozen 1
  have l4:=hX3.lt
  clear hC3 hO3 hv2 hX3)
 refine bodyPost_ret (results_cell_row (p:=4) (by kernel_rfl) _ _ X.heap.size 77 #[.slice A2 n2 c2, .bool d2] (0,0) _ rfl Hend.out.1 Tryz.underlying77 rfl (by kernel_rfl)) rfl ?_
 exact Hend.out.2
theorem tr_forest {W0:World} {k:CH} {h:GH} {G:Gr} (hP:Plain G) (hg:GrAt W0 h G) (h2:h.n2≤100) (h3:h.n3≤100):∀ (l:List Int) (Al:Option Addr) (cl n:Nat),Ints .i64 W0 Al l.length cl l→(∀ s ∈ l,-(h.n2:Int)≤s∧s≤1000)→l.length≤100→n≤100→ForC W0 k h G Al l.length cl l n:=by
 have e2:G.nons.length=h.n2:=hg.nons.len
 have hNl:(nullN G).length=h.n2:=by rw [nullN_grown,grownN_len];exact e2
 have hT:∀ (s:Int) (i:Nat),(s < 0→nonI s < G.nons.length)→i≤100→TreeC W0 k h G s i:=fun s i hs hi=>tr_tree hP hg h2 h3 _ i s (fun h0=>⟨hs h0,rfl⟩) hi
 intro l
 induction l with
 | nil =>
   intro Al cl n hl hs hl6 hn S w C hS
   obtain ⟨hB1,b2,b3,b4⟩:=three_blks w 78 27 77 #[.pointer (some ⟨k.c,0,none⟩)] #[.slice Al 0 cl] #[.slice none 0 0, .bool false]
   have hC1:=C.more hB1 (Nat.le_add_right w.heap.size 2)
   have hO1:Off k.maps w (((w.alloc (.cells #[.pointer (some ⟨k.c,0,none⟩)] 78)).alloc (.cells #[.slice Al 0 cl] 27)).alloc (.cells #[.slice none 0 0, .bool false] 77)):=Off.of_below hB1
   have hg0:W0.heap.size≤w.heap.size+2:=Nat.le_trans C.base.size (Nat.le_add_right _ _)
   have HS:=LH hS
   have Hl:=LH hl
   have Hss:=LH hs
   have HT:=LH hT
   have HP:=LH hP
   have HNl:=LH hNl
   rw [List.length_nil] at *
   go_enter Tryz.func50,Tryz.ntmps50
   go_upto_region 1 with fail
   generalize ((w.alloc (.cells #[.pointer (some ⟨k.c,0,none⟩)] 78)).alloc (.cells #[.slice Al 0 cl] 27)).alloc (.cells #[.slice none 0 0, .bool false] 77)=W1 at *
   have HC1:=LH hC1
   have HO1:=LH hO1
   have HB2:=LH b2
   have HB3:=LH b3
   have HB4:=LH b4
   have l2:=b2.lt
   have l3:=b3.lt
   have p0:W1.cell? ⟨w.heap.size,0,none⟩=some (.pointer (some ⟨k.c,0,none⟩)):=b2.cell 0
   have t0:W1.cell? ⟨w.heap.size+1,0,none⟩=some (.slice Al 0 cl):=b3.cell 0
   have hS1:∀ b,(S b∨b=w.heap.size+2)→b < W1.heap.size:=fun b hb=>by
    rcases hb with hb | rfl
    · exact Nat.lt_of_lt_of_le (HS.out b hb) hO1.size
    · exact b4.lt
   have CS:=tr_split HP.out 93 #[.pointer (some ⟨w.heap.size,0,none⟩), .pointer (some ⟨w.heap.size+1,0,none⟩)] enters_cforest1 Al cl [] n W1 hC1 hS1 Hl.out HNl.out Hss.out (by omega) (by simp;try omega) hn
    (fun s l'' he i hi=>HT.out s i (fun h0=>by have:=(Hss.out s (by rw [he];exact List.mem_cons_self ..)).1;unfold nonI;omega) (by omega))
    (fun s l'' he=>by cases he)
   rw [List.length_nil] at CS
   have CS:=LH CS
   clear hP hl hs hS C hC1 hO1 b2 b3 b4 hB1 hS1 hT hNl
   go_wp2_with fail
   (with_reducible refine CS.out.mono ?_)
   rintro e w4 ⟨hC4,hO4,A4,n4,c4,d4,rfl,hv4⟩
   have X4:=hO4.blk HB4.out (HC1.out.not_map HB4.out)
   have Hend:=LH (cnt_store (S':=S) hC4 X4 hv4 (HO1.out.maps_trans hO4) (.inr rfl) hg0 (Nat.le_add_right _ _) fun q hq => .inl hq)
   have c0:w4.cell? ⟨w.heap.size+2,0,none⟩=some (.slice none 0 0):=X4.cell 0
   have c1:w4.cell? ⟨w.heap.size+2,1,none⟩=some (.bool false):=X4.cell 1
   have f0:=X4.frozen 0
   have f1:=X4.frozen 1
   have l5:=X4.lt
   clear hC4 hO4 X4 hv4 p0 t0 l2 l3
   go_wp2_with fail
   refine bodyPost_ret (results_cell_row (p:=6) (by kernel_rfl) _ _ (w.heap.size+2) 77 #[.slice A4 n4 c4, .bool d4] (0,0) _ rfl Hend.out.1 Tryz.underlying77 rfl (by kernel_rfl)) rfl ?_
   exact Hend.out.2
 | cons s0 l' ih =>
   intro Al cl n hl hs hl6 hn S w C hS
   obtain ⟨hB1,b2,b3,b4⟩:=three_blks w 78 27 77 #[.pointer (some ⟨k.c,0,none⟩)] #[.slice Al (l'.length+1) cl] #[.slice none 0 0, .bool false]
   have hC1:=C.more hB1 (Nat.le_add_right w.heap.size 2)
   have hO1:Off k.maps w (((w.alloc (.cells #[.pointer (some ⟨k.c,0,none⟩)] 78)).alloc (.cells #[.slice Al (l'.length+1) cl] 27)).alloc (.cells #[.slice none 0 0, .bool false] 77)):=Off.of_below hB1
   have hg0:W0.heap.size≤w.heap.size+2:=Nat.le_trans C.base.size (Nat.le_add_right _ _)
   have HS:=LH hS
   have Hl:=LH hl
   have Hss:=LH hs
   have HT:=LH hT
   have HP:=LH hP
   have HNl:=LH hNl
   have Hih:=LH ih
   rw [List.length_cons] at *
   go_enter Tryz.func50,Tryz.ntmps50
   go_upto_region 1 with fail
   generalize ((w.alloc (.cells #[.pointer (some ⟨k.c,0,none⟩)] 78)).alloc (.cells #[.slice Al (l'.length+1) cl] 27)).alloc (.cells #[.slice none 0 0, .bool false] 77)=W1 at *
   have HC1:=LH hC1
   have HO1:=LH hO1
   have HB2:=LH b2
   have HB3:=LH b3
   have HB4:=LH b4
   have l2:=b2.lt
   have l3:=b3.lt
   have p0:W1.cell? ⟨w.heap.size,0,none⟩=some (.pointer (some ⟨k.c,0,none⟩)):=b2.cell 0
   have t0:W1.cell? ⟨w.heap.size+1,0,none⟩=some (.slice Al (l'.length+1) cl):=b3.cell 0
   have hS1:∀ b,(S b∨b=w.heap.size+2)→b < W1.heap.size:=fun b hb=>by
    rcases hb with hb | rfl
    · exact Nat.lt_of_lt_of_le (HS.out b hb) hO1.size
    · exact b4.lt
   have CS:=tr_split HP.out 93 #[.pointer (some ⟨w.heap.size,0,none⟩), .pointer (some ⟨w.heap.size+1,0,none⟩)] enters_cforest1 Al cl (s0::l') n W1 hC1 hS1 Hl.out HNl.out Hss.out (by omega) (by simp;try omega) hn
    (fun s l'' he i hi=>HT.out s i (fun h0=>by have:=(Hss.out s (by rw [he];exact List.mem_cons_self ..)).1;unfold nonI;omega) (by omega))
    (fun s l'' he i hi hx=>by
      injection he with he1 he2
      subst he1
      subst he2
      intro S' w' C' hS' hO'
      obtain ⟨At,hsl,hIt⟩:=slice_from Hl.out (i:=1) (by omega)
      rw [Nat.add_sub_cancel] at hsl hIt
      exact tr_forest1 s0 l' Al cl (n - i) _ _ w' C' hS' (hO'.blk HB2.out (HC1.out.not_map HB2.out)) (hO'.blk HB3.out (HC1.out.not_map HB3.out)) hsl (Hih.out At (cl - 1) (n - i) hIt (fun q hq=>Hss.out q (List.mem_cons_of_mem _ hq)) (by omega) (by omega)))
   rw [List.length_cons] at CS
   have CS:=LH CS
   clear hP hl hs hS C hC1 hO1 b2 b3 b4 hB1 hS1 hT hNl
   go_wp2_with fail
   (with_reducible refine CS.out.mono ?_)
   rintro e w4 ⟨hC4,hO4,A4,n4,c4,d4,rfl,hv4⟩
   have X4:=hO4.blk HB4.out (HC1.out.not_map HB4.out)
   have Hend:=LH (cnt_store (S':=S) hC4 X4 hv4 (HO1.out.maps_trans hO4) (.inr rfl) hg0 (Nat.le_add_right _ _) fun q hq => .inl hq)
   have c0:w4.cell? ⟨w.heap.size+2,0,none⟩=some (.slice none 0 0):=X4.cell 0
   have c1:w4.cell? ⟨w.heap.size+2,1,none⟩=some (.bool false):=X4.cell 1
   have f0:=X4.frozen 0
   have f1:=X4.frozen 1
   have l5:=X4.lt
   clear hC4 hO4 X4 hv4 p0 t0 l2 l3
   go_wp2_with fail
   refine bodyPost_ret (results_cell_row (p:=6) (by kernel_rfl) _ _ (w.heap.size+2) 77 #[.slice A4 n4 c4, .bool d4] (0,0) _ rfl Hend.out.1 Tryz.underlying77 rfl (by kernel_rfl)) rfl ?_
   exact Hend.out.2
def RetStart (h:GH) (G:Gr) (w:World) (e:Ending) (w':World):Prop:=Below w.heap.size w w'∧∃ k:CH,e = .returned (.pointer (some ⟨k.c,0,none⟩))∧CntAt w k h G (fun _=>False) w'
theorem cnt_new {W0 w:World} {k:CH} {h:GH} {G:Gr} (hb:Below W0.heap.size W0 w) (h1:Blk w k.c 141 #[.slice h.a1 h.n1 h.c1, .slice h.a2 h.n2 h.c2, .slice h.a3 h.n3 h.c3, .int .i64 G.start, .slice (some ⟨k.n,0,none⟩) h.n2 h.n2, .map (some k.t), .map (some k.f)])
 (h2:BoolT w k.n (nullN G)) (h3:PlcM Tryz.prog 247 w k.t []) (h4:PlcM Tryz.prog 251 w k.f []) (h5:k.t ≠ k.f) (h6:W0.heap.size≤k.t) (h7:W0.heap.size≤k.f):CntAt W0 k h G (fun _=>False) w :=
 ⟨hb,h1,h2,⟨h6,h7⟩,h5,⟨[],⟨h3,fun p hp=>(by cases hp),fun p hp=>(by cases hp)⟩⟩,⟨[],⟨h4,fun p hp=>(by cases hp),fun p hp=>(by cases hp)⟩⟩⟩
theorem tr_start (h:GH) (G:Gr) (w:World) (hg:GrAt w h G) (hs:∀ t ∈ G.terms,t.name.size≤maxLen) (h1:h.n1≤100) (h2:h.n2≤100) (h3:h.n3≤100) (hr:G.right=true) :
 Calls Tryz.prog 49 #[GV h G.start] w (RetStart h G w):=by
 obtain ⟨a1,n1,c1,a2,n2,c2,a3,n3,c3⟩:=h
 simp only [] at h1 h2 h3
 have Hg:=LH hg
 have Hs:=LH hs
 have hB0:=alloc_below w (.cells #[.slice a1 n1 c1, .slice a2 n2 c2, .slice a3 n3 c3, .int .i64 G.start] 26)
 have hbox:=GBox.new w 26 ⟨a1,n1,c1,a2,n2,c2,a3,n3,c3⟩ G.start
 clear hg hs
 go_enter Tryz.func49,Tryz.ntmps49
 go_upto_region 1 with fail
 generalize w.alloc (.cells #[.slice a1 n1 c1, .slice a2 n2 c2, .slice a3 n3 c3, .int .i64 G.start] 26)=W1 at *
 have ⟨z5,z0,z1,z2,z3⟩:=hbox
 simp only [] at z0 z1 z2 z3
 have HB0:=LH hB0
 have Hr:=LH hr
 have hmm:=@run_makeMap Tryz.prog
 clear hbox hB0 hr
 refine wp_region_invU (fun listed a X=>∃ bb0 bb1 bb2 bb3 bb4 bb5 bb6 bb7:Bool,∃ u3 u4 u5 u6 u7 u8 u9 u2:Value,listed=#[bb0,bb1,bb2,bb3,bb4,bb5,bb6,bb7]∧a=(⟨(GV ⟨a1,n1,c1,a2,n2,c2,a3,n3,c3⟩ G.start::Value.pointer (some ⟨w.heap.size,0,none⟩)::u2::u3::u4::u5::u6::u7::u8::u9::[]).toArray,[]⟩:Act)∧(bb7=false→Below W1.heap.size W1 X)∧(bb7=true→∃ k:CH,u2=Value.pointer (some ⟨k.c,0,none⟩)∧Below w.heap.size w X∧CntAt w k ⟨a1,n1,c1,a2,n2,c2,a3,n3,c3⟩ G (fun _=>False) X)∧(bb0=true→u3=Value.agg #[Value.slice a1 n1 c1,Value.slice a2 n2 c2,Value.slice a3 n3 c3,Value.int .i64 G.start])∧(bb1=true→u4=Value.agg #[Value.slice a1 n1 c1,Value.slice a2 n2 c2,Value.slice a3 n3 c3,Value.int .i64 G.start])∧(bb2=true→bb7=false→∃ gq,u5=Value.slice (some ⟨gq,0,none⟩) n2 n2∧W1.heap.size≤gq∧BoolT X gq (nullN G))∧(bb3=true→bb7=false→∃ gq,u6=Value.map (some gq)∧W1.heap.size≤gq∧PlcM Tryz.prog 247 X gq []∧(bb4=true→u6 ≠ u7))∧(bb4=true→bb7=false→∃ gq,u7=Value.map (some gq)∧W1.heap.size≤gq∧PlcM Tryz.prog 251 X gq [])∧(bb5=true→bb7=false→∃ g5 g6 g7,u8=Value.agg #[Value.slice a1 n1 c1,Value.slice a2 n2 c2,Value.slice a3 n3 c3,Value.int .i64 G.start,Value.slice (some ⟨g5,0,none⟩) n2 n2,Value.map (some g6),Value.map (some g7)]∧W1.heap.size≤g5∧W1.heap.size≤g6∧W1.heap.size≤g7∧BoolT X g5 (nullN G)∧PlcM Tryz.prog 247 X g6 []∧PlcM Tryz.prog 251 X g7 []∧g6 ≠ g7)∧(bb6=true→bb7=false→∃ k:CH,u9=Value.pointer (some ⟨k.c,0,none⟩)∧Blk X k.c 141 #[Value.slice a1 n1 c1,Value.slice a2 n2 c2,Value.slice a3 n3 c3,Value.int .i64 G.start,Value.slice (some ⟨k.n,0,none⟩) n2 n2,Value.map (some k.t),Value.map (some k.f)]∧BoolT X k.n (nullN G)∧PlcM Tryz.prog 247 X k.t []∧PlcM Tryz.prog 251 X k.f []∧k.t ≠ k.f∧W1.heap.size≤k.t∧W1.heap.size≤k.f)∧(bb2=true→bb1=true)∧(bb5=true→bb0=true∧bb2=true∧bb3=true∧bb4=true)∧(bb6=true→bb5=true)∧(bb7=true→bb6=true)) (by kernel_rfl) (by kernel_rfl) ?_ ?_ ?_
 · exact ⟨false,false,false,false,false,false,false,false,undef,undef,undef,undef,undef,undef,undef,(Value.pointer none),rfl,rfl,fun _=>(Below.refl _ _).drew,nofun,nofun,nofun,nofun,nofun,nofun,nofun,nofun,nofun,nofun,nofun,nofun⟩
 · refine StepsU.cons rfl (fun Q listed a X hJ hun hpre KK hKK=>?_) ?_
   · obtain ⟨bb0,bb1,bb2,bb3,bb4,bb5,bb6,bb7,u3,u4,u5,u6,u7,u8,u9,u2,rfl,rfl,hw0,hw1,hF0⟩:=hJ
     have hF:=LH hF0
     clear hF0
     have nb0:bb0=false:=hun
     have nl:bb7=false:=by cases h:bb7 with | false=>rfl | true=>exact absurd (((hF.out.2.2.2.2.2.2.2.2.1 ((hF.out.2.2.2.2.2.2.2.2.2.1 ((hF.out.2.2.2.2.2.2.2.2.2.2 h)))))).1) (by rw [nb0];exact Bool.false_ne_true)
     have hBX:=hw0 nl
     have cg0:=(hBX.cell (p:=⟨w.heap.size,0,none⟩) z5).trans z0
     have cg1:=(hBX.cell (p:=⟨w.heap.size,1,none⟩) z5).trans z1
     have cg2:=(hBX.cell (p:=⟨w.heap.size,2,none⟩) z5).trans z2
     have cg3:=(hBX.cell (p:=⟨w.heap.size,3,none⟩) z5).trans z3
     have hzl:=Nat.lt_of_lt_of_le z5 hBX.size
     clear hun hpre
     go_simp
     obtain ⟨k0,k1,k2,k3,k4,k5,k6,k7,k8,k9,k10⟩:=hF.out
     exact hKK _ _ ⟨true,bb1,bb2,bb3,bb4,bb5,bb6,bb7,_,u4,u5,u6,u7,u8,u9,u2,rfl,rfl,hw0,hw1,fun _=>rfl,k1,k2,k3,k4,k5,k6,k7,fun h=>⟨rfl,(((k8 h)).2).1,((((k8 h)).2).2).1,((((k8 h)).2).2).2⟩,k9,k10⟩
   refine StepsU.cons rfl (fun Q listed a X hJ hun hpre KK hKK=>?_) ?_
   · obtain ⟨bb0,bb1,bb2,bb3,bb4,bb5,bb6,bb7,u3,u4,u5,u6,u7,u8,u9,u2,rfl,rfl,hw0,hw1,hF0⟩:=hJ
     have hF:=LH hF0
     clear hF0
     have nb1:bb1=false:=hun
     have nl:bb7=false:=by cases h:bb7 with | false=>rfl | true=>exact absurd ((hF.out.2.2.2.2.2.2.2.1 ((((hF.out.2.2.2.2.2.2.2.2.1 ((hF.out.2.2.2.2.2.2.2.2.2.1 ((hF.out.2.2.2.2.2.2.2.2.2.2 h)))))).2).1))) (by rw [nb1];exact Bool.false_ne_true)
     have hBX:=hw0 nl
     have cg0:=(hBX.cell (p:=⟨w.heap.size,0,none⟩) z5).trans z0
     have cg1:=(hBX.cell (p:=⟨w.heap.size,1,none⟩) z5).trans z1
     have cg2:=(hBX.cell (p:=⟨w.heap.size,2,none⟩) z5).trans z2
     have cg3:=(hBX.cell (p:=⟨w.heap.size,3,none⟩) z5).trans z3
     have hzl:=Nat.lt_of_lt_of_le z5 hBX.size
     clear hun hpre
     go_simp
     obtain ⟨k0,k1,k2,k3,k4,k5,k6,k7,k8,k9,k10⟩:=hF.out
     exact hKK _ _ ⟨bb0,true,bb2,bb3,bb4,bb5,bb6,bb7,u3,_,u5,u6,u7,u8,u9,u2,rfl,rfl,hw0,hw1,k0,fun _=>rfl,k2,k3,k4,k5,k6,fun h=>rfl,k8,k9,k10⟩
   refine StepsU.cons rfl (fun Q listed a X hJ hun hpre KK hKK=>?_) ?_
   · obtain ⟨bb0,bb1,bb2,bb3,bb4,bb5,bb6,bb7,u3,u4,u5,u6,u7,u8,u9,u2,rfl,rfl,hw0,hw1,hF0⟩:=hJ
     have hF:=LH hF0
     clear hF0
     have nb2:bb2=false:=hun
     have pb1:bb1=true:=hpre ⟨1, .data⟩ (by simp) rfl
     have nl:bb7=false:=by cases h:bb7 with | false=>rfl | true=>exact absurd ((((hF.out.2.2.2.2.2.2.2.2.1 ((hF.out.2.2.2.2.2.2.2.2.2.1 ((hF.out.2.2.2.2.2.2.2.2.2.2 h)))))).2).1) (by rw [nb2];exact Bool.false_ne_true)
     have hBX:=hw0 nl
     obtain rfl:=hF.out.2.1 pb1
     have mb5:bb5=true→False:=fun h=>absurd ((((hF.out.2.2.2.2.2.2.2.2.1 h)).2).1) (by rw [nb2];exact Bool.false_ne_true)
     have mb6:bb6=true→False:=fun h=>absurd ((((hF.out.2.2.2.2.2.2.2.2.1 ((hF.out.2.2.2.2.2.2.2.2.2.1 h)))).2).1) (by rw [nb2];exact Bool.false_ne_true)
     have hgX:=Hg.out.below (below_tail HB0.out hBX)
     clear hun hpre
     go_simp
     (with_reducible refine (tr_Nullable ⟨a1,n1,c1,a2,n2,c2,a3,n3,c3⟩ G X hgX Hs.out (by simp only [];omega) (by simp only [];omega) (by simp only [];omega)).mono ?_)
     rintro e w5 ⟨hB5,⟨hno,_⟩ | ⟨_,gn,hgn,rfl,hbn⟩⟩
     · rw [Hr.out] at hno;cases hno
     go_simp
     obtain ⟨k0,k1,k2,k3,k4,k5,k6,k7,k8,k9,k10⟩:=hF.out
     exact hKK _ _ ⟨bb0,bb1,true,bb3,bb4,bb5,bb6,bb7,u3,_,_,u6,u7,u8,u9,u2,rfl,rfl,fun _=>below_tail hBX hB5,fun h=>absurd h (by rw [nl];exact Bool.false_ne_true),k0,k1,fun _ _=>⟨gn,rfl,Nat.le_trans hBX.size hgn,hbn⟩,fun h1 h2=>(k3 h1 h2).elim fun gq hq=>⟨gq,hq.1,hq.2.1,hq.2.2.1.below hB5,hq.2.2.2⟩,fun h1 h2=>(k4 h1 h2).elim fun gq hq=>⟨gq,hq.1,hq.2.1,hq.2.2.below hB5⟩,fun h=>(mb5 h).elim,fun h=>(mb6 h).elim,fun _=>pb1,fun h=>⟨((k8 h)).1,rfl,((((k8 h)).2).2).1,((((k8 h)).2).2).2⟩,k9,k10⟩
   refine StepsU.cons rfl (fun Q listed a X hJ hun hpre KK hKK=>?_) ?_
   · obtain ⟨bb0,bb1,bb2,bb3,bb4,bb5,bb6,bb7,u3,u4,u5,u6,u7,u8,u9,u2,rfl,rfl,hw0,hw1,hF0⟩:=hJ
     have hF:=LH hF0
     clear hF0
     have nb3:bb3=false:=hun
     have nl:bb7=false:=by cases h:bb7 with | false=>rfl | true=>exact absurd (((((hF.out.2.2.2.2.2.2.2.2.1 ((hF.out.2.2.2.2.2.2.2.2.2.1 ((hF.out.2.2.2.2.2.2.2.2.2.2 h)))))).2).2).1) (by rw [nb3];exact Bool.false_ne_true)
     have hBX:=hw0 nl
     have mb5:bb5=true→False:=fun h=>absurd (((((hF.out.2.2.2.2.2.2.2.2.1 h)).2).2).1) (by rw [nb3];exact Bool.false_ne_true)
     have mb6:bb6=true→False:=fun h=>absurd (((((hF.out.2.2.2.2.2.2.2.2.1 ((hF.out.2.2.2.2.2.2.2.2.2.1 h)))).2).2).1) (by rw [nb3];exact Bool.false_ne_true)
     have hBm:=alloc_below X (.map #[] 0)
     have hPm:=PlcM.made X Tryz.prog 247
     clear hun hpre
     go_simp
     obtain ⟨k0,k1,k2,k3,k4,k5,k6,k7,k8,k9,k10⟩:=hF.out
     exact hKK _ _ ⟨bb0,bb1,bb2,true,bb4,bb5,bb6,bb7,u3,u4,u5,_,u7,u8,u9,u2,rfl,rfl,fun _=>below_tail hBX hBm,fun h=>absurd h (by rw [nl];exact Bool.false_ne_true),k0,k1,fun h1 h2=>(k2 h1 h2).elim fun gq hq=>⟨gq,hq.1,hq.2.1,Blk.ext hq.2.2 hBm⟩,fun _ _=>⟨X.heap.size,rfl,hBX.size,hPm,fun h4 he=>(k4 h4 nl).elim fun gq hq=>by rw [hq.1] at he;injection he with he;injection he with he;have:=hq.2.2.lt;omega⟩,fun h1 h2=>(k4 h1 h2).elim fun gq hq=>⟨gq,hq.1,hq.2.1,hq.2.2.below hBm⟩,fun h=>(mb5 h).elim,fun h=>(mb6 h).elim,k7,fun h=>⟨((k8 h)).1,(((k8 h)).2).1,rfl,((((k8 h)).2).2).2⟩,k9,k10⟩
   refine StepsU.cons rfl (fun Q listed a X hJ hun hpre KK hKK=>?_) ?_
   · obtain ⟨bb0,bb1,bb2,bb3,bb4,bb5,bb6,bb7,u3,u4,u5,u6,u7,u8,u9,u2,rfl,rfl,hw0,hw1,hF0⟩:=hJ
     have hF:=LH hF0
     clear hF0
     have nb4:bb4=false:=hun
     have nl:bb7=false:=by cases h:bb7 with | false=>rfl | true=>exact absurd (((((hF.out.2.2.2.2.2.2.2.2.1 ((hF.out.2.2.2.2.2.2.2.2.2.1 ((hF.out.2.2.2.2.2.2.2.2.2.2 h)))))).2).2).2) (by rw [nb4];exact Bool.false_ne_true)
     have hBX:=hw0 nl
     have mb5:bb5=true→False:=fun h=>absurd (((((hF.out.2.2.2.2.2.2.2.2.1 h)).2).2).2) (by rw [nb4];exact Bool.false_ne_true)
     have mb6:bb6=true→False:=fun h=>absurd (((((hF.out.2.2.2.2.2.2.2.2.1 ((hF.out.2.2.2.2.2.2.2.2.2.1 h)))).2).2).2) (by rw [nb4];exact Bool.false_ne_true)
     have hBm:=alloc_below X (.map #[] 0)
     have hPm:=PlcM.made X Tryz.prog 251
     clear hun hpre
     go_simp
     obtain ⟨k0,k1,k2,k3,k4,k5,k6,k7,k8,k9,k10⟩:=hF.out
     exact hKK _ _ ⟨bb0,bb1,bb2,bb3,true,bb5,bb6,bb7,u3,u4,u5,u6,_,u8,u9,u2,rfl,rfl,fun _=>below_tail hBX hBm,fun h=>absurd h (by rw [nl];exact Bool.false_ne_true),k0,k1,fun h1 h2=>(k2 h1 h2).elim fun gq hq=>⟨gq,hq.1,hq.2.1,Blk.ext hq.2.2 hBm⟩,fun h1 h2=>(k3 h1 h2).elim fun gq hq=>⟨gq,hq.1,hq.2.1,hq.2.2.1.below hBm,fun _ he=>by rw [hq.1] at he;injection he with he;injection he with he;have:=hq.2.2.1.lt;omega⟩,fun _ _=>⟨X.heap.size,rfl,hBX.size,hPm⟩,fun h=>(mb5 h).elim,fun h=>(mb6 h).elim,k7,fun h=>⟨((k8 h)).1,(((k8 h)).2).1,((((k8 h)).2).2).1,rfl⟩,k9,k10⟩
   refine StepsU.cons rfl (fun Q listed a X hJ hun hpre KK hKK=>?_) ?_
   · obtain ⟨bb0,bb1,bb2,bb3,bb4,bb5,bb6,bb7,u3,u4,u5,u6,u7,u8,u9,u2,rfl,rfl,hw0,hw1,hF0⟩:=hJ
     have hF:=LH hF0
     clear hF0
     have nb5:bb5=false:=hun
     have pb0:bb0=true:=hpre ⟨0, .data⟩ (by simp) rfl
     have pb2:bb2=true:=hpre ⟨2, .data⟩ (by simp) rfl
     have pb3:bb3=true:=hpre ⟨3, .data⟩ (by simp) rfl
     have pb4:bb4=true:=hpre ⟨4, .data⟩ (by simp) rfl
     have nl:bb7=false:=by cases h:bb7 with | false=>rfl | true=>exact absurd ((hF.out.2.2.2.2.2.2.2.2.2.1 ((hF.out.2.2.2.2.2.2.2.2.2.2 h)))) (by rw [nb5];exact Bool.false_ne_true)
     have hBX:=hw0 nl
     obtain rfl:=hF.out.1 pb0
     obtain ⟨g5,rfl,hg5,hb5⟩:=hF.out.2.2.1 pb2 nl
     obtain ⟨g6,rfl,hg6,hp6,hne6⟩:=hF.out.2.2.2.1 pb3 nl
     obtain ⟨g7,rfl,hg7,hp7⟩:=hF.out.2.2.2.2.1 pb4 nl
     have mb6:bb6=true→False:=fun h=>absurd ((hF.out.2.2.2.2.2.2.2.2.2.1 h)) (by rw [nb5];exact Bool.false_ne_true)
     clear hun hpre
     go_simp
     obtain ⟨k0,k1,k2,k3,k4,k5,k6,k7,k8,k9,k10⟩:=hF.out
     exact hKK _ _ ⟨bb0,bb1,bb2,bb3,bb4,true,bb6,bb7,_,u4,_,_,_,_,u9,u2,rfl,rfl,hw0,hw1,k0,k1,k2,k3,k4,fun _ _=>⟨g5,g6,g7,rfl,hg5,hg6,hg7,hb5,hp6,hp7,fun e=>hne6 pb4 (by rw [e])⟩,fun h=>(mb6 h).elim,k7,fun _=>⟨pb0,pb2,pb3,pb4⟩,fun h=>rfl,k10⟩
   refine StepsU.cons rfl (fun Q listed a X hJ hun hpre KK hKK=>?_) ?_
   · obtain ⟨bb0,bb1,bb2,bb3,bb4,bb5,bb6,bb7,u3,u4,u5,u6,u7,u8,u9,u2,rfl,rfl,hw0,hw1,hF0⟩:=hJ
     have hF:=LH hF0
     clear hF0
     have nb6:bb6=false:=hun
     have pb5:bb5=true:=hpre ⟨5, .data⟩ (by simp) rfl
     have nl:bb7=false:=by cases h:bb7 with | false=>rfl | true=>exact absurd ((hF.out.2.2.2.2.2.2.2.2.2.2 h)) (by rw [nb6];exact Bool.false_ne_true)
     have hBX:=hw0 nl
     obtain ⟨g5,g6,g7,rfl,hg5,hg6,hg7,hb5,hp6,hp7,hne⟩:=hF.out.2.2.2.2.2.1 pb5 nl
     have hBm:=alloc_below X (.cells #[Value.slice a1 n1 c1,Value.slice a2 n2 c2,Value.slice a3 n3 c3,Value.int .i64 G.start,Value.slice (some ⟨g5,0,none⟩) n2 n2,Value.map (some g6),Value.map (some g7)] 141)
     have hBk:=Blk.new X 141 #[Value.slice a1 n1 c1,Value.slice a2 n2 c2,Value.slice a3 n3 c3,Value.int .i64 G.start,Value.slice (some ⟨g5,0,none⟩) n2 n2,Value.map (some g6),Value.map (some g7)]
     clear hun hpre
     go_simp
     obtain ⟨k0,k1,k2,k3,k4,k5,k6,k7,k8,k9⟩:=hF.out
     exact hKK _ _ ⟨bb0,bb1,bb2,bb3,bb4,bb5,true,bb7,u3,u4,u5,u6,u7,_,_,u2,rfl,rfl,fun _=>below_tail hBX hBm,fun h=>absurd h (by rw [nl];exact Bool.false_ne_true),k0,k1,fun h1 h2=>(k2 h1 h2).elim fun gq hq=>⟨gq,hq.1,hq.2.1,Blk.ext hq.2.2 hBm⟩,fun h1 h2=>(k3 h1 h2).elim fun gq hq=>⟨gq,hq.1,hq.2.1,hq.2.2.1.below hBm,hq.2.2.2⟩,fun h1 h2=>(k4 h1 h2).elim fun gq hq=>⟨gq,hq.1,hq.2.1,hq.2.2.below hBm⟩,fun _ _=>⟨g5,g6,g7,rfl,hg5,hg6,hg7,Blk.ext hb5 hBm,hp6.below hBm,hp7.below hBm,hne⟩,fun _ _=>⟨⟨X.heap.size,g5,g6,g7⟩,rfl,hBk,Blk.ext hb5 hBm,hp6.below hBm,hp7.below hBm,hne,hg6,hg7⟩,k7,k8,fun _=>pb5,fun h=>rfl⟩
   refine StepsU.cons rfl (fun Q listed a X hJ hun hpre KK hKK=>?_) ?_
   · obtain ⟨bb0,bb1,bb2,bb3,bb4,bb5,bb6,bb7,u3,u4,u5,u6,u7,u8,u9,u2,rfl,rfl,hw0,hw1,hF0⟩:=hJ
     have hF:=LH hF0
     clear hF0
     have nb7:bb7=false:=hun
     have pb6:bb6=true:=hpre ⟨6, .data⟩ (by simp) rfl
     have nl:bb7=false:=nb7
     have hBX:=hw0 nl
     obtain ⟨k,rfl,hk1,hk2,hk3,hk4,hk5,hk6,hk7⟩:=hF.out.2.2.2.2.2.2.1 pb6 nl
     have hBw:=below_tail HB0.out hBX
     have Hfin:=LH (And.intro hBw (cnt_new (h:=⟨a1,n1,c1,a2,n2,c2,a3,n3,c3⟩) hBw hk1 hk2 hk3 hk4 hk5 (Nat.le_trans HB0.out.size hk6) (Nat.le_trans HB0.out.size hk7)))
     clear hun hpre
     go_simp
     exact hKK _ _ ⟨bb0,bb1,bb2,bb3,bb4,bb5,bb6,true,u3,u4,u5,u6,u7,u8,_,_,rfl,rfl,nofun,fun _=>⟨k,rfl,Hfin.out⟩,hF.out.1,hF.out.2.1,fun _=>nofun,fun _=>nofun,fun _=>nofun,fun _=>nofun,fun _=>nofun,hF.out.2.2.2.2.2.2.2.1,hF.out.2.2.2.2.2.2.2.2.1,hF.out.2.2.2.2.2.2.2.2.2.1,fun _=>pb6⟩
   exact StepsU.nil
 rintro listed a W9 ⟨bb0,bb1,bb2,bb3,bb4,bb5,bb6,bb7,u3,u4,u5,u6,u7,u8,u9,u2,rfl,rfl,hw0,hw1,hF⟩ hall
 have hfin:=hw1 (hall 7 (by decide))
 clear hw0 hw1 hall hF
 obtain ⟨k,hk1,hk2,hk3⟩:=hfin
 subst hk1
 have Hk2:=LH hk2
 have Hk3:=LH hk3
 clear hk2 hk3
 go_wp2_with fail
 go_ret
 exact ⟨Hk2.out,k,rfl,Hk3.out⟩
end Go.Proofs.YtggbjdmpjidhgaaGreatDoor
