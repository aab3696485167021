/- counts: the laws' fixed fact, walked (printed by gen/cta.py). -/
import Derived.Test.YtggbjdmpjidhgaaGreatDoorQCtW11
set_option linter.unusedVariables false
set_option linter.unusedSimpArgs false
set_option maxHeartbeats 8000000
set_option maxRecDepth 100000
namespace Go.Proofs.YtggbjdmpjidhgaaGreatDoor
open Go.RowKit
def Al (W:World) (g:Nat) (h:GH) (G:Gr):Prop:=GBox W g h 0∧GrAt W h G
theorem Al.below {W V:World} {g:Nat} {h:GH} {G:Gr} (a:Al W g h G) (hb:Below W.heap.size W V):Al V g h G:=⟨a.1.below hb,a.2.below hb⟩
structure A22 (w W:World) (gA gB gC gD:Nat) (hA hB hC hD:GH):Prop where
 below:Below w.heap.size w W
 tab:TabAt W
 a:Al W gA hA g22A
 b:Al W gB hB g22B
 c:Al W gC hC g22C
 d:Al W gD hD g22D
theorem A22.step {w W V:World} {gA gB gC gD:Nat} {hA hB hC hD:GH} (q:A22 w W gA gB gC gD hA hB hC hD) (hb:Below W.heap.size W V):A22 w V gA gB gC gD hA hB hC hD :=
 ⟨below_tail q.below hb,q.tab.below hb,q.a.below hb,q.b.below hb,q.c.below hb,q.d.below hb⟩
abbrev Alive22:Prop:=∀ w:World,TabAt w→Calls Tryz.prog 13 #[] w fun e w'=>e = .returned (.bool true)∧Below w.heap.size w w'
theorem alive22:Alive22:=by
 intro w hTab
 have kc:=fun (w:World) (C:Array Value) (n c:Nat)=>Lib.run_convert_bytes_const (P:=Tryz.prog) w 72 5 C n c Tryz.underlying72 Tryz.underlying5
 have HT:=LH hTab
 clear hTab
 go_enter Tryz.func13,Tryz.ntmps13
 go_wp2_with fail
 have hN0:Nums .u8 (w.alloc (.cells #[.int .u8 37, .int .u8 37, .int .u8 32, .int .u8 115, .int .u8 32, .int .u8 58, .int .u8 32, .int .u8 115, .int .u8 32, .int .u8 115, .int .u8 32, .int .u8 124, .int .u8 32, .int .u8 39, .int .u8 97, .int .u8 39, .int .u8 32, .int .u8 59] 5 (18,19))) (some ⟨w.heap.size,0,none⟩) 18 18 text22A:=markd_sl w 5 (18,19) (nums .u8 text22A) 18 _ rfl rfl (by decide)
 have hBa:Below w.heap.size w (w.alloc (.cells #[.int .u8 37, .int .u8 37, .int .u8 32, .int .u8 115, .int .u8 32, .int .u8 58, .int .u8 32, .int .u8 115, .int .u8 32, .int .u8 115, .int .u8 32, .int .u8 124, .int .u8 32, .int .u8 39, .int .u8 97, .int .u8 39, .int .u8 32, .int .u8 59] 5 (18,19))):=(Below.refl _ _).alloc (Nat.le_refl _) _
 have hc:=rf_ReadC _ 18 18 text22A g22A _ read22A hN0 (by decide) (by decide)
 rw [show g22A.start=0 from rfl] at hc
 try dsimp only at hc
 (with_reducible refine hc.mono ?_)
 rintro e v0 ⟨hA,rfl,hgA,bA1,bA2,bA3,_,hB1⟩
 have hBv0:=below_tail hBa hB1
 clear hc hN0 hBa hB1
 have HlA:Hid (hA.n1≤100∧hA.n2≤100∧hA.n3≤100):=LH ⟨by omega,by omega,by omega⟩
 have hal:=alloc_below v0 (.cells #[.slice hA.a1 hA.n1 hA.c1, .slice hA.a2 hA.n2 hA.c2, .slice hA.a3 hA.n3 hA.c3, .int .i64 0] 26)
 have hAlA:Al (v0.alloc (.cells #[.slice hA.a1 hA.n1 hA.c1, .slice hA.a2 hA.n2 hA.c2, .slice hA.a3 hA.n3 hA.c3, .int .i64 0] 26)) v0.heap.size hA g22A:=⟨GBox.new v0 26 hA 0,hgA.below hal⟩
 have hbn:=below_tail hBv0 hal
 have hBw_:=LH hbn
 clear hBv0 hgA bA1 bA2 bA3 hal hbn
 go_upto_region 2 with fail
 have hAlA_:=LH hAlA
 clear hAlA
 generalize v0.alloc (.cells #[.slice hA.a1 hA.n1 hA.c1, .slice hA.a2 hA.n2 hA.c2, .slice hA.a3 hA.n3 hA.c3, .int .i64 0] 26)=W0 at *
 generalize v0.heap.size=gA at *
 have hAlA:=hAlA_
 clear hAlA_
 have hBw:=hBw_
 clear hBw_
 go_wp2_with fail
 have hN0:Nums .u8 (W0.alloc (.cells #[.int .u8 37, .int .u8 37, .int .u8 32, .int .u8 115, .int .u8 32, .int .u8 58, .int .u8 32, .int .u8 115, .int .u8 32, .int .u8 115, .int .u8 32, .int .u8 124, .int .u8 32, .int .u8 39, .int .u8 97, .int .u8 39, .int .u8 32, .int .u8 124, .int .u8 32, .int .u8 59] 5 (20,21))) (some ⟨W0.heap.size,0,none⟩) 20 20 text22B:=markd_sl W0 5 (20,21) (nums .u8 text22B) 20 _ rfl rfl (by decide)
 have hBa:Below W0.heap.size W0 (W0.alloc (.cells #[.int .u8 37, .int .u8 37, .int .u8 32, .int .u8 115, .int .u8 32, .int .u8 58, .int .u8 32, .int .u8 115, .int .u8 32, .int .u8 115, .int .u8 32, .int .u8 124, .int .u8 32, .int .u8 39, .int .u8 97, .int .u8 39, .int .u8 32, .int .u8 124, .int .u8 32, .int .u8 59] 5 (20,21))):=(Below.refl _ _).alloc (Nat.le_refl _) _
 have hc:=rf_ReadC _ 20 20 text22B g22B _ read22B hN0 (by decide) (by decide)
 rw [show g22B.start=0 from rfl] at hc
 try dsimp only at hc
 (with_reducible refine hc.mono ?_)
 rintro e v1 ⟨hB,rfl,hgB,bB1,bB2,bB3,_,hB1⟩
 have hBv1:=below_tail hBa hB1
 clear hc hN0 hBa hB1
 have HlB:Hid (hB.n1≤100∧hB.n2≤100∧hB.n3≤100):=LH ⟨by omega,by omega,by omega⟩
 have hal:=alloc_below v1 (.cells #[.slice hB.a1 hB.n1 hB.c1, .slice hB.a2 hB.n2 hB.c2, .slice hB.a3 hB.n3 hB.c3, .int .i64 0] 26)
 have hAlB:Al (v1.alloc (.cells #[.slice hB.a1 hB.n1 hB.c1, .slice hB.a2 hB.n2 hB.c2, .slice hB.a3 hB.n3 hB.c3, .int .i64 0] 26)) v1.heap.size hB g22B:=⟨GBox.new v1 26 hB 0,hgB.below hal⟩
 have hbn:=below_tail hBv1 hal
 have hAlA_:=LH (hAlA.out.below hbn)
 have hBw_:=LH (below_tail hBw.out hbn)
 clear hBv1 hgB bB1 bB2 bB3 hal hAlA hBw hbn
 go_upto_region 3 with fail
 have hAlB_:=LH hAlB
 clear hAlB
 generalize v1.alloc (.cells #[.slice hB.a1 hB.n1 hB.c1, .slice hB.a2 hB.n2 hB.c2, .slice hB.a3 hB.n3 hB.c3, .int .i64 0] 26)=W1 at *
 generalize v1.heap.size=gB at *
 have hAlA:=hAlA_
 clear hAlA_
 have hAlB:=hAlB_
 clear hAlB_
 have hBw:=hBw_
 clear hBw_
 go_wp2_with fail
 have hN0:Nums .u8 (W1.alloc (.cells #[.int .u8 37, .int .u8 37, .int .u8 32, .int .u8 115, .int .u8 32, .int .u8 58, .int .u8 32, .int .u8 115, .int .u8 32, .int .u8 39, .int .u8 97, .int .u8 39, .int .u8 32, .int .u8 59] 5 (14,15))) (some ⟨W1.heap.size,0,none⟩) 14 14 text22C:=markd_sl W1 5 (14,15) (nums .u8 text22C) 14 _ rfl rfl (by decide)
 have hBa:Below W1.heap.size W1 (W1.alloc (.cells #[.int .u8 37, .int .u8 37, .int .u8 32, .int .u8 115, .int .u8 32, .int .u8 58, .int .u8 32, .int .u8 115, .int .u8 32, .int .u8 39, .int .u8 97, .int .u8 39, .int .u8 32, .int .u8 59] 5 (14,15))):=(Below.refl _ _).alloc (Nat.le_refl _) _
 have hc:=rf_ReadC _ 14 14 text22C g22C _ read22C hN0 (by decide) (by decide)
 rw [show g22C.start=0 from rfl] at hc
 try dsimp only at hc
 (with_reducible refine hc.mono ?_)
 rintro e v2 ⟨hC,rfl,hgC,bC1,bC2,bC3,_,hB1⟩
 have hBv2:=below_tail hBa hB1
 clear hc hN0 hBa hB1
 have HlC:Hid (hC.n1≤100∧hC.n2≤100∧hC.n3≤100):=LH ⟨by omega,by omega,by omega⟩
 have hal:=alloc_below v2 (.cells #[.slice hC.a1 hC.n1 hC.c1, .slice hC.a2 hC.n2 hC.c2, .slice hC.a3 hC.n3 hC.c3, .int .i64 0] 26)
 have hAlC:Al (v2.alloc (.cells #[.slice hC.a1 hC.n1 hC.c1, .slice hC.a2 hC.n2 hC.c2, .slice hC.a3 hC.n3 hC.c3, .int .i64 0] 26)) v2.heap.size hC g22C:=⟨GBox.new v2 26 hC 0,hgC.below hal⟩
 have hbn:=below_tail hBv2 hal
 have hAlA_:=LH (hAlA.out.below hbn)
 have hAlB_:=LH (hAlB.out.below hbn)
 have hBw_:=LH (below_tail hBw.out hbn)
 clear hBv2 hgC bC1 bC2 bC3 hal hAlA hAlB hBw hbn
 go_upto_region 4 with fail
 have hAlC_:=LH hAlC
 clear hAlC
 generalize v2.alloc (.cells #[.slice hC.a1 hC.n1 hC.c1, .slice hC.a2 hC.n2 hC.c2, .slice hC.a3 hC.n3 hC.c3, .int .i64 0] 26)=W2 at *
 generalize v2.heap.size=gC at *
 have hAlA:=hAlA_
 clear hAlA_
 have hAlB:=hAlB_
 clear hAlB_
 have hAlC:=hAlC_
 clear hAlC_
 have hBw:=hBw_
 clear hBw_
 go_wp2_with fail
 have hN0:Nums .u8 (W2.alloc (.cells ((.int .u8 37:Value)::(.int .u8 37:Value)::(.int .u8 32:Value)::(.int .u8 115:Value)::(.int .u8 32:Value)::(.int .u8 58:Value)::(.int .u8 32:Value)::(.int .u8 97:Value)::(.int .u8 32:Value)::(.int .u8 97:Value)::(.int .u8 32:Value)::(.int .u8 97:Value)::(.int .u8 32:Value)::(.int .u8 97:Value)::(.int .u8 32:Value)::(.int .u8 97:Value)::(.int .u8 32:Value)::(.int .u8 97:Value)::(.int .u8 32:Value)::(.int .u8 59:Value)::(.int .u8 32:Value)::(.int .u8 97:Value)::(.int .u8 32:Value)::(.int .u8 58:Value)::(.int .u8 32:Value)::(.int .u8 98:Value)::(.int .u8 32:Value)::(.int .u8 98:Value)::(.int .u8 32:Value)::(.int .u8 98:Value)::(.int .u8 32:Value)::(.int .u8 98:Value)::(.int .u8 32:Value)::(.int .u8 98:Value)::(.int .u8 32:Value)::(.int .u8 98:Value)::(.int .u8 32:Value)::(.int .u8 59:Value)::(.int .u8 32:Value)::(.int .u8 98:Value)::(.int .u8 32:Value)::(.int .u8 58:Value)::(.int .u8 32:Value)::(.int .u8 99:Value)::(.int .u8 32:Value)::(.int .u8 99:Value)::(.int .u8 32:Value)::(.int .u8 99:Value)::(.int .u8 32:Value)::(.int .u8 99:Value)::(.int .u8 32:Value)::(.int .u8 99:Value)::(.int .u8 32:Value)::(.int .u8 99:Value)::(.int .u8 32:Value)::(.int .u8 59:Value)::(.int .u8 32:Value)::(.int .u8 99:Value)::(.int .u8 32:Value)::(.int .u8 58:Value)::(.int .u8 32:Value)::(.int .u8 100:Value)::(.int .u8 32:Value)::(.int .u8 100:Value)::(.int .u8 32:Value)::(.int .u8 100:Value)::(.int .u8 32:Value)::(.int .u8 100:Value)::(.int .u8 32:Value)::(.int .u8 100:Value)::(.int .u8 32:Value)::(.int .u8 100:Value)::(.int .u8 32:Value)::(.int .u8 59:Value)::(.int .u8 32:Value)::(.int .u8 100:Value)::(.int .u8 32:Value)::(.int .u8 58:Value)::(.int .u8 32:Value)::(.int .u8 124:Value)::(.int .u8 32:Value)::(.int .u8 37:Value)::(.int .u8 112:Value)::(.int .u8 114:Value)::(.int .u8 101:Value)::(.int .u8 99:Value)::(.int .u8 32:Value)::(.int .u8 39:Value)::(.int .u8 120:Value)::(.int .u8 39:Value)::(.int .u8 32:Value)::(.int .u8 59:Value)::[]).toArray 5 (92,93))) (some ⟨W2.heap.size,0,none⟩) 92 92 text22D:=markd_sl W2 5 (92,93) (nums .u8 text22D) 92 _ rfl rfl (by decide)
 have hBa:Below W2.heap.size W2 (W2.alloc (.cells ((.int .u8 37:Value)::(.int .u8 37:Value)::(.int .u8 32:Value)::(.int .u8 115:Value)::(.int .u8 32:Value)::(.int .u8 58:Value)::(.int .u8 32:Value)::(.int .u8 97:Value)::(.int .u8 32:Value)::(.int .u8 97:Value)::(.int .u8 32:Value)::(.int .u8 97:Value)::(.int .u8 32:Value)::(.int .u8 97:Value)::(.int .u8 32:Value)::(.int .u8 97:Value)::(.int .u8 32:Value)::(.int .u8 97:Value)::(.int .u8 32:Value)::(.int .u8 59:Value)::(.int .u8 32:Value)::(.int .u8 97:Value)::(.int .u8 32:Value)::(.int .u8 58:Value)::(.int .u8 32:Value)::(.int .u8 98:Value)::(.int .u8 32:Value)::(.int .u8 98:Value)::(.int .u8 32:Value)::(.int .u8 98:Value)::(.int .u8 32:Value)::(.int .u8 98:Value)::(.int .u8 32:Value)::(.int .u8 98:Value)::(.int .u8 32:Value)::(.int .u8 98:Value)::(.int .u8 32:Value)::(.int .u8 59:Value)::(.int .u8 32:Value)::(.int .u8 98:Value)::(.int .u8 32:Value)::(.int .u8 58:Value)::(.int .u8 32:Value)::(.int .u8 99:Value)::(.int .u8 32:Value)::(.int .u8 99:Value)::(.int .u8 32:Value)::(.int .u8 99:Value)::(.int .u8 32:Value)::(.int .u8 99:Value)::(.int .u8 32:Value)::(.int .u8 99:Value)::(.int .u8 32:Value)::(.int .u8 99:Value)::(.int .u8 32:Value)::(.int .u8 59:Value)::(.int .u8 32:Value)::(.int .u8 99:Value)::(.int .u8 32:Value)::(.int .u8 58:Value)::(.int .u8 32:Value)::(.int .u8 100:Value)::(.int .u8 32:Value)::(.int .u8 100:Value)::(.int .u8 32:Value)::(.int .u8 100:Value)::(.int .u8 32:Value)::(.int .u8 100:Value)::(.int .u8 32:Value)::(.int .u8 100:Value)::(.int .u8 32:Value)::(.int .u8 100:Value)::(.int .u8 32:Value)::(.int .u8 59:Value)::(.int .u8 32:Value)::(.int .u8 100:Value)::(.int .u8 32:Value)::(.int .u8 58:Value)::(.int .u8 32:Value)::(.int .u8 124:Value)::(.int .u8 32:Value)::(.int .u8 37:Value)::(.int .u8 112:Value)::(.int .u8 114:Value)::(.int .u8 101:Value)::(.int .u8 99:Value)::(.int .u8 32:Value)::(.int .u8 39:Value)::(.int .u8 120:Value)::(.int .u8 39:Value)::(.int .u8 32:Value)::(.int .u8 59:Value)::[]).toArray 5 (92,93))):=(Below.refl _ _).alloc (Nat.le_refl _) _
 have hc:=rf_ReadC _ 92 92 text22D g22D _ read22D hN0 (by decide) (by decide)
 rw [show g22D.start=0 from rfl] at hc
 try dsimp only at hc
 (with_reducible refine hc.mono ?_)
 rintro e v3 ⟨hD,rfl,hgD,bD1,bD2,bD3,_,hB1⟩
 have hBv3:=below_tail hBa hB1
 clear hc hN0 hBa hB1
 have HlD:Hid (hD.n1≤100∧hD.n2≤100∧hD.n3≤100):=LH ⟨by omega,by omega,by omega⟩
 have hal:=alloc_below v3 (.cells #[.slice hD.a1 hD.n1 hD.c1, .slice hD.a2 hD.n2 hD.c2, .slice hD.a3 hD.n3 hD.c3, .int .i64 0] 26)
 have hAlD:Al (v3.alloc (.cells #[.slice hD.a1 hD.n1 hD.c1, .slice hD.a2 hD.n2 hD.c2, .slice hD.a3 hD.n3 hD.c3, .int .i64 0] 26)) v3.heap.size hD g22D:=⟨GBox.new v3 26 hD 0,hgD.below hal⟩
 have hbn:=below_tail hBv3 hal
 have hAlA_:=LH (hAlA.out.below hbn)
 have hAlB_:=LH (hAlB.out.below hbn)
 have hAlC_:=LH (hAlC.out.below hbn)
 have hBw_:=LH (below_tail hBw.out hbn)
 clear hBv3 hgD bD1 bD2 bD3 hal hAlA hAlB hAlC hBw hbn
 go_upto_region 5 with fail
 have hAlD_:=LH hAlD
 clear hAlD
 generalize v3.alloc (.cells #[.slice hD.a1 hD.n1 hD.c1, .slice hD.a2 hD.n2 hD.c2, .slice hD.a3 hD.n3 hD.c3, .int .i64 0] 26)=W3 at *
 generalize v3.heap.size=gD at *
 have hAlA:=hAlA_
 clear hAlA_
 have hAlB:=hAlB_
 clear hAlB_
 have hAlC:=hAlC_
 clear hAlC_
 have hAlD:=hAlD_
 clear hAlD_
 have hBw:=hBw_
 clear hBw_
 have hq:A22 w W3 gA gB gC gD hA hB hC hD:=⟨hBw.out,HT.out.below hBw.out,hAlA.out,hAlB.out,hAlC.out,hAlD.out⟩
 clear hAlA hAlB hAlC hAlD hBw
 have ⟨y5,y0,y1,y2,y3⟩:=hq.a.1
 try simp only [] at y0 y1 y2 y3
 go_wp2_with fail
 have cF:=tr_cCount hA g22A 4 W3 hq.a.2 names22A hq.tab HlA.out.1 HlA.out.2.1 HlA.out.2.2
 rw [show g22A.start=0 from rfl,v22A] at cF
 (with_reducible refine cF.mono ?_)
 rintro e W4 ⟨Ao0,co0,rfl,rO0,hb⟩
 clear cF
 clear y0 y1 y2 y3 y5
 have hq_:=hq.step hb
 clear hq
 have hq:=hq_
 clear hq_
 have RO0:=LH rO0
 clear rO0 hb
 have ⟨y5,y0,y1,y2,y3⟩:=hq.b.1
 try simp only [] at y0 y1 y2 y3
 go_wp2_with fail
 have cF:=tr_cCount hB g22B 1 W4 hq.b.2 names22B hq.tab HlB.out.1 HlB.out.2.1 HlB.out.2.2
 rw [show g22B.start=0 from rfl,v22B] at cF
 (with_reducible refine cF.mono ?_)
 rintro e W5 ⟨Ao1,co1,rfl,rO1,hb⟩
 clear cF
 clear y0 y1 y2 y3 y5
 have hq_:=hq.step hb
 clear hq
 have hq:=hq_
 clear hq_
 have RO0_:=LH (RO0.out.below hb)
 clear RO0
 have RO0:=RO0_
 clear RO0_
 have RO1:=LH rO1
 clear rO1 hb
 have ⟨y5,y0,y1,y2,y3⟩:=hq.c.1
 try simp only [] at y0 y1 y2 y3
 go_wp2_with fail
 have cF:=tr_cCount hC g22C 3 W5 hq.c.2 names22C hq.tab HlC.out.1 HlC.out.2.1 HlC.out.2.2
 rw [show g22C.start=0 from rfl,v22C] at cF
 (with_reducible refine cF.mono ?_)
 rintro e W6 ⟨Ao2,co2,rfl,rO2,hb⟩
 clear cF
 clear y0 y1 y2 y3 y5
 have hq_:=hq.step hb
 clear hq
 have hq:=hq_
 clear hq_
 have RO0_:=LH (RO0.out.below hb)
 clear RO0
 have RO0:=RO0_
 clear RO0_
 have RO1_:=LH (RO1.out.below hb)
 clear RO1
 have RO1:=RO1_
 clear RO1_
 have RO2:=LH rO2
 clear rO2 hb
 have ⟨y5,y0,y1,y2,y3⟩:=hq.d.1
 try simp only [] at y0 y1 y2 y3
 go_wp2_with fail
 have cF:=tr_cCount hD g22D 0 W6 hq.d.2 names22D hq.tab HlD.out.1 HlD.out.2.1 HlD.out.2.2
 rw [show g22D.start=0 from rfl,v22D] at cF
 (with_reducible refine cF.mono ?_)
 rintro e W7 ⟨Ao3,co3,rfl,rO3,hb⟩
 clear cF
 clear y0 y1 y2 y3 y5
 have hq_:=hq.step hb
 clear hq
 have hq:=hq_
 clear hq_
 have RO0_:=LH (RO0.out.below hb)
 clear RO0
 have RO0:=RO0_
 clear RO0_
 have RO1_:=LH (RO1.out.below hb)
 clear RO1
 have RO1:=RO1_
 clear RO1_
 have RO2_:=LH (RO2.out.below hb)
 clear RO2
 have RO2:=RO2_
 clear RO2_
 have RO3:=LH rO3
 clear rO3 hb
 have ⟨y5,y0,y1,y2,y3⟩:=hq.a.1
 try simp only [] at y0 y1 y2 y3
 go_wp2_with fail
 have cF:=tr_cUpto hA g22A 4 W7 hq.a.2 names22A hq.tab HlA.out.1 HlA.out.2.1 HlA.out.2.2 (by decide)
 rw [show g22A.start=0 from rfl,v22F] at cF
 (with_reducible refine cF.mono ?_)
 rintro e W8 ⟨hb,Ao4,co4,rfl,rO4⟩
 clear cF
 clear y0 y1 y2 y3 y5
 have hq_:=hq.step hb
 clear hq
 have hq:=hq_
 clear hq_
 have RO0_:=LH (RO0.out.below hb)
 clear RO0
 have RO0:=RO0_
 clear RO0_
 have RO1_:=LH (RO1.out.below hb)
 clear RO1
 have RO1:=RO1_
 clear RO1_
 have RO2_:=LH (RO2.out.below hb)
 clear RO2
 have RO2:=RO2_
 clear RO2_
 have RO3_:=LH (RO3.out.below hb)
 clear RO3
 have RO3:=RO3_
 clear RO3_
 have RO4:=LH rO4
 clear rO4 hb
 have ⟨y5,y0,y1,y2,y3⟩:=hq.a.1
 try simp only [] at y0 y1 y2 y3
 go_wp2_with fail
 have hal:=alloc_below W8 (.cells #[.int .i64 (-1), .int .i64 0, .int .i64 (-1)] 3)
 have hL:Ints .i64 (W8.alloc (.cells #[.int .i64 (-1), .int .i64 0, .int .i64 (-1)] 3)) (some ⟨W8.heap.size,0,none⟩) 3 3 [-1,0,-1]:=lit_sl W8 3 (ints .i64 [-1,0,-1]) 3 _ rfl rfl (by decide)
 have cF:=tr_cOf hA g22A _ 3 [-1,0,-1] 4 _ (hq.a.2.below hal) names22A (hq.tab.below hal) HlA.out.1 HlA.out.2.1 HlA.out.2.2 hL (fun s hs=>by simp only [List.mem_cons,List.not_mem_nil,or_false] at hs;unfold InI64;omega)
 rw [show g22A.start=0 from rfl,show ([-1,0,-1]:List Int).length=3 from rfl,v22E] at cF
 (with_reducible refine cF.mono ?_)
 rintro e W9 ⟨Ao5,co5,rfl,rO5,hb2⟩
 have hb:=below_tail hal hb2
 clear cF hal hL hb2
 clear y0 y1 y2 y3 y5
 have hq_:=hq.step hb
 clear hq
 have hq:=hq_
 clear hq_
 have RO0_:=LH (RO0.out.below hb)
 clear RO0
 have RO0:=RO0_
 clear RO0_
 have RO1_:=LH (RO1.out.below hb)
 clear RO1
 have RO1:=RO1_
 clear RO1_
 have RO2_:=LH (RO2.out.below hb)
 clear RO2
 have RO2:=RO2_
 clear RO2_
 have RO3_:=LH (RO3.out.below hb)
 clear RO3
 have RO3:=RO3_
 clear RO3_
 have RO4_:=LH (RO4.out.below hb)
 clear RO4
 have RO4:=RO4_
 clear RO4_
 have RO5:=LH rO5
 clear rO5 hb
 go_wp2_with fail
 have hal:=alloc_below W9 (.cells #[.int .u32 5] 49)
 have hL:Nums .u32 (W9.alloc (.cells #[.int .u32 5] 49)) (some ⟨W9.heap.size,0,none⟩) 1 1 [5]:=lit_sl W9 49 (nums .u32 [5]) 1 _ rfl rfl (by decide)
 have cF:=ref_same Ao0 _ co0 [5] _ 1 1 [5] _ (RO0.out.below hal) hL
 rw [show (([5]:List Nat) == [5])=true from rfl,show ([5]:List Nat).length=1 from rfl] at cF
 (with_reducible refine cF.mono ?_)
 rintro e W10 ⟨rfl,hS⟩
 have hb:=below_tail hal (hS.below _)
 clear cF hL hal hS
 have hq_:=hq.step hb
 clear hq
 have hq:=hq_
 clear hq_
 have RO0_:=LH (RO0.out.below hb)
 clear RO0
 have RO0:=RO0_
 clear RO0_
 have RO1_:=LH (RO1.out.below hb)
 clear RO1
 have RO1:=RO1_
 clear RO1_
 have RO2_:=LH (RO2.out.below hb)
 clear RO2
 have RO2:=RO2_
 clear RO2_
 have RO3_:=LH (RO3.out.below hb)
 clear RO3
 have RO3:=RO3_
 clear RO3_
 have RO4_:=LH (RO4.out.below hb)
 clear RO4
 have RO4:=RO4_
 clear RO4_
 have RO5_:=LH (RO5.out.below hb)
 clear RO5
 have RO5:=RO5_
 clear RO5_
 clear hb
 obtain ⟨b4,o4,e4,hb4,hr4⟩:=RO4.out.2.2.2 (by decide)
 subst e4
 obtain ⟨Aj0,cj0,q0,_⟩:=hr4 0 [] rfl
 obtain ⟨Aj3,cj3,q3,hN3⟩:=hr4 3 [2] rfl
 have HN3:=LH hN3
 have q0':W10.cell? ⟨b4,o4,none⟩=some (.slice Aj0 0 cj0):=q0
 clear hr4 hN3
 go_wp2_with fail
 have hal:=alloc_below W10 (.cells #[.int .u32 2] 49)
 have hL:Nums .u32 (W10.alloc (.cells #[.int .u32 2] 49)) (some ⟨W10.heap.size,0,none⟩) 1 1 [2]:=lit_sl W10 49 (nums .u32 [2]) 1 _ rfl rfl (by decide)
 have cF:=ref_same Aj3 _ cj3 [2] _ 1 1 [2] _ (HN3.out.below hal) hL
 rw [show (([2]:List Nat) == [2])=true from rfl,show ([2]:List Nat).length=1 from rfl] at cF
 (with_reducible refine cF.mono ?_)
 rintro e W11 ⟨rfl,hS⟩
 have hb:=below_tail hal (hS.below _)
 clear cF hL hal hS q0 q0' q3 hb4
 have hq_:=hq.step hb
 clear hq
 have hq:=hq_
 clear hq_
 have RO0_:=LH (RO0.out.below hb)
 clear RO0
 have RO0:=RO0_
 clear RO0_
 have RO1_:=LH (RO1.out.below hb)
 clear RO1
 have RO1:=RO1_
 clear RO1_
 have RO2_:=LH (RO2.out.below hb)
 clear RO2
 have RO2:=RO2_
 clear RO2_
 have RO3_:=LH (RO3.out.below hb)
 clear RO3
 have RO3:=RO3_
 clear RO3_
 have RO5_:=LH (RO5.out.below hb)
 clear RO5
 have RO5:=RO5_
 clear RO5_
 have HN3_:=LH (HN3.out.below hb)
 clear HN3
 have HN3:=HN3_
 clear HN3_
 clear hb
 go_wp2_with fail
 have hal:=alloc_below W11 (.cells #[.int .u32 2] 49)
 have hL:Nums .u32 (W11.alloc (.cells #[.int .u32 2] 49)) (some ⟨W11.heap.size,0,none⟩) 1 1 [2]:=lit_sl W11 49 (nums .u32 [2]) 1 _ rfl rfl (by decide)
 have cF:=ref_same Ao5 _ co5 [2] _ 1 1 [2] _ (RO5.out.below hal) hL
 rw [show (([2]:List Nat) == [2])=true from rfl,show ([2]:List Nat).length=1 from rfl] at cF
 (with_reducible refine cF.mono ?_)
 rintro e W12 ⟨rfl,hS⟩
 have hb:=below_tail hal (hS.below _)
 clear cF hL hal hS
 have hq_:=hq.step hb
 clear hq
 have hq:=hq_
 clear hq_
 have RO0_:=LH (RO0.out.below hb)
 clear RO0
 have RO0:=RO0_
 clear RO0_
 have RO1_:=LH (RO1.out.below hb)
 clear RO1
 have RO1:=RO1_
 clear RO1_
 have RO2_:=LH (RO2.out.below hb)
 clear RO2
 have RO2:=RO2_
 clear RO2_
 have RO3_:=LH (RO3.out.below hb)
 clear RO3
 have RO3:=RO3_
 clear RO3_
 have RO5_:=LH (RO5.out.below hb)
 clear RO5
 have RO5:=RO5_
 clear RO5_
 have HN3_:=LH (HN3.out.below hb)
 clear HN3
 have HN3:=HN3_
 clear HN3_
 clear hb
 go_wp2_with fail
 go_ret
 exact ⟨rfl,hq.below⟩
end Go.Proofs.YtggbjdmpjidhgaaGreatDoor
