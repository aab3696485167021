/- what is of use of a grammar: the program's Reduce, walked. -/
import Derived.Test.YtggbjdmpjidhgaaGreatDoorQCtW1
import Derived.Test.YtggbjdmpjidhgaaGreatDoorQInvF
import Derived.Test.YtggbjdmpjidhgaaGreatDoorQPs15
import Derived.Test.YtggbjdmpjidhgaaGreatDoorQPs8
set_option linter.unusedVariables false
set_option linter.unusedSimpArgs false
set_option maxHeartbeats 8000000
set_option maxRecDepth 100000
namespace Go.Proofs.YtggbjdmpjidhgaaGreatDoor
open Go.RowKit
open Go.Maps (Keyed IsMap Tidy)
theorem zero_end {w W2:World} {g:Nat} (hX:Blk W2 g 26 #[.slice none 0 0, .slice none 0 0, .slice none 0 0, .int .i64 0]) (hB:Below w.heap.size w W2) (hg:w.heap.size≤g) :
 Below w.heap.size w ((((W2.setCell ⟨g,0,none⟩ (.slice none 0 0)).setCell ⟨g,1,none⟩ (.slice none 0 0)).setCell ⟨g,2,none⟩ (.slice none 0 0)).setCell ⟨g,3,none⟩ (.int .i64 0)) :=
 (((hB.trans (grown_is_below (grown_set _ _ _ _) hB.size hg)).trans (grown_is_below (grown_set _ _ _ _) (by simpa using hB.size) hg)).trans (grown_is_below (grown_set _ _ _ _) (by simpa using hB.size) hg)).trans (grown_is_below (grown_set _ _ _ _) (by simpa using hB.size) hg)
theorem NumM.look {w:World} {g:Nat} {old:List Nat} {i:Nat} (h:NumM w g old) (hn:old.Nodup) (hi:i ∈ old) (hb:i≤1000):(Instr.lookup 154 (.map (some g)) (.int .i64 (i:Int)) false).run Tryz.prog w = .ok (.int .i64 (toI old i)) w:=by
 obtain ⟨c,hrun,hat,_⟩:=World.ownsMap.lookup_int h Tryz.keyInt Tryz.underlying154 Tryz.underlying3 (Tryz.zeroInt w) (key_num i hb)
 rw [at_numD _ i old hn hi] at hat
 injection hat with hat
 injection hat with _ hat
 rw [hrun,hat]
theorem own_blk_ne {w:World} {base e size n c t g:Nat} {A:Option Addr} {xs:List Value} {cs:Array Value} (h:w.ownsRow base e size (.slice A n c) n xs) {b:Nat} (hb:(Value.slice A n c).ownBlock=some b) (hB:Blk w g t cs) (ht:t ≠ e):b ≠ g:=by
 rintro rfl
 obtain ⟨cs2,fr,h1⟩:=own_typed h hb
 unfold Blk at hB
 rw [h1] at hB
 injection hB with hB
 injection hB with _ h3 _
 exact ht h3.symm
theorem tr_Reduce (h:GH) (G:Gr) (w:World) (hg:GrAt w h G) (hs:∀ t ∈ G.terms,t.name.size≤maxLen) (h1:h.n1≤100) (h2:h.n2≤100) (h3:h.n3≤100) :
 Calls Tryz.prog 57 #[GV h G.start] w (RetRed G w):=by
 obtain ⟨a1,n1,c1,a2,n2,c2,a3,n3,c3⟩:=h
 have e1:G.terms.length=n1:=hg.terms.len
 have e2:G.nons.length=n2:=hg.nons.len
 have e3:G.rules.length=n3:=hg.rules.len
 have k1:=hg.terms.cap
 have k2:=hg.nons.cap
 have k3:=hg.rules.cap
 simp only [] at h1 h2 h3 k1 k2 k3
 have Hg:=Lib.hid hg
 have Hs:=Lib.hid hs
 have hB0:=alloc_below w (.cells #[.slice a1 n1 c1, .slice a2 n2 c2, .slice a3 n3 c3, .int .i64 G.start] 26)
 have hbox:=GBox.new w 26 ⟨a1,n1,c1,a2,n2,c2,a3,n3,c3⟩ G.start
 clear hg hs
 go_enter Tryz.func57,Tryz.ntmps57
 have ⟨z5,z0,z1,z2,z3⟩:=hbox
 simp only [] at z0 z1 z2 z3
 go_upto_region 1 with fail
 have hbZ:=alloc_below (w.alloc (.cells #[.slice a1 n1 c1, .slice a2 n2 c2, .slice a3 n3 c3, .int .i64 G.start] 26)) (.cells #[.slice none 0 0, .slice none 0 0, .slice none 0 0, .int .i64 0] 26)
 have hR0:=Blk.new (w.alloc (.cells #[.slice a1 n1 c1, .slice a2 n2 c2, .slice a3 n3 c3, .int .i64 G.start] 26)) 26 #[.slice none 0 0, .slice none 0 0, .slice none 0 0, .int .i64 0]
 have hB1:=below_tail hB0 hbZ
 have hbx1:=hbox.below hbZ
 have hsz:(w.alloc (.cells #[.slice a1 n1 c1, .slice a2 n2 c2, .slice a3 n3 c3, .int .i64 G.start] 26)).heap.size=w.heap.size+1:=alloc_size _ _
 generalize (w.alloc (.cells #[.slice a1 n1 c1, .slice a2 n2 c2, .slice a3 n3 c3, .int .i64 G.start] 26)).alloc (.cells #[.slice none 0 0, .slice none 0 0, .slice none 0 0, .int .i64 0] 26)=W1 at *
 rw [hsz] at hR0
 clear hsz hbZ hbox hB0 z0 z1 z2 z3 z5
 have hR1:Hid (Blk W1 (w.heap.size+1) 26 #[.slice none 0 0, .slice none 0 0, .slice none 0 0, .int .i64 0]):=Lib.hid hR0
 have ⟨y5,y0,y1,y2,y3⟩:=hbx1
 simp only [] at y0 y1 y2 y3
 go_wp2_with fail
 (with_reducible refine (cf_Right ⟨a1,n1,c1,a2,n2,c2,a3,n3,c3⟩ G W1 (Hg.out.below hB1) Hs.out (by simp only [];omega) (by simp only [];omega)).mono ?_)
 rintro e W2 ⟨rfl,hb2⟩
 have hB2:=below_tail hB1 hb2
 have hbx2:=hbx1.below hb2
 have hR2:Blk W2 (w.heap.size+1) 26 #[.slice none 0 0, .slice none 0 0, .slice none 0 0, .int .i64 0]:=Blk.ext hR1.out hb2
 clear hb2 hbx1 hB1 hR0 hR1 y0 y1 y2 y3 y5
 have r0:W2.cell? ⟨w.heap.size+1,0,none⟩=some (.slice none 0 0):=hR2.cell 0
 have r1:W2.cell? ⟨w.heap.size+1,1,none⟩=some (.slice none 0 0):=hR2.cell 1
 have r2:W2.cell? ⟨w.heap.size+1,2,none⟩=some (.slice none 0 0):=hR2.cell 2
 have r3:W2.cell? ⟨w.heap.size+1,3,none⟩=some (.int .i64 0):=hR2.cell 3
 have f0:=hR2.frozen 0
 have f1:=hR2.frozen 1
 have f2:=hR2.frozen 2
 have f3:=hR2.frozen 3
 have HR2:=Lib.hid hR2
 have HB2:=Lib.hid hB2
 have Hbx2:=Lib.hid hbx2
 clear hR2 hB2 hbx2
 rcases hrt:G.right with _ | _
 case false =>
  have Hno:Hid (redOK G=false):=Lib.hid (by unfold redOK;rw [hrt];rfl)
  clear hrt
  go_wp2_with fail
  refine bodyPost_ret (results_cell2 (p:=2) (u:=3) (v:=4) (by kernel_rfl) _ _ (w.heap.size+1) 26 #[.slice none 0 0, .slice none 0 0, .slice none 0 0, .int .i64 0] (0,0) _ rfl ((((Blk.set (Blk.set (Blk.set (Blk.set HR2.out 0 (.slice none 0 0)) 1 (.slice none 0 0)) 2 (.slice none 0 0)) 3 (.int .i64 0))))) Tryz.underlying26 rfl (by kernel_rfl)) rfl ?_
  exact ⟨zero_end HR2.out HB2.out (Nat.le_succ _), .inl ⟨Hno.out,1,by decide,rfl⟩⟩
 have hfit:=Gr.fits hrt
 have Hrt:=Lib.hid hrt
 have Hfit:=Lib.hid hfit
 have hn1:=hfit.n1
 have hn2:=hfit.n2
 have hn3:=hfit.n3
 rw [e1] at hn1
 rw [e2] at hn2
 rw [e3] at hn3
 have ⟨y5,y0,y1,y2,y3⟩:=Hbx2.out
 simp only [] at y0 y1 y2 y3
 have HS:Hid (∀ W',Below W2.heap.size W2 W'→W'.cell? ⟨w.heap.size,0,none⟩=some (.slice a1 n1 c1)∧W'.cell? ⟨w.heap.size,1,none⟩=some (.slice a2 n2 c2)∧W'.cell? ⟨w.heap.size,2,none⟩=some (.slice a3 n3 c3)∧W'.cell? ⟨w.heap.size,3,none⟩=some (.int .i64 G.start)∧Below W2.heap.size W2 W'):=Lib.hid fun W' hb=>⟨by rw [hb.cell (by exact y5)];exact y0,by rw [hb.cell (by exact y5)];exact y1,by rw [hb.cell (by exact y5)];exact y2,by rw [hb.cell (by exact y5)];exact y3,hb⟩
 have CP:=Lib.hid fun X (hb:Below W2.heap.size W2 X)=>(tr_Productive ⟨a1,n1,c1,a2,n2,c2,a3,n3,c3⟩ G X ((Hg.out.below HB2.out).below hb) Hs.out (by simp only [];omega) (by simp only [];omega) (by simp only [];omega)).mono fun e w' hh=>And.intro (below_tail hb hh.1) (And.intro (Lib.hid hh.1) (hh.2.resolve_left fun hc=>by rw [Hrt.out] at hc;cases hc.1).2)
 have CR:=Lib.hid fun X (hb:Below W2.heap.size W2 X)=>(tr_Reachable ⟨a1,n1,c1,a2,n2,c2,a3,n3,c3⟩ G X ((Hg.out.below HB2.out).below hb) Hs.out (by simp only [];omega) (by simp only [];omega) (by simp only [];omega)).mono fun e w' hh=>And.intro (below_tail hb hh.1) (And.intro (Lib.hid hh.1) (hh.2.resolve_left fun hc=>by rw [Hrt.out] at hc;cases hc.1).2)
 clear hrt hfit r0 r1 r2 r3 f0 f1 f2 f3
 go_upto_region 3 with fail
 go_region_held3 (fun W'=>W'.cell? ⟨w.heap.size,0,none⟩=some (.slice a1 n1 c1)∧W'.cell? ⟨w.heap.size,1,none⟩=some (.slice a2 n2 c2)∧W'.cell? ⟨w.heap.size,2,none⟩=some (.slice a3 n3 c3)∧W'.cell? ⟨w.heap.size,3,none⟩=some (.int .i64 G.start)∧Below W2.heap.size W2 W')
  ((refine HS.out _ ?_;(repeat (first | assumption | exact Below.refl _ _ | refine Below.drew ?_));done))
  (first
    | (go_at_call 105;with_reducible refine (CP.out _ (by (repeat (first | assumption | exact Below.refl _ _ | refine Below.drew ?_)))).mono ?_;rintro e w7 ⟨hB7,Hb7,gP,hgP,rfl,HTP⟩)
    | (go_at_call 106;with_reducible refine (CR.out _ (by (repeat (first | assumption | exact Below.refl _ _ | refine Below.drew ?_)))).mono ?_;rintro e w8 ⟨hB8,Hb8,gQ,hgQ,rfl,HTQ⟩))
 rename_i hHeld
 clear hHeld
 have HP8:Hid (BoolT w8 gP (prodN G)):=Lib.hid (Blk.hidden HTP Hb8)
 have HQ8:Hid (BoolT w8 gQ (reachN G)):=Lib.hid HTQ
 have HB8:=Lib.hid (below_tail HB2.out hB8)
 have Hbx8:=Lib.hid (Hbx2.out.below hB8)
 have HR8:Hid (Blk w8 (w.heap.size+1) 26 #[.slice none 0 0, .slice none 0 0, .slice none 0 0, .int .i64 0]):=Lib.hid (Blk.ext HR2.out hB8)
 clear hB7 Hb7 hgP HTP hB8 Hb8 hgQ HTQ CP CR HS y0 y1 y2 y3 y5 HR2 HB2 Hbx2
 have ⟨y5,y0,y1,y2,y3⟩:=Hbx8.out
 simp only [] at y0 y1 y2 y3
 obtain ⟨st,hst⟩:∃ st:Nat,G.start=(st:Int):=⟨G.start.toNat,by have:=Hfit.out.st;omega⟩
 have hst2:st < n2:=by have:=Hfit.out.st;omega
 have Hst:Hid (G.start.toNat=st):=Lib.hid (by omega)
 have c0:=HP8.out.at (i:=st) (by rw [prodN_len,e2];exact hst2)
 have Hps:Hid (redOK G=(prodN G).getD st false):=Lib.hid (by unfold redOK;rw [Hrt.out,Hst.out];rfl)
 rw [hst] at y3
 have HstI:=Lib.hid hst
 clear hst
 generalize hpv:(prodN G).getD st false=pv at *
 rcases pv with _ | _
 case false =>
  have r0:w8.cell? ⟨w.heap.size+1,0,none⟩=some (.slice none 0 0):=HR8.out.cell 0
  have r1:w8.cell? ⟨w.heap.size+1,1,none⟩=some (.slice none 0 0):=HR8.out.cell 1
  have r2:w8.cell? ⟨w.heap.size+1,2,none⟩=some (.slice none 0 0):=HR8.out.cell 2
  have r3:w8.cell? ⟨w.heap.size+1,3,none⟩=some (.int .i64 0):=HR8.out.cell 3
  have f0:=HR8.out.frozen 0
  have f1:=HR8.out.frozen 1
  have f2:=HR8.out.frozen 2
  have f3:=HR8.out.frozen 3
  clear hpv
  go_wp2_with fail
  refine bodyPost_ret (results_cell2 (p:=2) (u:=3) (v:=4) (by kernel_rfl) _ _ (w.heap.size+1) 26 #[.slice none 0 0, .slice none 0 0, .slice none 0 0, .int .i64 0] (0,0) _ rfl ((((Blk.set (Blk.set (Blk.set (Blk.set HR8.out 0 (.slice none 0 0)) 1 (.slice none 0 0)) 2 (.slice none 0 0)) 3 (.int .i64 0))))) Tryz.underlying26 rfl (by kernel_rfl)) rfl ?_
  exact ⟨zero_end HR8.out HB8.out (Nat.le_succ _), .inl ⟨Hps.out,9,by decide,rfl⟩⟩
 clear hpv
 have CT:=Lib.hid (tr_CloneT a1 n1 c1 G.terms w8 ((Hg.out.below HB8.out).terms) (by omega))
 have hmm:=@run_makeMap Tryz.prog
 go_upto_region 8 with (go_at_call 107;(with_reducible refine CT.out.mono ?_);rintro e w9 ⟨hB9,A4,c4,rfl,hTm⟩)
 have hTb:∀ b,(Value.slice A4 n1 c4).ownBlock=some b→b < w9.heap.size:=fun b hb=>(hTm.lt b hb).2
 have hOut:=Blk.new w9 26 #[.slice A4 n1 c4, .slice none 0 0, .slice none 0 0, .int .i64 0]
 have hBo:=alloc_below w9 (.cells #[.slice A4 n1 c4, .slice none 0 0, .slice none 0 0, .int .i64 0] 26)
 have hTm1:=hTm.alloc (.cells #[.slice A4 n1 c4, .slice none 0 0, .slice none 0 0, .int .i64 0] 26)
 have hs9:w8.heap.size≤w9.heap.size:=hB9.size
 have hsO:(w9.alloc (.cells #[.slice A4 n1 c4, .slice none 0 0, .slice none 0 0, .int .i64 0] 26)).heap.size=w9.heap.size+1:=alloc_size _ _
 have hB10:=hB9.trans (hBo.mono hs9)
 generalize w9.alloc (.cells #[.slice A4 n1 c4, .slice none 0 0, .slice none 0 0, .int .i64 0] 26)=W10 at *
 generalize w9.heap.size=gO at *
 clear hTm hBo hB9 CT
 go_upto_region 9 with fail
 have hBm:=alloc_below W10 (.map #[] 0)
 have hNum:NumM (W10.alloc (.map #[] 0)) W10.heap.size []:=World.ownsMap_made _ _ _ _
 have hOut1:=Blk.ext hOut hBm
 have hTm2:=hTm1.alloc (.map #[] 0)
 have hsT:(W10.alloc (.map #[] 0)).heap.size=W10.heap.size+1:=alloc_size _ _
 have hB11:=hB10.trans (hBm.mono (by rw [hsO];omega))
 generalize W10.alloc (.map #[] 0)=wB at *
 rw [hsO] at hNum hsT
 have hgB:gO+1 < wB.heap.size:=by omega
 have HBB:Hid (Below w8.heap.size w8 wB):=Lib.hid hB11
 have HNum:=Lib.hid hNum
 have HOutB:=Lib.hid hOut1
 have HTmB:=Lib.hid hTm2
 have HTb:=Lib.hid hTb
 have HBw:=Lib.hid (below_tail HB8.out HBB.out)
 clear hNum hBm hOut hOut1 hTm1 hTm2 hB10 hB11 hTb hmm y0 y1 y2 y3 y5 c0
 have ⟨y5,y0,y1,y2,y3⟩:=Hbx8.out.below HBB.out
 simp only [] at y0 y1 y2 y3
 clear hsO
 go_wp2_with fail
 clear y0 y1 y2 y3 y5
 go_loopw [7,43] (fun kk i wz=>∃ (q:Nat) (Ak:Option Addr) (ck:Nat) (An:Option Addr) (cn:Nat),q≤n3∧i = .int .i64 (q:Int)∧kk = .slice Ak (ksN G q).length ck∧Hid (Red2M wB gO (gO+1) (.slice A4 n1 c4) G wz Ak ck An cn (ksN G q) (oldOf (keptT G q)))) (fun _ i _=>n3 - (intOf i).toNat)
 case atStart=>exact ⟨0,none,0,none,0,Nat.zero_le _,rfl,rfl,Lib.hid ⟨Off.refl _ _,HNum.out,HOutB.out,World.ownsRow_nil _ _ _ _,World.ownsRow_nil _ _ _ _⟩⟩
 case round =>
  obtain ⟨q,Ak,ck,An,cn,hq,rfl,rfl,HR⟩:=hrel
  have HBz:Hid (Below w8.heap.size w8 wr):=Lib.hid (HBB.out.trans (HR.out.off.is_below HBB.out.size fun k hk=>by omega))
  have HBzw:=Lib.hid (below_tail HB8.out HBz.out)
  have hbx:=Hbx8.out.below HBz.out
  have ⟨y5,y0,y1,y2,y3⟩:=hbx
  simp only [] at y0 y1 y2 y3
  clear hbx
  by_cases hqq:q < n3
  case pos =>
   as_aux_lemma =>
    obtain ⟨bb,off,r,Ar,cr,rfl,hb0,Hr,q0,q1,q2,hrrw⟩:=Hg.out.rules.get hqq
    rw [← HBzw.out.cell (by exact hb0)] at q0 q1 q2
    have hb:bb < wr.heap.size:=Nat.lt_of_lt_of_le hb0 HBzw.out.size
    have HrrW:=Lib.hid hrrw
    have hmem:=List.mem_of_getElem? Hr.out
    obtain ⟨l1,l2⟩:=Hfit.out.left r hmem
    obtain ⟨jl,hjl⟩:∃ jl:Nat,r.left=(jl:Int):=⟨r.left.toNat,by omega⟩
    have hjl2:jl < n2:=by omega
    have Hjl:Hid (r.left.toNat=jl):=Lib.hid (by omega)
    have hlen:=Hfit.out.len r hmem
    have hsy:=Hfit.out.symB hmem
    rw [e2] at hsy
    have Hsy:=Lib.hid hsy
    rw [hjl] at q0
    have hbA:=alloc_below wr (.cells #[.int .i64 (jl:Int), .slice Ar r.right.length cr, .int .i64 r.prec] 52)
    have hXA:=Blk.new wr 52 #[.int .i64 (jl:Int), .slice Ar r.right.length cr, .int .i64 r.prec]
    have HRA:=Lib.hid (HR.out.below hbA)
    have HBA:=Lib.hid (HBz.out.trans (hbA.mono HBz.out.size))
    have Hkx:Hid (∀ b,(Value.slice Ak (ksN G q).length ck).ownBlock=some b→b < wr.heap.size):=Lib.hid fun b hb=>(HR.out.kept.lt b hb).2
    have hgX:gO+1 < wr.heap.size:=HR.out.num.lt
    have hw8r:w8.heap.size≤wr.heap.size:=HBz.out.size
    clear hsy l1 l2 hjl hmem hrrw
    go_upto_region 12 with fail
    generalize wr.alloc (.cells #[.int .i64 (jl:Int), .slice Ar r.right.length cr, .int .i64 r.prec] 52)=WA at *
    generalize wr.heap.size=gX at *
    have HXA:=Lib.hid hXA
    clear hbA hXA HR HBz HBzw q0 q1 q2 hb y0 y1 y2 y3 y5
    have x0:WA.cell? ⟨gX,0,none⟩=some (.int .i64 (jl:Int)):=HXA.out.cell 0
    have x1:WA.cell? ⟨gX,1,none⟩=some (.slice Ar r.right.length cr):=HXA.out.cell 1
    have x2:WA.cell? ⟨gX,2,none⟩=some (.int .i64 r.prec):=HXA.out.cell 2
    have HBAw:=Lib.hid (below_tail HB8.out HBA.out)
    have lP:Hid ((prodN G).length=n2):=Lib.hid (by rw [prodN_len,e2])
    have hPA:BoolT WA gP (prodN G):=Blk.ext HP8.out HBA.out
    have hQA:BoolT WA gQ (reachN G):=Blk.ext HQ8.out HBA.out
    have cQ:=hQA.at (i:=jl) (by rw [reachN_len,e2];exact hjl2)
    have CA:=tr_within (jl:Int) Ar cr gP n2 r.right r.prec (prodN G) WA (HrrW.out.below HBAw.out) hPA lP.out (by omega) Hsy.out
    rw [all_off] at CA
    have CA:=Lib.hid CA
    have Hkeep:Hid (keepB (prodN G) (reachN G) r=((reachN G).getD jl false && allP true (prodN G) r.right)):=Lib.hid (by unfold keepB;rw [Hjl.out])
    have Hno:Hid (keepB (prodN G) (reachN G) r=false→ksN G (q+1)=ksN G q∧keptT G (q+1)=keptT G q):=Lib.hid (ksN_no Hr.out)
    have Hyes:Hid (keepB (prodN G) (reachN G) r=true→ksN G (q+1)=ksN G q++[q]∧keptT G (q+1)=keptT G q++[r]):=Lib.hid (ksN_yes Hr.out)
    generalize (reachN G).getD jl false=qv at *
    generalize allP true (prodN G) r.right=av at *
    clear hPA hQA
    rcases qv with _ | _
    · obtain ⟨e4,e5⟩:=Hno.out (by rw [Hkeep.out];rfl)
      have E4:=Lib.hid e4
      have E5:=Lib.hid e5
      clear e4 e5
      go_wp2_with fail
      go_roundw
      case rel=>exact ⟨q+1,Ak,ck,An,cn,by omega,by go_num,by rw [E4.out],Lib.hid (by rw [E4.out,E5.out];exact HRA.out)⟩
      case measure=>simp [intOf];omega
    rcases av with _ | _
    · obtain ⟨e4,e5⟩:=Hno.out (by rw [Hkeep.out];rfl)
      have E4:=Lib.hid e4
      have E5:=Lib.hid e5
      clear e4 e5
      go_wp2_with (go_at_call 108;(with_reducible refine CA.out.mono ?_);rintro e w' ⟨rfl,hbw⟩)
      go_roundw
      case rel=>exact ⟨q+1,Ak,ck,An,cn,by omega,by go_num,by rw [E4.out],Lib.hid (by rw [E4.out,E5.out];exact HRA.out.below hbw)⟩
      case measure=>simp [intOf];omega
    obtain ⟨e4,e5⟩:=Hyes.out (by rw [Hkeep.out];rfl)
    have E4:=Lib.hid e4
    have E6:Hid (oldOf (keptT G (q+1))=putO (oldOf (keptT G q)) jl):=Lib.hid (by rw [e5,oldOf_snoc,Hjl.out])
    clear e4 e5 Hno Hyes Hkeep
    have HiI:Hid ((Tryz.prog.info? 3).map (fun i=>(i.zero,i.size,i.bytes))=some (some (.int .i64 0),1,8)):=Lib.hid Tryz.infoInt
    have hkl:=ks_len G q
    have hWA:wB.heap.size≤WA.heap.size:=HRA.out.off.size
    have hol:=oldT_len G Hfit.out q
    rw [e2] at hol
    generalize ksN G q=ks at *
    generalize oldOf (keptT G q)=old at *
    have Hkey:=Lib.hid (key_num jl (by omega))
    have hMO:gO+1 ≠ gO:=by omega
    by_cases hin:jl ∈ old
    case pos =>
     as_aux_lemma =>
      have Hdec:Hid (decide (jl ∈ old)=true):=Lib.hid (by simpa using hin)
      have Hput:Hid (putO old jl=old):=Lib.hid (by unfold putO;rw [if_pos hin])
      clear hin
      go_wp2_with (first
       | (go_at_call 108;(with_reducible refine CA.out.mono ?_);rintro e wW ⟨rfl,hbw⟩
          have HRW:=Lib.hid (HRA.out.below hbw)
          have HXW:=Lib.hid (Blk.ext HXA.out hbw)
          have hWs:wB.heap.size≤wW.heap.size:=HRW.out.off.size)
       | (at_builtin;refine wpl_appendT rfl _ _ 27 rfl wB.heap.size 3 _ 1 8 Tryz.underlying27 HiI.out (by decide) (by decide) Ak ks.length ck (ints .i64 (intsOf ks)) rfl HRW.out.kept [.int .i64 (q:Int)] rfl rfl (by simp [Value.oneCell']) (by omega) (by omega) (by omega) ?_;intro A5 c5 w5 ho hg ha
          have HR5:=Lib.hid (HRW.out.put (by omega) (by omega) q A5 c5 ho hg)
          have hX5:=HXW.out.grown hg (by intro e;have:=Hkx.out gX e.symm;omega)
          have x05:w5.cell? ⟨gX,0,none⟩=some (.int .i64 (jl:Int)):=hX5.cell 0
          have xl5:=hX5.lt
          clear ho hg ha hX5)
       | (at_lookup;refine wpList_lookup_own_ok_int _ rfl _ _ 154 rfl 3 3 .i64 Tryz.keyInt Tryz.underlying154 Tryz.underlying3 (Tryz.zeroInt _) (gO+1) old.length (numD old) rfl HR5.out.num _ _ rfl Hkey.out ?_;intro cv hat hwc;rw [has_numD,Hdec.out];clear hat hwc))
      go_roundw
      case rel=>exact ⟨q+1,A5,c5,An,cn,by omega,by go_num,by rw [E4.out,List.length_append];rfl,Lib.hid (by rw [E4.out,E6.out,Hput.out];exact HR5.out)⟩
      case measure=>simp [intOf];omega
    case neg =>
     as_aux_lemma =>
      have Hdec:Hid (decide (jl ∈ old)=false):=Lib.hid (by simpa using hin)
      have Hput:Hid (putO old jl=old++[jl]):=Lib.hid (by unfold putO;rw [if_neg hin])
      have Hin:=Lib.hid hin
      have HiS:Hid ((Tryz.prog.info? 9).map (fun i=>(i.zero,i.size,i.bytes))=some (some (.string ByteArray.empty),1,16)):=Lib.hid (by kernel_rfl)
      clear hin
      go_upto_region 17 with (first
       | (go_at_call 108;(with_reducible refine CA.out.mono ?_);rintro e wW ⟨rfl,hbw⟩
          have HRW:=Lib.hid (HRA.out.below hbw)
          have HXW:=Lib.hid (Blk.ext HXA.out hbw)
          have hWs:wB.heap.size≤wW.heap.size:=HRW.out.off.size)
       | (at_builtin;refine wpl_appendT rfl _ _ 27 rfl wB.heap.size 3 _ 1 8 Tryz.underlying27 HiI.out (by decide) (by decide) Ak ks.length ck (ints .i64 (intsOf ks)) rfl HRW.out.kept [.int .i64 (q:Int)] rfl rfl (by simp [Value.oneCell']) (by omega) (by omega) (by omega) ?_;intro A5 c5 w5 ho hg ha
          have HR5:=Lib.hid (HRW.out.put (by omega) (by omega) q A5 c5 ho hg)
          have hX5:=HXW.out.grown hg (by intro e;have:=Hkx.out gX e.symm;omega)
          have x05:w5.cell? ⟨gX,0,none⟩=some (.int .i64 (jl:Int)):=hX5.cell 0
          have xl5:=hX5.lt
          have co:w5.cell? ⟨gO,1,none⟩=some (.slice An old.length cn):=HR5.out.out.cell 1
          have HX5:=Lib.hid hX5
          clear ho hg ha hX5)
       | (at_lookup;refine wpList_lookup_own_ok_int _ rfl _ _ 154 rfl 3 3 .i64 Tryz.keyInt Tryz.underlying154 Tryz.underlying3 (Tryz.zeroInt _) (gO+1) old.length (numD old) rfl HR5.out.num _ _ rfl Hkey.out ?_;intro cv hat hwc;rw [has_numD,Hdec.out];clear hat hwc)
       | (at_mapUpdate;refine wpList_mapUpdate_own _ rfl _ _ _ 154 rfl 3 3 Tryz.keyInt Tryz.underlying154 _ (gO+1) old.length (numD old) rfl HR5.out.num (by unfold maxLen;omega) _ _ _ rfl rfl Hkey.out _ [] (plainElem_int Tryz.underlying3 (WalkArith.wf_i64 (by omega))) ?_;intro w6 ho6 hg6
          have HM6:=Lib.hid (HR5.out.number (by omega) (by omega) hMO Hin.out ho6 hg6)
          have HX6:=Lib.hid (HX5.out.grown hg6 (by intro e;injection e with e;omega))
          clear ho6 hg6))
      have HB6:Hid (Below w8.heap.size w8 w6):=Lib.hid (HBB.out.trans (HM6.out.off.is_below HBB.out.size fun k hk=>by omega))
      have hbs:=Hbx8.out.below HB6.out
      have hXs:=HX6.out
      obtain ⟨nb,no,nm,rfl,hnb,Hnm,cnm⟩:=(Hg.out.below (below_tail HB8.out HB6.out)).nons.get hjl2
      have hnm:nm=nameO G jl:=by unfold nameO;rw [Hnm.out];rfl
      have hws2:wB.heap.size≤w6.heap.size:=HM6.out.off.size
      have ⟨y5,y0,y1,y2,y3⟩:=hbs
      simp only [] at y0 y1 y2 y3
      have x0:w6.cell? ⟨gX,0,none⟩=some (.int .i64 (jl:Int)):=hXs.cell 0
      have xls:=hXs.lt
      have co6:w6.cell? ⟨gO,1,none⟩=some (.slice (An) old.length cn):=HM6.out.out.cell 1
      have col:=HM6.out.out.lt
      have hBA:Below w6.heap.size w6 (w6.drew.alloc (.cells #[.string nm] 9)):=(Below.refl w6.heap.size w6).drew.alloc (Nat.le_refl _) _
      have HMA:=Lib.hid (HM6.out.below hBA)
      have hle:wB.heap.size≤(w6.drew.alloc (.cells #[.string nm] 9)).heap.size:=by have:=hBA.size;omega
      have HBA':=Lib.hid hBA
      have Hnm2:=Lib.hid hnm
      clear hbs hXs hnm hBA co x05 xl5
      go_region_law (first
       | (refine step_appendM rfl _ _ 23 rfl wB.heap.size 9 _ 1 16 Tryz.underlying23 HiS.out (by decide) (by decide) An old.length cn (old.map fun i=>Value.string (nameO G i)) (by simp [Act.eval,Act.put]) (by exact HMA.out.nons) ⟨w6.heap.size,0,none⟩ 1 1 [.string nm] rfl (by simp [Act.eval,Act.put]) (by exact laid_cells w6.drew [.string nm] _) (by simp [Value.oneCell']) (by omega) (by omega) (by exact hle) ?_;intro A6 c6 w7 ho hgr ha
          have b6:=HMA.out.out.grown hgr (by intro e;have:=(HMA.out.nons.lt gO e.symm).1;omega)
          have i1:w7.cell? ⟨gO,1,none⟩=some (.slice An old.length cn):=b6.cell 1
          have i2:=b6.frozen 1
          have HF:=Lib.hid (HMA.out.name (by omega) (by omega) hMO A6 c6 (by rw [← Hnm2.out];exact ho) hgr)
          clear b6 ho hgr ha))
      all_goals
       go_wp2_with fail
       go_roundw
       case rel=>exact ⟨q+1,A5,c5,A6,c6,by omega,by go_num,by rw [E4.out,List.length_append];rfl,Lib.hid (by rw [E4.out,E6.out,Hput.out];exact HF.out)⟩
       case measure=>simp [intOf];omega
  case neg =>
   as_aux_lemma =>
    obtain rfl:n3=q:=by omega
    obtain ⟨wC,hwC⟩:∃ x,x=wr:=⟨wr,rfl⟩
    subst hwC
    have Hold:Hid (oldOf (keptT G n3)=oldN G):=Lib.hid (by rw [← e3,keptT_all];rfl)
    have hks:=ks_rules G n3 (by omega)
    have hkT:keptT G n3=keptR G:=by rw [← e3,keptT_all]
    rw [hkT] at hks
    have hklt:∀ i,i ∈ ksN G n3→i < n3:=fun i hi=>ks_lt hi
    have hkln:=ks_len G n3
    rw [Hold.out] at HR
    have hml:(oldN G).length≤n2:=by have:=old_len Hfit.out;omega
    generalize ksN G n3=ks at *
    have HNc:=Lib.hid HR.out.num
    have HKp:=Lib.hid HR.out.kept
    have HNn:=Lib.hid HR.out.nons
    have HTmC:=Lib.hid (HR.out.off.row HTmB.out fun b hb h=>by have:=HTb.out b hb;omega)
    have hR3:Hid (Red3 wC gO (.slice A4 n1 c4) (.slice An (oldN G).length cn) wC none 0 []):=Lib.hid ⟨Off.refl _ _,HR.out.out,[],World.ownsRow_nil _ _ _ _,RulCs.nil _ _⟩
    have hgC:gO+1 < wC.heap.size:=HR.out.num.lt
    have hwBC:wB.heap.size≤wC.heap.size:=HR.out.off.size
    have HBC:=HBz
    have Hks:=Lib.hid hks
    have Hklt:=Lib.hid hklt
    have hkc:=(own_sl HR.out.kept).2
    generalize hnk:ks.length=nk at *
    have hkcap:nk≤ck∧ck≤9223372036854775807:=⟨hkc.1,hkc.2.1⟩
    have Hnk:=Lib.hid hnk
    have Hstold:Hid (st ∈ oldN G):=Lib.hid (by have:=prod_start Hfit.out (by rw [Hst.out];have:=Hps.out;unfold redOK at this;rw [Bool.and_eq_true,Hst.out] at this;exact this.2);rwa [Hst.out] at this)
    have hw8C:w8.heap.size≤wC.heap.size:=HBC.out.size
    clear HR hks hkT hklt HBz HBzw hnk HBB HBw HOutB HTmB hqq hq hkc HNum
    have HRn:Hid ((keptR G).length=nk):=Lib.hid Hks.out.1.symm
    clear y0 y1 y2 y3 y5
    go_wp2_with fail
    go_loopw [93] (fun i wz=>∃ (q:Nat) (A3:Option Addr) (c3':Nat),q≤nk∧i = .int .i64 (q:Int)∧Hid (Red3 wC gO (.slice A4 n1 c4) (.slice An (oldN G).length cn) wz A3 c3' (((keptR G).take q).map (redR (oldN G))))) (fun i _=>nk - (intOf i).toNat)
    case atStart=>exact ⟨0,none,0,Nat.zero_le _,rfl,Lib.hid (by simpa using hR3.out)⟩
    case round =>
     obtain ⟨q,A3,c3',hq,rfl,HR⟩:=hrel
     have HBz:Hid (Below w8.heap.size w8 wr):=Lib.hid (HBC.out.trans (HR.out.off.is_below HBC.out.size fun k hk=>by omega))
     have HBzw:=Lib.hid (below_tail HB8.out HBz.out)
     have hbx:=Hbx8.out.below HBz.out
     have hwCr:wC.heap.size≤wr.heap.size:=HR.out.off.size
     have hrl:(((keptR G).take q).map (redR (oldN G))).length=q:=by rw [List.length_map,List.length_take,HRn.out];omega
     have HNz:Hid (NumM wr (gO+1) (oldN G)):=Lib.hid (HNc.out.block (HR.out.off.keep (gO+1) HNc.out.lt (by omega)))
     have ⟨y5,y0,y1,y2,y3⟩:=hbx
     simp only [] at y0 y1 y2 y3
     clear hbx
     by_cases hqq:q < nk
     case pos =>
      as_aux_lemma =>
       obtain ⟨i,hi⟩:∃ i,ks[q]? = some i:=⟨_,List.getElem?_eq_getElem (by rw [Hnk.out];exact hqq)⟩
       have hilt:=Hklt.out i (List.mem_of_getElem? hi)
       obtain ⟨r,hri,hrk⟩:=Hks.out.2 q i hi
       have hKr:wr.ownsRow wB.heap.size 3 1 (.slice Ak nk ck) nk (ints .i64 (intsOf ks)):=HR.out.off.row HKp.out fun b hb h=>by have:=(HKp.out.lt b hb).1;omega
       have hKi:Ints .i64 wr Ak nk ck (intsOf ks):=own_sl hKr
       obtain ⟨kb,ko,kv,rfl,hkb,Hkv,ckv⟩:=hKi.get hqq
       obtain rfl:(i:Int)=kv:=by have h:=Hkv.out;rw [show (intsOf ks)[q]? = some (i:Int) by unfold intsOf;rw [List.getElem?_map,hi];rfl] at h;exact Option.some.inj h
       obtain ⟨bb,off,r',Ar,cr,rfl,hb0,Hr,q0,q1,q2,hrrw⟩:=Hg.out.rules.get hilt
       obtain rfl:r=r':=by have h:=Hr.out;rw [hri] at h;exact Option.some.inj h
       rw [← HBzw.out.cell (by exact hb0)] at q0 q1 q2
       have hb:bb < wr.heap.size:=Nat.lt_of_lt_of_le hb0 HBzw.out.size
       have HrrW:=Lib.hid hrrw
       have hmem:=List.mem_of_getElem? hri
       have Hmk:Hid (r ∈ keptR G):=Lib.hid (List.mem_of_getElem? hrk)
       obtain ⟨l1,l2⟩:=Hfit.out.left r hmem
       obtain ⟨jl,hjl⟩:∃ jl:Nat,r.left=(jl:Int):=⟨r.left.toNat,by omega⟩
       have hjl2:jl < n2:=by omega
       have Hjl:Hid (r.left.toNat=jl):=Lib.hid (by omega)
       have hlen:=Hfit.out.len r hmem
       have hsy:=Hfit.out.symB hmem
       rw [e2] at hsy
       have Hsy:=Lib.hid hsy
       rw [hjl] at q0
       have Hrk:=Lib.hid hrk
       have Hjo:Hid (jl ∈ oldN G):=Lib.hid (by rw [← Hjl.out];exact kept_left Hmk.out)
       have hbA:=alloc_below wr (.cells #[.int .i64 (jl:Int), .slice Ar r.right.length cr, .int .i64 r.prec] 52)
       have hXA:=Blk.new wr 52 #[.int .i64 (jl:Int), .slice Ar r.right.length cr, .int .i64 r.prec]
       have hsA:(wr.alloc (.cells #[.int .i64 (jl:Int), .slice Ar r.right.length cr, .int .i64 r.prec] 52)).heap.size=wr.heap.size+1:=alloc_size _ _
       have HNA:=Lib.hid (HNz.out.block (hbA.block (gO+1) HNz.out.lt))
       have HBA:=Lib.hid (HBz.out.trans (hbA.mono HBz.out.size))
       have HbA:=Lib.hid hbA
       have H3l:Hid (∀ b,(Value.slice A3 (((keptR G).take q).map (redR (oldN G))).length c3').ownBlock=some b→wC.heap.size≤b∧b < wr.heap.size):=Lib.hid fun b hb=>by obtain ⟨cs,h3,_⟩:=HR.out.rules;exact h3.lt b hb
       clear hsy l1 l2 hjl hmem hrrw hrk hri hi hKr hKi hbA
       go_upto_region 23 with fail
       generalize wr.alloc (.cells #[.int .i64 (jl:Int), .slice Ar r.right.length cr, .int .i64 r.prec] 52)=WA at *
       have HXA:=Lib.hid hXA
       clear hXA q0 q1 q2 hb y0 y1 y2 y3 y5 ckv
       have x0:WA.cell? ⟨wr.heap.size,0,none⟩=some (.int .i64 (jl:Int)):=HXA.out.cell 0
       have x1:WA.cell? ⟨wr.heap.size,1,none⟩=some (.slice Ar r.right.length cr):=HXA.out.cell 1
       have x2:WA.cell? ⟨wr.heap.size,2,none⟩=some (.int .i64 r.prec):=HXA.out.cell 2
       have xl:=HXA.out.lt
       have Htl:Hid ((redR (oldN G) r).left=toI (oldN G) jl):=Lib.hid (by show toI (oldN G) r.left.toNat=_;rw [Hjl.out])
       have Hlk:Hid (∀ X,Below WA.heap.size WA X→(Instr.lookup 154 (.map (some (gO+1))) (.int .i64 (jl:Int)) false).run Tryz.prog X = .ok (.int .i64 (toI (oldN G) jl)) X):=Lib.hid fun X hX=>(HNA.out.block (hX.block (gO+1) HNA.out.lt)).look (old_nodup G) Hjo.out (by omega)
       have Hrr2:=Lib.hid ((HrrW.out.below HBzw.out).below HbA.out)
       generalize toI (oldN G) jl=tl at *
       refine wp_region_grow1 (fun X=>Below WA.heap.size WA X) (fun X X'=>Below X.heap.size X X') (fun u=>(⟨(GV ⟨a1,n1,c1,a2,n2,c2,some ⟨bb,off,none⟩,n3,c3⟩ G.start::Value.pointer (some ⟨w.heap.size,0,none⟩)::Value.pointer (some ⟨w.heap.size+1,0,none⟩)::Value.slice none 0 0::Value.int IntKind.i64 0::Value.slice (some ⟨gP,0,none⟩) n2 n2::Value.slice (some ⟨gQ,0,none⟩) n2 n2::Value.slice (some ⟨kb,ko,none⟩) nk ck::Value.pointer (some ⟨gO,0,none⟩)::Value.map (some (gO+1))::u10::u11::u12::u13::undef::Value.int IntKind.i64 (i:Int)::Value.pointer (some ⟨wr.heap.size,0,none⟩)::u 10::u18::u19::Value.agg #[Value.slice a1 n1 c1,Value.slice a2 n2 c2,Value.slice (some ⟨bb,off,none⟩) n3 c3,Value.int IntKind.i64 G.start]::Value.bool true::Value.bool false::undef::Value.agg #[Value.slice a1 n1 c1,Value.slice a2 n2 c2,Value.slice (some ⟨bb,off,none⟩) n3 c3,Value.int IntKind.i64 G.start]::Value.slice (some ⟨gP,0,none⟩) n2 n2::Value.agg #[Value.slice a1 n1 c1,Value.slice a2 n2 c2,Value.slice (some ⟨bb,off,none⟩) n3 c3,Value.int IntKind.i64 G.start]::Value.slice (some ⟨gQ,0,none⟩) n2 n2::Value.slice (some ⟨gP,0,none⟩) n2 n2::Value.pointer (some ⟨w.heap.size,3,none⟩)::Value.int IntKind.i64 (st:Int)::Value.pointer (some ⟨gP,st,none⟩)::Value.bool true::Value.bool false::undef::Value.pointer (some ⟨w.heap.size,0,none⟩)::Value.slice a1 n1 c1::Value.slice A4 n1 c4::Value.agg #[Value.slice A4 n1 c4,Value.slice none 0 0,Value.slice none 0 0,Value.int IntKind.i64 0]::Value.map (some (gO+1))::Value.pointer (some ⟨w.heap.size,2,none⟩)::Value.slice (some ⟨bb,off,none⟩) n3 c3::Value.int IntKind.i64 (n3:Int)::Value.int IntKind.i64 (n3:Int)::Value.bool false::u45::u46::u47::u48::u49::u50::u51::u52::u53::u54::u55::u56::u57::u58::u59::u60::u61::u62::u63::u64::u65::u66::u67::u68::u69::u70::u71::u72::u73::u74::u75::u76::u77::u78::u79::u80::u81::u82::u83::u84::u85::u86::u87::u88::u89::u90::Value.slice (some ⟨kb,ko,none⟩) nk ck::Value.int IntKind.i64 (nk:Int)::Value.int IntKind.i64 (q:Int)::Value.bool true::Value.pointer (some ⟨kb,ko+q,none⟩)::Value.int IntKind.i64 (i:Int)::Value.pointer (some ⟨w.heap.size,2,none⟩)::Value.slice (some ⟨bb,off,none⟩) n3 c3::Value.int IntKind.i64 (i:Int)::Value.pointer (some ⟨bb,off+i * 3,none⟩)::Value.agg #[Value.int IntKind.i64 (jl:Int),Value.slice Ar r.right.length cr,Value.int IntKind.i64 r.prec]::u 0::u 1::u 2::u 3::u 4::u 5::u 6::u 7::u 8::u 9::u112::u113::u114::u115::u116::u117::u118::u119::u120::u121::u122::u123::u124::u125::u126::u127::u128::u129::u130::u131::u132::u133::u134::u135::u136::u137::u138::undef::undef::undef::undef::undef::undef::undef::[]).toArray,[]⟩:Act)) [u102,u103,u104,u105,u106,u107,u108,u109,u110,u111,u17] [fun v X=>v=Value.map (some (gO+1)),fun v X=>v=Value.pointer (some ⟨wr.heap.size,0,none⟩),fun v X=>v=Value.int .i64 (jl:Int),fun v X=>v=Value.int .i64 tl,fun v X=>v=Value.pointer (some ⟨wr.heap.size,1,none⟩),fun v X=>v=Value.slice Ar r.right.length cr,fun v X=>∃ Ax cx,v=Value.slice Ax r.right.length cx∧World.ownsRow X WA.heap.size 3 1 (Value.slice Ax r.right.length cx) r.right.length (ints .i64 r.right),fun v X=>v=Value.pointer (some ⟨wr.heap.size,2,none⟩),fun v X=>v=Value.int .i64 r.prec,fun v X=>∃ Ax cx,v=Value.agg #[Value.int .i64 tl,Value.slice Ax r.right.length cx,Value.int .i64 r.prec]∧World.ownsRow X WA.heap.size 3 1 (Value.slice Ax r.right.length cx) r.right.length (ints .i64 r.right),fun v X=>∃ gY,v=Value.pointer (some ⟨gY,0,none⟩)∧WA.heap.size≤gY∧Blk X gY 52 #[.int .i64 0, .slice none 0 0, .int .i64 0]] (fun u X=>∃ Ax cx gY,u 10=Value.pointer (some ⟨gY,0,none⟩)∧WA.heap.size≤gY∧Blk X gY 52 #[Value.int .i64 tl,Value.slice Ax r.right.length cx,Value.int .i64 r.prec]∧World.ownsRow X WA.heap.size 3 1 (Value.slice Ax r.right.length cx) r.right.length (ints .i64 r.right)∧Below WA.heap.size WA X) (l:=[_,_,_,_,_,_,_,_,_,_,_]) (by kernel_rfl) (by kernel_rfl) (by kernel_rfl) rfl rfl (Below.refl _ _).drew ⟨fun _ _ _ h _=>h,fun _ _ _ h _=>h,fun _ _ _ h _=>h,fun _ _ _ h _=>h,fun _ _ _ h _=>h,fun _ _ _ h _=>h,(fun _ _ _ ⟨A,c,e,h⟩ hb=>⟨A,c,e,own_keep h fun b _ hl=>hb.block b hl⟩),fun _ _ _ h _=>h,fun _ _ _ h _=>h,(fun _ _ _ ⟨A,c,e,h⟩ hb=>⟨A,c,e,own_keep h fun b _ hl=>hb.block b hl⟩),(fun _ _ _ ⟨g,e,h,h2⟩ hb=>⟨g,e,h,Blk.ext h2 hb⟩),trivial⟩ ?_ ?_ ?_
       · refine StepsF.cons rfl (fun _ _=>rfl) (fun Q u X hBX hp KK hKK=>?_) ?_
         · go_simp
           exact hKK _ _ hBX (Below.refl _ _) rfl
         refine StepsF.cons rfl (fun _ _=>rfl) (fun Q u X hBX hp KK hKK=>?_) ?_
         · go_simp
           exact hKK _ _ hBX (Below.refl _ _) rfl
         refine StepsF.cons rfl (fun _ _=>rfl) (fun Q u X hBX hp KK hKK=>?_) ?_
         · have p1:u 1=_:=hp 1 rfl
           clear hp
           generalize u 1=x1 at *
           subst p1
           have cg0:=(hBX.cell (p:=⟨wr.heap.size,0,none⟩) xl).trans x0
           go_simp
           exact hKK _ _ hBX (Below.refl _ _) rfl
         refine StepsF.cons rfl (fun _ _=>rfl) (fun Q u X hBX hp KK hKK=>?_) ?_
         · have p0:u 0=_:=hp 0 rfl
           have p2:u 2=_:=hp 2 rfl
           clear hp
           generalize u 0=x0 at *
           subst p0
           generalize u 2=x2 at *
           subst p2
           have hlk:=Hlk.out X hBX
           go_simp
           exact hKK _ _ hBX (Below.refl _ _) rfl
         refine StepsF.cons rfl (fun _ _=>rfl) (fun Q u X hBX hp KK hKK=>?_) ?_
         · go_simp
           exact hKK _ _ hBX (Below.refl _ _) rfl
         refine StepsF.cons rfl (fun _ _=>rfl) (fun Q u X hBX hp KK hKK=>?_) ?_
         · have p4:u 4=_:=hp 4 rfl
           clear hp
           generalize u 4=x4 at *
           subst p4
           have cg0:=(hBX.cell (p:=⟨wr.heap.size,1,none⟩) xl).trans x1
           go_simp
           exact hKK _ _ hBX (Below.refl _ _) rfl
         refine StepsF.cons rfl (fun _ _=>rfl) (fun Q u X hBX hp KK hKK=>?_) ?_
         · have p5:u 5=_:=hp 5 rfl
           clear hp
           generalize u 5=x5 at *
           subst p5
           have hrX:=Hrr2.out.below hBX
           go_simp
           (with_reducible refine (tr_Clone Ar r.right.length cr r.right X hrX (by omega)).mono ?_)
           rintro e w2 ⟨v2,rfl,hov,hB2⟩
           obtain ⟨Ax,cx,rfl⟩:=own_form hov
           have hov2:=own_mono hov hBX.size
           go_simp
           exact hKK _ _ (below_tail hBX hB2) hB2 ⟨Ax,cx,rfl,hov2⟩
         refine StepsF.cons rfl (fun _ _=>rfl) (fun Q u X hBX hp KK hKK=>?_) ?_
         · go_simp
           exact hKK _ _ hBX (Below.refl _ _) rfl
         refine StepsF.cons rfl (fun _ _=>rfl) (fun Q u X hBX hp KK hKK=>?_) ?_
         · have p7:u 7=_:=hp 7 rfl
           clear hp
           generalize u 7=x7 at *
           subst p7
           have cg0:=(hBX.cell (p:=⟨wr.heap.size,2,none⟩) xl).trans x2
           go_simp
           exact hKK _ _ hBX (Below.refl _ _) rfl
         refine StepsF.cons rfl (fun _ _=>rfl) (fun Q u X hBX hp KK hKK=>?_) ?_
         · have p3:u 3=_:=hp 3 rfl
           obtain ⟨Ax,cx,p6,hox⟩:=hp 6 rfl
           have p8:u 8=_:=hp 8 rfl
           clear hp
           generalize u 3=x3 at *
           subst p3
           generalize u 6=x6 at *
           subst p6
           generalize u 8=x8 at *
           subst p8
           go_simp
           exact hKK _ _ hBX (Below.refl _ _) ⟨Ax,cx,rfl,hox⟩
         refine StepsF.cons rfl (fun _ _=>rfl) (fun Q u X hBX hp KK hKK=>?_) ?_
         · go_simp
           exact hKK _ _ (below_alloc hBX _) (alloc_below _ _) ⟨_,rfl,hBX.size,Blk.new _ _ _⟩
         exact StepsF.nil
       · intro Q u X hBX hp KK hKK
         obtain ⟨Ax,cx,p9,hox⟩:=hp 9 (by decide)
         obtain ⟨gY,p10,hgY,hY⟩:=hp 10 (by decide)
         clear hp
         generalize u 9=x9 at *
         subst p9
         generalize u 10=x10 at *
         subst p10
         have cg0:X.cell? ⟨gY,0,none⟩=some (.int .i64 0):=hY.cell 0
         have cg1:X.cell? ⟨gY,1,none⟩=some (.slice none 0 0):=hY.cell 1
         have cg2:X.cell? ⟨gY,2,none⟩=some (.int .i64 0):=hY.cell 2
         have fz0:=hY.frozen 0
         have fz1:=hY.frozen 1
         have fz2:=hY.frozen 2
         have hyl:=hY.lt
         have ho1:=(Off.of_set X gY 0 (.int .i64 tl)).trans (Off.of_set _ gY 1 (.slice Ax r.right.length cx)) fun _ _ h=>h
         have ho2:=ho1.trans (Off.of_set _ gY 2 (.int .i64 r.prec)) fun _ _ h=>h
         have Hfin:=Lib.hid (And.intro hgY (And.intro (((hY.set 0 (.int .i64 tl)).set 1 (.slice Ax r.right.length cx)).set 2 (.int .i64 r.prec)) (And.intro (ho2.row hox fun b hb e=>own_blk_ne hox hb hY (by decide) e) (hBX.trans (ho2.is_below hBX.size fun k hk=>by omega)))))
         clear ho1 ho2 hY hox
         go_simp
         exact hKK (fun i=>([u 0,u 1,u 2,u 3,u 4,u 5,u 6,u 7,u 8,Value.agg #[Value.int .i64 tl,Value.slice Ax r.right.length cx,Value.int .i64 r.prec],Value.pointer (some ⟨gY,0,none⟩)]:List Value).getD i undef) _ (⟨Ax,cx,gY,rfl,Hfin.out⟩)
       intro u W9 hfin
       generalize u 10=x10 at *
       obtain ⟨Ax,cx,gY,rfl,hgY,hY,hox,hBD⟩:=hfin
       have HY:=Lib.hid hY
       have Hox:=Lib.hid hox
       have HBD:=Lib.hid hBD
       have y1:W9.cell? ⟨gY,1,none⟩=some (.slice Ax r.right.length cx):=hY.cell 1
       have yl:=hY.lt
       clear hY hox hBD x0 x1 x2 Hlk
       have hcapr:=HrrW.out.cap
       go_wp2_with fail
       clear y1
       obtain ⟨wE,hwE⟩:∃ x,x=wr:=⟨wr,rfl⟩
       subst hwE
       have hlist0:ints .i64 (((r.right.take 0).map (redS (oldN G)))++r.right.drop 0)=ints .i64 r.right:=by simp
       have hgON:gO+1 < WA.heap.size:=HNA.out.lt
       go_loopw [115] (fun i wz=>∃ kk:Nat,kk≤r.right.length∧i = .int .i64 (kk:Int)∧Hid (Off (fun k=>(Value.slice Ax r.right.length cx).ownBlock=some k) W9 wz)∧Hid (wz.ownsRow WA.heap.size 3 1 (.slice Ax r.right.length cx) r.right.length (ints .i64 (((r.right.take kk).map (redS (oldN G)))++r.right.drop kk)))) (fun i _=>r.right.length - (intOf i).toNat)
       case atStart=>exact ⟨0,Nat.zero_le _,rfl,Lib.hid (Off.refl _ _),Lib.hid (by rw [hlist0];exact Hox.out)⟩
       case round =>
        obtain ⟨kk,hkk,rfl,HO4,Ho⟩:=hrel
        have HY4:=Lib.hid (HO4.out.blk HY.out fun e=>own_blk_ne Hox.out e HY.out (by decide) rfl)
        have y1:wr.cell? ⟨gY,1,none⟩=some (.slice Ax r.right.length cx):=HY4.out.cell 1
        have yl4:=HY4.out.lt
        have hcx:=(own_sl Ho.out).2
        by_cases hkl:kk < r.right.length
        case pos =>
         obtain ⟨gC,u,rfl,hgC1,hgC2,Hu,cu,fu⟩:=own_at Ho.out (j:=kk) hkl
         obtain ⟨sv,Hsv⟩:∃ sv,Hid (r.right[kk]? = some sv):=⟨_,Lib.hid (List.getElem?_eq_getElem hkl)⟩
         have hgl:(((r.right.take kk).map (redS (oldN G)))++r.right.drop kk)[kk]? = some sv:=by
          rw [List.getElem?_append_right (by rw [List.length_map,List.length_take];omega),List.length_map,List.length_take,Nat.min_eq_left hkk,Nat.sub_self,List.getElem?_drop,Nat.add_zero]
          exact Hsv.out
         have hu:u = .int .i64 sv:=by have:=Hu.out;unfold ints at this;rw [List.getElem?_map,hgl] at this;exact (Option.some.inj this).symm
         subst hu
         have hs1:=Hsy.out sv (List.mem_of_getElem? Hsv.out)
         have Hnext:Hid ((((r.right.take kk).map (redS (oldN G)))++r.right.drop kk).set kk (redS (oldN G) sv)=((r.right.take (kk+1)).map (redS (oldN G)))++r.right.drop (kk+1)):=Lib.hid (by
          have hd:r.right.drop kk=sv::r.right.drop (kk+1):=by
           have h1:=List.getElem?_eq_some_iff.1 Hsv.out
           rw [List.drop_eq_getElem_cons h1.1,h1.2]
          rw [hd,List.set_append_right _ _ (by simp;omega),List.length_map,List.length_take,Nat.min_eq_left hkk,Nat.sub_self,take_snoc' Hsv.out,List.map_append,List.append_assoc]
          rfl)
         by_cases h0:0≤sv
         · as_aux_lemma =>
            have hrs:redS (oldN G) sv=sv:=by unfold redS;rw [if_neg (by omega)]
            have hn0:¬ (sv < 0):=by omega
            have Hsame:Hid ((((r.right.take kk).map (redS (oldN G)))++r.right.drop kk)=((r.right.take (kk+1)).map (redS (oldN G)))++r.right.drop (kk+1)):=Lib.hid (by
             have h9:=Hnext.out
             rw [hrs] at h9
             rw [← h9]
             refine List.ext_getElem? fun j=>?_
             by_cases hj:kk=j
             · subst hj
               rw [List.getElem?_set_self (by have:=(List.getElem?_eq_some_iff.1 hgl).1;exact this),hgl]
             · rw [List.getElem?_set_ne hj])
            clear hrs hgl Hnext
            go_wp2_with fail
            go_roundw
            case rel=>exact ⟨kk+1,by omega,by go_num,HO4,Lib.hid (by rw [← Hsame.out];exact Ho.out)⟩
            case measure=>simp [intOf];omega
         · as_aux_lemma =>
            obtain ⟨jp,hjp,hnj,hw⟩:=non_place (s:=sv) (n:=n2) (by omega) hs1.1 (by omega)
            have hrs:redS (oldN G) sv=-1 - toI (oldN G) jp:=by unfold redS;rw [if_pos (by omega),hnj]
            have hjo:jp ∈ oldN G:=by rw [← hnj];exact kept_sym Hfit.out Hmk.out (List.mem_of_getElem? Hsv.out) (by omega)
            have hN4:NumM wr (gO+1) (oldN G):=(HNA.out.block (HBD.out.block (gO+1) hgON)).block (HO4.out.keep (gO+1) (Nat.lt_of_lt_of_le hgON HBD.out.size) fun e=>by have:=(Hox.out.lt (gO+1) e).1;omega)
            have hlk:=hN4.look (old_nodup G) hjo (by omega)
            have htb:=toI_lt (oldN G) jp
            have hw2:IntKind.i64.wrap (-1 - toI (oldN G) jp)=-1 - toI (oldN G) jp:=IntWalk.i64_in _ (by omega)
            have hn0:sv < 0:=by omega
            have hset:=own_set Ho.out kk (.int .i64 (-1 - toI (oldN G) jp))
            have hset2:Hid ((wr.setCell ⟨gC,kk,none⟩ (.int .i64 (-1 - toI (oldN G) jp))).ownsRow WA.heap.size 3 1 (.slice (some ⟨gC,0,none⟩) r.right.length cx) r.right.length (ints .i64 (((r.right.take (kk+1)).map (redS (oldN G)))++r.right.drop (kk+1)))):=Lib.hid (by
             rw [← Hnext.out,hrs]
             have e9:ints .i64 ((((r.right.take kk).map (redS (oldN G)))++r.right.drop kk).set kk (-1 - toI (oldN G) jp))=(ints .i64 (((r.right.take kk).map (redS (oldN G)))++r.right.drop kk)).set kk (.int .i64 (-1 - toI (oldN G) jp)):=by unfold ints;rw [List.map_set]
             rw [e9]
             exact hset)
            clear hrs hgl Hnext hset hN4 hjo
            generalize toI (oldN G) jp=tj at *
            go_wp2_with fail
            go_roundw
            case rel=>exact ⟨kk+1,by omega,by go_num,Lib.hid (HO4.out.trans (Off.of_set wr gC kk (.int .i64 (-1 - tj))) fun k _ h=>by rw [h];rfl),hset2⟩
            case measure=>simp [intOf];omega
        case neg =>
         obtain rfl:r.right.length=kk:=by omega
         as_aux_lemma =>
          have hsA2:WA.heap.size=wE.heap.size+1:=hsA
          have hBEz:Below wE.heap.size wE wr:=(below_tail HbA.out HBD.out).trans (HO4.out.is_below (by have:=HBD.out.size;have:=HbA.out.size;omega) fun k hk=>by have:=(Hox.out.lt k hk).1;omega)
          have HRz:=Lib.hid (HR.out.below hBEz)
          obtain ⟨cs,h3,hcs⟩:=HRz.out.rules
          have H3:=Lib.hid h3
          have co:wr.cell? ⟨gO,2,none⟩=some (.slice A3 (((keptR G).take q).map (redR (oldN G))).length c3'):=HRz.out.out.cell 2
          have col:=HRz.out.out.lt
          have HOz:=Lib.hid HRz.out.out
          have Hq1:Hid (((keptR G).take (q+1)).map (redR (oldN G))=((keptR G).take q).map (redR (oldN G))++[redR (oldN G) r]):=Lib.hid (by rw [take_snoc' Hrk.out,List.map_append];rfl)
          have hI:Ints .i64 wr Ax r.right.length cx (r.right.map (redS (oldN G))):=by
           have:=own_sl Ho.out
           rw [List.take_of_length_le (Nat.le_refl _),List.drop_length,List.append_nil] at this
           exact this
          have Hput:=Lib.hid fun w7 A7 c7 ho hg hb=>Red3.put HRz.out (by omega) (redR (oldN G) r) (Ar:=Ax) (cr:=cx) (by show Ints .i64 wr Ax (r.right.map (redS (oldN G))).length cx (r.right.map (redS (oldN G)));rw [List.length_map];exact hI)
           (fun b off hb=>by have h1:=Ho.out.lt b (by rw [hb];rfl);refine ⟨h1.2,by omega,fun h=>?_⟩;have:=(H3l.out b h).2;omega) (w1:=w7) A7 c7 ho hg hb
          have yy0:wr.cell? ⟨gY,0,none⟩=some (.int .i64 tl):=HY4.out.cell 0
          have yy2:wr.cell? ⟨gY,2,none⟩=some (.int .i64 r.prec):=HY4.out.cell 2
          have HiR:Hid ((Tryz.prog.info? 52).map (fun i=>(i.zero,i.size,i.bytes))=some (some (.agg #[.int .i64 0, .slice none 0 0, .int .i64 0]),3,40)):=Lib.hid (by kernel_rfl)
          have hwCz:wC.heap.size≤wr.heap.size:=by have:=hBEz.size;omega
          have hrl2:(((keptR G).take q).map (redR (oldN G))).length < 60:=by omega
          generalize ((keptR G).take q).map (redR (oldN G))=rs at *
          clear hrl h3 hcs hBEz hI
          go_wp2_with (first
           | (at_builtin;refine wpl_appendT rfl _ _ 24 rfl wC.heap.size 52 _ 3 40 Tryz.underlying24 HiR.out (by decide) (by decide) A3 rs.length c3' cs rfl H3.out [.int .i64 tl, .slice Ax r.right.length cx, .int .i64 r.prec] rfl rfl (by simp [Value.oneCell']) (by omega) (by omega) (by omega) ?_;intro A7 c7 w7 ho hg ha
              have b7:=HOz.out.grown hg (by intro e;have:=(H3.out.lt gO e.symm).1;omega)
              have i1:w7.cell? ⟨gO,2,none⟩=some (.slice A3 rs.length c3'):=b7.cell 2
              have i2:=b7.frozen 2
              have b7l:=b7.lt
              have HF:=Lib.hid (Hput.out w7 A7 c7 (fun cs' h1=>by rw [own_unique h1 H3.out];show w7.ownsRow _ _ _ _ _ (cs++[.int .i64 (redR (oldN G) r).left, .slice Ax (r.right.map (redS (oldN G))).length cx, .int .i64 r.prec]);rw [Htl.out,List.length_map];exact ho) hg ha)
              clear b7 ho hg ha))
          go_roundw
          case rel=>exact ⟨q+1,A7,c7,by omega,by go_num,Lib.hid (by rw [Hq1.out];exact HF.out)⟩
          case measure=>simp [intOf];omega
     case neg =>
      as_aux_lemma =>
       obtain rfl:nk=q:=by omega
       have hall:((keptR G).take nk).map (redR (oldN G))=(keptR G).map (redR (oldN G)):=by rw [List.take_of_length_le (by rw [HRn.out];exact Nat.le_refl _)]
       rw [hall] at HR hrl
       have hlk:=HNz.out.look (old_nodup G) Hstold.out (by omega)
       have o0:wr.cell? ⟨gO,0,none⟩=some (.slice A4 n1 c4):=HR.out.out.cell 0
       have o1:wr.cell? ⟨gO,1,none⟩=some (.slice An (oldN G).length cn):=HR.out.out.cell 1
       have o2:wr.cell? ⟨gO,2,none⟩=some (.slice A3 nk c3'):=by have:=HR.out.out.cell 2;rw [hrl] at this;exact this
       have o3:wr.cell? ⟨gO,3,none⟩=some (.int .i64 0):=HR.out.out.cell 3
       have of3:=HR.out.out.frozen 3
       have ol:=HR.out.out.lt
       have hRw:Blk wr (w.heap.size+1) 26 #[.slice none 0 0, .slice none 0 0, .slice none 0 0, .int .i64 0]:=Blk.ext HR8.out HBz.out
       have r0:wr.cell? ⟨w.heap.size+1,0,none⟩=some (.slice none 0 0):=hRw.cell 0
       have r1:wr.cell? ⟨w.heap.size+1,1,none⟩=some (.slice none 0 0):=hRw.cell 1
       have r2:wr.cell? ⟨w.heap.size+1,2,none⟩=some (.slice none 0 0):=hRw.cell 2
       have r3:wr.cell? ⟨w.heap.size+1,3,none⟩=some (.int .i64 0):=hRw.cell 3
       have f0:=hRw.frozen 0
       have f1:=hRw.frozen 1
       have f2:=hRw.frozen 2
       have f3:=hRw.frozen 3
       have hRl:=hRw.lt
       have hR8l:=HR8.out.lt
       have hRO:w.heap.size+1 ≠ gO:=by omega
       rw [HstI.out] at y3
       have Hred:Hid ((redG G).start=toI (oldN G) st):=Lib.hid (by show toI (oldN G) G.start.toNat=_;rw [Hst.out])
       have hok:redOK G=true:=Hps.out
       have hH:=Gr.fits (red_right Hrt.out (by have:=hok;unfold redOK at this;rw [Bool.and_eq_true] at this;exact this.2))
       have Hok:=Lib.hid hok
       have hTm3:=HR.out.off.row HTmC.out fun b hb h=>by have:=HTb.out b hb;omega
       have hNn3:=HR.out.off.row HNn.out fun b hb h=>by have:=(HNn.out.lt b hb).1;omega
       have hgr:∀ wF,Off (fun k=>k=gO∨k=w.heap.size+1) wr wF→GrAt wF ⟨A4,n1,c4,An,(oldN G).length,cn,A3,nk,c3'⟩ (redG G):=fun wF hof=>by
        obtain ⟨cs,h3,hcs⟩:=HR.out.rules
        refine ⟨own_trms (hof.row hTm3 fun b hb h=>by have h1:=HTb.out b hb;have h2:=(hTm3.lt b hb).1;omega),?_,?_,fun r hr s hs=>?_⟩
        · have:=own_sl (hof.row hNn3 fun b hb h=>by have h1:=(hNn3.lt b hb).1;omega)
          rw [show ((oldN G).map fun i=>Value.string (nameO G i))=((oldN G).map (nameO G)).map Value.string by rw [List.map_map];rfl] at this
          exact this
        · have:=own_ruls (hof.row h3 fun b hb h=>by have h1:=(h3.lt b hb).1;omega) (hcs.keep hof.size fun k hk ha=>⟨hof.keep k hk fun h=>by have h1:=ha.1;omega,ha⟩)
          rw [hrl] at this
          exact this
        · have h1:=hH.sym r hr s hs
          have h2:=hH.n2
          have h3:=hH.n1
          unfold InI64
          omega
       have Hgr:=Lib.hid hgr
       generalize toI (oldN G) st=ts at *
       clear hall hTm3 hNn3 hgr hok hH
       go_wp2_with fail
       have hOf:=Off.of_set wr gO 3 (.int .i64 ts)
       have s0:=Off.of_set (wr.setCell ⟨gO,3,none⟩ (.int .i64 ts)) (w.heap.size+1) 0 (.slice A4 n1 c4)
       have s1:=s0.trans (Off.of_set _ (w.heap.size+1) 1 (.slice An (oldN G).length cn)) fun _ _ h=>h
       have s2:=s1.trans (Off.of_set _ (w.heap.size+1) 2 (.slice A3 nk c3')) fun _ _ h=>h
       have s3:=s2.trans (Off.of_set _ (w.heap.size+1) 3 (.int .i64 ts)) fun _ _ h=>h
       have hB1:Below w.heap.size w (wr.setCell ⟨gO,3,none⟩ (.int .i64 ts)):=HBzw.out.trans (hOf.is_below HBzw.out.size fun k hk=>by omega)
       have hRo:Blk (wr.setCell ⟨gO,3,none⟩ (.int .i64 ts)) (w.heap.size+1) 26 #[.slice none 0 0, .slice none 0 0, .slice none 0 0, .int .i64 0]:=hOf.blk (Blk.ext HR8.out HBz.out) hRO
       refine bodyPost_ret (results_cell2 (p:=2) (u:=3) (v:=4) (by kernel_rfl) _ _ (w.heap.size+1) 26 #[.slice A4 n1 c4, .slice An (oldN G).length cn, .slice A3 nk c3', .int .i64 ts] (0,0) _ rfl (Blk.set (Blk.set (Blk.set (Blk.set hRo 0 (.slice A4 n1 c4)) 1 (.slice An (oldN G).length cn)) 2 (.slice A3 nk c3')) 3 (.int .i64 ts)) Tryz.underlying26 rfl (by kernel_rfl)) rfl ?_
       refine ⟨hB1.trans (s3.is_below hB1.size fun k hk=>by omega), .inr ⟨Hok.out,⟨A4,n1,c4,An,(oldN G).length,cn,A3,nk,c3'⟩,Ak,nk,ck,?_,?_,hn1,by simp only [];omega,by simp only [];omega⟩⟩
       · rw [Hred.out];rfl
       · exact Hgr.out _ ((offX hOf s3))
end Go.Proofs.YtggbjdmpjidhgaaGreatDoor
