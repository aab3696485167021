/- what is of use of a grammar: the reference's Reduce, walked. -/
import Derived.Test.YtggbjdmpjidhgaaGreatDoorQCyR1
import Derived.Test.YtggbjdmpjidhgaaGreatDoorQPs15
import Derived.Test.YtggbjdmpjidhgaaGreatDoorQPs8
set_option linter.unusedVariables false
set_option linter.unusedSimpArgs false
set_option maxHeartbeats 8000000
set_option maxRecDepth 100000
namespace Go.Proofs.YtggbjdmpjidhgaaGreatDoor
open Go.RowKit
def redOK (G:Gr):Bool:=G.right && (prodN G).getD G.start.toNat false
def RetRed (G:Gr) (w:World) (e:Ending) (w':World):Prop:=Below w.heap.size w w' ∧
 ((redOK G=false∧∃ er:Int,er ≠ 0∧e = .returned (.tuple #[GV noH 0, .slice none 0 0, .int .i64 er])) ∨
  (redOK G=true∧∃ h' Ak nk ck,e = .returned (.tuple #[GV h' (redG G).start, .slice Ak nk ck, .int .i64 0])∧GrAt w' h' (redG G)∧h'.n1≤24∧h'.n2≤16∧h'.n3≤40))
theorem rf_Reduce (h:GH) (G:Gr) (w:World) (hg:GrAt w h G) (h1:h.n1≤100) (h2:h.n2≤100) (h3:h.n3≤100) :
 Calls Tryz.prog 58 #[GV h G.start] w (RetRed G w):=by
 obtain ⟨a1,n1,c1,a2,n2,c2,a3,n3,c3⟩:=h
 have e1:G.terms.length=n1:=hg.terms.len
 have e2:G.nons.length=n2:=hg.nons.len
 have e3:G.rules.length=n3:=hg.rules.len
 have k1:=hg.terms.cap
 have k2:=hg.nons.cap
 have k3:=hg.rules.cap
 simp only [] at h1 h2 h3 k1 k2 k3
 have Hg:=LH hg
 have hB0:=alloc_below w (.cells #[.slice a1 n1 c1, .slice a2 n2 c2, .slice a3 n3 c3, .int .i64 G.start] 26)
 have hbox:=GBox.new w 26 ⟨a1,n1,c1,a2,n2,c2,a3,n3,c3⟩ G.start
 clear hg
 go_enter Tryz.func58,Tryz.ntmps58
 have ⟨z5,z0,z1,z2,z3⟩:=hbox
 simp only [] at z0 z1 z2 z3
 go_upto_region 1 with fail
 have hbZ:=alloc_below (w.alloc (.cells #[.slice a1 n1 c1, .slice a2 n2 c2, .slice a3 n3 c3, .int .i64 G.start] 26)) (.cells #[.slice none 0 0, .slice none 0 0, .slice none 0 0, .int .i64 0] 26)
 have hR0:=Blk.new (w.alloc (.cells #[.slice a1 n1 c1, .slice a2 n2 c2, .slice a3 n3 c3, .int .i64 G.start] 26)) 26 #[.slice none 0 0, .slice none 0 0, .slice none 0 0, .int .i64 0]
 have hB1:=below_tail hB0 hbZ
 have hbx1:=hbox.below hbZ
 have hsz:(w.alloc (.cells #[.slice a1 n1 c1, .slice a2 n2 c2, .slice a3 n3 c3, .int .i64 G.start] 26)).heap.size=w.heap.size+1:=alloc_size _ _
 generalize (w.alloc (.cells #[.slice a1 n1 c1, .slice a2 n2 c2, .slice a3 n3 c3, .int .i64 G.start] 26)).alloc (.cells #[.slice none 0 0, .slice none 0 0, .slice none 0 0, .int .i64 0] 26)=W1 at *
 rw [hsz] at hR0
 clear hsz hbZ hbox hB0 z0 z1 z2 z3 z5
 have hR1:Hid (Blk W1 (w.heap.size+1) 26 #[.slice none 0 0, .slice none 0 0, .slice none 0 0, .int .i64 0]):=LH hR0
 have ⟨y5,y0,y1,y2,y3⟩:=hbx1
 simp only [] at y0 y1 y2 y3
 go_wp2_with fail
 (with_reducible refine (rf_right9 ⟨a1,n1,c1,a2,n2,c2,a3,n3,c3⟩ G W1 (Hg.out.below hB1) (by simp only [];omega) (by simp only [];omega) (by simp only [];omega)).mono ?_)
 rintro e W2 ⟨rfl,hb2⟩
 have hB2:=below_tail hB1 hb2
 have hbx2:=hbx1.below hb2
 have hR2:Blk W2 (w.heap.size+1) 26 #[.slice none 0 0, .slice none 0 0, .slice none 0 0, .int .i64 0]:=Blk.ext hR1.out hb2
 clear hb2 hbx1 hB1 hR0 hR1 y0 y1 y2 y3 y5
 have r0:W2.cell? ⟨w.heap.size+1,0,none⟩=some (.slice none 0 0):=hR2.cell 0
 have r1:W2.cell? ⟨w.heap.size+1,1,none⟩=some (.slice none 0 0):=hR2.cell 1
 have r2:W2.cell? ⟨w.heap.size+1,2,none⟩=some (.slice none 0 0):=hR2.cell 2
 have r3:W2.cell? ⟨w.heap.size+1,3,none⟩=some (.int .i64 0):=hR2.cell 3
 have f0:=hR2.frozen 0
 have f1:=hR2.frozen 1
 have f2:=hR2.frozen 2
 have f3:=hR2.frozen 3
 have HR2:=LH hR2
 have HB2:=LH hB2
 have Hbx2:=LH hbx2
 clear hR2 hB2 hbx2
 rcases hrt:G.right with _ | _
 case false =>
  have Hno:Hid (redOK G=false):=LH (by unfold redOK;rw [hrt];rfl)
  clear hrt
  go_wp2_with fail
  refine bodyPost_ret (results_cell2 (p:=2) (u:=3) (v:=4) (by kernel_rfl) _ _ (w.heap.size+1) 26 #[.slice none 0 0, .slice none 0 0, .slice none 0 0, .int .i64 0] (0,0) _ rfl ((((Blk.set (Blk.set (Blk.set (Blk.set HR2.out 0 (.slice none 0 0)) 1 (.slice none 0 0)) 2 (.slice none 0 0)) 3 (.int .i64 0))))) Tryz.underlying26 rfl (by kernel_rfl)) rfl ?_
  exact ⟨(((HB2.out.trans (grown_is_below (grown_set _ _ _ _) HB2.out.size (Nat.le_succ _))).trans (grown_is_below (grown_set _ _ _ _) (by simpa using HB2.out.size) (Nat.le_succ _))).trans (grown_is_below (grown_set _ _ _ _) (by simpa using HB2.out.size) (Nat.le_succ _))).trans (grown_is_below (grown_set _ _ _ _) (by simpa using HB2.out.size) (Nat.le_succ _)), .inl ⟨Hno.out,1,by decide,rfl⟩⟩
 have hfit:=Gr.fits hrt
 have Hrt:=LH hrt
 have Hfit:=LH hfit
 have hn1:=hfit.n1
 have hn2:=hfit.n2
 have hn3:=hfit.n3
 rw [e1] at hn1
 rw [e2] at hn2
 rw [e3] at hn3
 have ⟨y5,y0,y1,y2,y3⟩:=Hbx2.out
 simp only [] at y0 y1 y2 y3
 have HS:Hid (∀ W',Below W2.heap.size W2 W'→W'.cell? ⟨w.heap.size,0,none⟩=some (.slice a1 n1 c1)∧W'.cell? ⟨w.heap.size,1,none⟩=some (.slice a2 n2 c2)∧W'.cell? ⟨w.heap.size,2,none⟩=some (.slice a3 n3 c3)∧W'.cell? ⟨w.heap.size,3,none⟩=some (.int .i64 G.start)∧Below W2.heap.size W2 W'):=LH fun W' hb=>⟨by rw [hb.cell (by exact y5)];exact y0,by rw [hb.cell (by exact y5)];exact y1,by rw [hb.cell (by exact y5)];exact y2,by rw [hb.cell (by exact y5)];exact y3,hb⟩
 have CP:=LH fun X (hb:Below W2.heap.size W2 X)=>(rf_Productive ⟨a1,n1,c1,a2,n2,c2,a3,n3,c3⟩ G X ((Hg.out.below HB2.out).below hb) (by simp only [];omega) (by simp only [];omega) (by simp only [];omega)).mono fun e w' hh=>And.intro (below_tail hb hh.1) (And.intro (LH hh.1) (hh.2.resolve_left fun hc=>by rw [Hrt.out] at hc;cases hc.1).2)
 have CR:=LH fun X (hb:Below W2.heap.size W2 X)=>(rf_Reachable ⟨a1,n1,c1,a2,n2,c2,a3,n3,c3⟩ G X ((Hg.out.below HB2.out).below hb) (by simp only [];omega) (by simp only [];omega) (by simp only [];omega)).mono fun e w' hh=>And.intro (below_tail hb hh.1) (And.intro (LH hh.1) (hh.2.resolve_left fun hc=>by rw [Hrt.out] at hc;cases hc.1).2)
 clear hrt hfit r0 r1 r2 r3 f0 f1 f2 f3
 go_upto_region 3 with fail
 go_region_held3 (fun W'=>W'.cell? ⟨w.heap.size,0,none⟩=some (.slice a1 n1 c1)∧W'.cell? ⟨w.heap.size,1,none⟩=some (.slice a2 n2 c2)∧W'.cell? ⟨w.heap.size,2,none⟩=some (.slice a3 n3 c3)∧W'.cell? ⟨w.heap.size,3,none⟩=some (.int .i64 G.start)∧Below W2.heap.size W2 W')
  ((refine HS.out _ ?_;(repeat (first | assumption | exact Below.refl _ _ | refine Below.drew ?_));done))
  (first
    | (go_at_call 109;with_reducible refine (CP.out _ (by (repeat (first | assumption | exact Below.refl _ _ | refine Below.drew ?_)))).mono ?_;rintro e w7 ⟨hB7,Hb7,gP,hgP,rfl,HTP⟩)
    | (go_at_call 110;with_reducible refine (CR.out _ (by (repeat (first | assumption | exact Below.refl _ _ | refine Below.drew ?_)))).mono ?_;rintro e w8 ⟨hB8,Hb8,gQ,hgQ,rfl,HTQ⟩))
 rename_i hHeld
 clear hHeld
 have HP8:Hid (BoolT w8 gP (prodN G)):=LH (Blk.hidden HTP Hb8)
 have HQ8:Hid (BoolT w8 gQ (reachN G)):=LH HTQ
 have HB8:=LH (below_tail HB2.out hB8)
 have Hbx8:=LH (Hbx2.out.below hB8)
 have HR8:Hid (Blk w8 (w.heap.size+1) 26 #[.slice none 0 0, .slice none 0 0, .slice none 0 0, .int .i64 0]):=LH (Blk.ext HR2.out hB8)
 clear hB7 Hb7 hgP HTP hB8 Hb8 hgQ HTQ CP CR HS y0 y1 y2 y3 y5 HR2 HB2 Hbx2
 have ⟨y5,y0,y1,y2,y3⟩:=Hbx8.out
 simp only [] at y0 y1 y2 y3
 obtain ⟨st,hst⟩:∃ st:Nat,G.start=(st:Int):=⟨G.start.toNat,by have:=Hfit.out.st;omega⟩
 have hst2:st < n2:=by have:=Hfit.out.st;omega
 have Hst:Hid (G.start.toNat=st):=LH (by omega)
 have c0:=HP8.out.at (i:=st) (by rw [prodN_len,e2];exact hst2)
 have Hps:Hid (redOK G=(prodN G).getD st false):=LH (by unfold redOK;rw [Hrt.out,Hst.out];rfl)
 rw [hst] at y3
 have HstI:=LH hst
 clear hst
 generalize hpv:(prodN G).getD st false=pv at *
 rcases pv with _ | _
 case false =>
  have r0:w8.cell? ⟨w.heap.size+1,0,none⟩=some (.slice none 0 0):=HR8.out.cell 0
  have r1:w8.cell? ⟨w.heap.size+1,1,none⟩=some (.slice none 0 0):=HR8.out.cell 1
  have r2:w8.cell? ⟨w.heap.size+1,2,none⟩=some (.slice none 0 0):=HR8.out.cell 2
  have r3:w8.cell? ⟨w.heap.size+1,3,none⟩=some (.int .i64 0):=HR8.out.cell 3
  have f0:=HR8.out.frozen 0
  have f1:=HR8.out.frozen 1
  have f2:=HR8.out.frozen 2
  have f3:=HR8.out.frozen 3
  clear hpv
  go_wp2_with fail
  refine bodyPost_ret (results_cell2 (p:=2) (u:=3) (v:=4) (by kernel_rfl) _ _ (w.heap.size+1) 26 #[.slice none 0 0, .slice none 0 0, .slice none 0 0, .int .i64 0] (0,0) _ rfl ((((Blk.set (Blk.set (Blk.set (Blk.set HR8.out 0 (.slice none 0 0)) 1 (.slice none 0 0)) 2 (.slice none 0 0)) 3 (.int .i64 0))))) Tryz.underlying26 rfl (by kernel_rfl)) rfl ?_
  exact ⟨(((HB8.out.trans (grown_is_below (grown_set _ _ _ _) HB8.out.size (Nat.le_succ _))).trans (grown_is_below (grown_set _ _ _ _) (by simpa using HB8.out.size) (Nat.le_succ _))).trans (grown_is_below (grown_set _ _ _ _) (by simpa using HB8.out.size) (Nat.le_succ _))).trans (grown_is_below (grown_set _ _ _ _) (by simpa using HB8.out.size) (Nat.le_succ _)), .inl ⟨Hps.out,9,by decide,rfl⟩⟩
 clear hpv
 have HRt:Hid ((Tryz.prog.info? 91).map (fun i=>(i.zero,i.size,i.bytes))=some (some (.agg #[.string ByteArray.empty, .int .i64 0, .int .i64 0]),3,32)):=LH (by kernel_rfl)
 have Hown0:Hid ((w8.alloc (.cells #[] 91)).ownsRow w8.heap.size 91 3 (.slice (some ⟨w8.heap.size,0,none⟩) 0 0) 0 []):=LH (World.ownsRow_made w8 #[] 0 (Nat.le_refl _) (Nat.zero_le _) rfl)
 have HB80:=LH (alloc_below w8 (.cells #[] 91))
 have Htm:=LH (trms_cells ((Hg.out.below HB8.out).below HB80.out).terms)
 have Hlt:Hid ((trmCs G.terms).length=n1 * 3):=LH (by rw [trmCs_len,e1])
 have hs80:(w8.alloc (.cells #[] 91)).heap.size=w8.heap.size+1:=alloc_size _ _
 go_upto_region 6 with fail
 go_upto_region 7 with (at_builtin;refine wpl_appendN rfl _ _ 22 rfl w8.heap.size 91 _ 3 32 Tryz.underlying22 HRt.out (by decide) (by decide) (some ⟨w8.heap.size,0,none⟩) 0 0 [] rfl Hown0.out a1 n1 c1 (trmCs G.terms) Hlt.out rfl Htm.out.1 Htm.out.2 (trmCs_one _) (by omega) (by omega) (by omega) ?_;intro A4 c4 w9 ho hg ha;simp only [Nat.zero_add,List.nil_append] at ho hg ha)
 have hB9:Below w8.heap.size w8 w9:=HB80.out.trans (grown_is_below hg HB80.out.size (Nat.le_refl _))
 have hTm:w9.ownsRow w8.heap.size 91 3 (.slice A4 n1 c4) n1 (trmCs G.terms):=ho
 have hTb:∀ b,(Value.slice A4 n1 c4).ownBlock=some b→b < w9.heap.size:=fun b hb=>(hTm.lt b hb).2
 have hOut:=Blk.new w9 26 #[.slice A4 n1 c4, .slice none 0 0, .slice none 0 0, .int .i64 0]
 have hBo:=alloc_below w9 (.cells #[.slice A4 n1 c4, .slice none 0 0, .slice none 0 0, .int .i64 0] 26)
 have hTm1:=hTm.alloc (.cells #[.slice A4 n1 c4, .slice none 0 0, .slice none 0 0, .int .i64 0] 26)
 have hs9:w8.heap.size≤w9.heap.size:=hB9.size
 have hsO:(w9.alloc (.cells #[.slice A4 n1 c4, .slice none 0 0, .slice none 0 0, .int .i64 0] 26)).heap.size=w9.heap.size+1:=alloc_size _ _
 have hB10:=hB9.trans (hBo.mono hs9)
 generalize w9.alloc (.cells #[.slice A4 n1 c4, .slice none 0 0, .slice none 0 0, .int .i64 0] 26)=W10 at *
 generalize w9.heap.size=gO at *
 clear ho hg ha hTm hBo hB9 Hown0 Htm Hlt HRt HB80 hs80
 have hbx10:=Hbx8.out.below hB10
 have hmk:=make_intsT n2 (by omega)
 clear y0 y1 y2 y3 y5
 have ⟨y5,y0,y1,y2,y3⟩:=hbx10
 simp only [] at y0 y1 y2 y3
 go_upto_region 8 with fail
 have hT0:=Blk.new W10 3 (ints .i64 (List.replicate n2 0)).toArray
 have hBt:=alloc_below W10 (.cells (ints .i64 (List.replicate n2 0)).toArray 3)
 have hOut1:=Blk.ext hOut hBt
 have hTm2:=hTm1.alloc (.cells (ints .i64 (List.replicate n2 0)).toArray 3)
 have hsT:(W10.alloc (.cells (ints .i64 (List.replicate n2 0)).toArray 3)).heap.size=W10.heap.size+1:=alloc_size _ _
 have hB11:=hB10.trans (hBt.mono (by rw [hsO];omega))
 generalize W10.alloc (.cells (ints .i64 (List.replicate n2 0)).toArray 3)=W11 at *
 rw [hsO] at hT0 hsT
 have HB11:=LH hB11
 have HT0:=LH hT0
 have HOut:=LH hOut1
 have HTm:=LH hTm2
 have HTb:=LH hTb
 clear hT0 hBt hOut hOut1 hTm1 hTm2 hB10 hB11 hTb hbx10 hmk y0 y1 y2 y3 y5 hsO
 go_wp2_with fail
 go_loopw [9] (fun i wr=>∃ j:Nat,j≤n2∧i = .int .i64 (j:Int)∧Hid (Blk wr (gO+1) 3 (ints .i64 (fillL n2 j)).toArray)∧Hid (Off (fun k=>k=gO+1) W11 wr)) (fun i _=>n2 - (intOf i).toNat)
 case atStart=>exact ⟨0,Nat.zero_le _,rfl,LH (by rw [fill_start];exact HT0.out),LH (Off.refl _ _)⟩
 case round =>
  obtain ⟨j,hj,rfl,HT,HO⟩:=hrel
  by_cases hjj:j < n2
  case pos =>
   have hc:=HT.out.cell j
   obtain ⟨v,hv⟩:∃ v,(ints .i64 (fillL n2 j)).toArray[j]? = some v:=⟨_,Array.getElem?_eq_getElem (by simp [ints,fill_len hj,hjj])⟩
   rw [hv] at hc
   have hf:=HT.out.frozen j
   have hl:=HT.out.lt
   have Hput:Hid (Blk (wr.setCell ⟨gO+1,j,none⟩ (.int .i64 (-1))) (gO+1) 3 (ints .i64 (fillL n2 (j+1))).toArray):=LH (by
    have:=Blk.set HT.out j (.int .i64 (-1))
    rw [show (ints .i64 (fillL n2 j)).toArray.setIfInBounds j (.int .i64 (-1))=(ints .i64 (fillL n2 (j+1))).toArray by rw [← fill_step hjj];simp [ints,List.map_set]] at this
    exact this)
   clear hv
   go_wp2_with fail
   go_roundw
   case rel=>exact ⟨j+1,by omega,by go_num,Hput,LH (HO.out.trans (Off.of_set wr (gO+1) j (.int .i64 (-1))) fun _ _ h=>h)⟩
   case measure=>simp [intOf];omega
  case neg =>
   as_aux_lemma =>
    obtain rfl:n2=j:=by omega
    obtain ⟨wB,hwB⟩:∃ x,x=wr:=⟨wr,rfl⟩
    subst hwB
    have hsz11:=HO.out.size
    have HtoB:Hid (Blk wB (gO+1) 3 (ints .i64 (toL n2 [])).toArray):=LH (by rw [toL_nil];have:=HT.out;rwa [fill_end] at this)
    have HBB:Hid (Below w8.heap.size w8 wB):=LH (HB11.out.trans (HO.out.is_below (B:=w8.heap.size) HB11.out.size fun k hk=>by omega))
    have HBw:=LH (below_tail HB8.out HBB.out)
    have HOutB:=LH (HO.out.blk HOut.out (by omega))
    have HTmB:=LH (HO.out.row HTm.out fun b hb h=>by have:=HTb.out b hb;omega)
    have hgB:gO+1 < wB.heap.size:=HtoB.out.lt
    clear HT HO HOut HTm HB11 hsz11
    go_wp2_with fail
    go_loopw [10,11] (fun kk i wz=>∃ (q:Nat) (Ak:Option Addr) (ck:Nat) (An:Option Addr) (cn:Nat),q≤n3∧i = .int .i64 (q:Int)∧kk = .slice Ak (ksN G q).length ck∧Hid (Red2 wB gO (gO+1) n2 (.slice A4 n1 c4) G wz Ak ck An cn (ksN G q) (oldOf (keptT G q)))) (fun _ i _=>n3 - (intOf i).toNat)
    case atStart=>exact ⟨0,none,0,none,0,Nat.zero_le _,rfl,rfl,LH ⟨Off.refl _ _,HtoB.out,HOutB.out,World.ownsRow_nil _ _ _ _,World.ownsRow_nil _ _ _ _⟩⟩
    case round =>
     obtain ⟨q,Ak,ck,An,cn,hq,rfl,rfl,HR⟩:=hrel
     have HBz:Hid (Below w8.heap.size w8 wr):=LH (HBB.out.trans (HR.out.off.is_below HBB.out.size fun k hk=>by omega))
     have HBzw:=LH (below_tail HB8.out HBz.out)
     have hbx:=Hbx8.out.below HBz.out
     have ⟨y5,y0,y1,y2,y3⟩:=hbx
     simp only [] at y0 y1 y2 y3
     clear hbx
     by_cases hqq:q < n3
     case pos =>
      as_aux_lemma =>
       obtain ⟨bb,off,r,Ar,cr,rfl,hb0,Hr,q0,q1,q2,hrrw⟩:=Hg.out.rules.get hqq
       rw [← HBzw.out.cell (by exact hb0)] at q0 q1 q2
       have hb:bb < wr.heap.size:=Nat.lt_of_lt_of_le hb0 HBzw.out.size
       have HrrW:=LH hrrw
       have hmem:=List.mem_of_getElem? Hr.out
       obtain ⟨l1,l2⟩:=Hfit.out.left r hmem
       obtain ⟨jl,hjl⟩:∃ jl:Nat,r.left=(jl:Int):=⟨r.left.toNat,by omega⟩
       have hjl2:jl < n2:=by omega
       have Hjl:Hid (r.left.toNat=jl):=LH (by omega)
       have hlen:=Hfit.out.len r hmem
       have hsy:=Hfit.out.symB hmem
       rw [e2] at hsy
       have Hsy:=LH hsy
       rw [hjl] at q0
       have hbA:=alloc_below wr (.cells #[.int .i64 (jl:Int), .slice Ar r.right.length cr, .int .i64 r.prec] 52)
       have hXA:=Blk.new wr 52 #[.int .i64 (jl:Int), .slice Ar r.right.length cr, .int .i64 r.prec]
       have HRA:=LH (HR.out.below hbA)
       have HBA:=LH (HBz.out.trans (hbA.mono HBz.out.size))
       have Hkx:Hid (∀ b,(Value.slice Ak (ksN G q).length ck).ownBlock=some b→b < wr.heap.size):=LH fun b hb=>(HR.out.kept.lt b hb).2
       have hgX:gO+1 < wr.heap.size:=HR.out.tos.lt
       have hw8r:w8.heap.size≤wr.heap.size:=HBz.out.size
       clear hsy l1 l2 hjl hmem hrrw
       go_upto_region 17 with fail
       generalize wr.alloc (.cells #[.int .i64 (jl:Int), .slice Ar r.right.length cr, .int .i64 r.prec] 52)=WA at *
       generalize wr.heap.size=gX at *
       have HXA:=LH hXA
       clear hbA hXA HR HBz HBzw q0 q1 q2 hb y0 y1 y2 y3 y5
       have x0:WA.cell? ⟨gX,0,none⟩=some (.int .i64 (jl:Int)):=HXA.out.cell 0
       have x1:WA.cell? ⟨gX,1,none⟩=some (.slice Ar r.right.length cr):=HXA.out.cell 1
       have HBAw:=LH (below_tail HB8.out HBA.out)
       have lP:Hid ((prodN G).length=n2):=LH (by rw [prodN_len,e2])
       have hPA:BoolT WA gP (prodN G):=Blk.ext HP8.out HBA.out
       have hQA:BoolT WA gQ (reachN G):=Blk.ext HQ8.out HBA.out
       have cQ:=hQA.at (i:=jl) (by rw [reachN_len,e2];exact hjl2)
       have CA:=LH (rf_all Ar r.right.length cr gP n2 r.right (prodN G) true WA (HrrW.out.below HBAw.out) hPA lP.out (by omega) Hsy.out)
       have Hkeep:Hid (keepB (prodN G) (reachN G) r=((reachN G).getD jl false && allP true (prodN G) r.right)):=LH (by unfold keepB;rw [Hjl.out])
       have Hno:Hid (keepB (prodN G) (reachN G) r=false→ksN G (q+1)=ksN G q∧keptT G (q+1)=keptT G q):=LH (ksN_no Hr.out)
       have Hyes:Hid (keepB (prodN G) (reachN G) r=true→ksN G (q+1)=ksN G q++[q]∧keptT G (q+1)=keptT G q++[r]):=LH (ksN_yes Hr.out)
       generalize (reachN G).getD jl false=qv at *
       generalize allP true (prodN G) r.right=av at *
       clear hPA hQA
       rcases qv with _ | _
       · obtain ⟨e4,e5⟩:=Hno.out (by rw [Hkeep.out];rfl)
         have E4:=LH e4
         have E5:=LH e5
         clear e4 e5
         go_wp2_with fail
         go_roundw
         case rel=>exact ⟨q+1,Ak,ck,An,cn,by omega,by go_num,by rw [E4.out],LH (by rw [E4.out,E5.out];exact HRA.out)⟩
         case measure=>simp [intOf];omega
       rcases av with _ | _
       · obtain ⟨e4,e5⟩:=Hno.out (by rw [Hkeep.out];rfl)
         have E4:=LH e4
         have E5:=LH e5
         clear e4 e5
         go_wp2_with (go_at_call 111;(with_reducible refine CA.out.mono ?_);rintro e w' ⟨rfl,rfl⟩)
         go_roundw
         case rel=>exact ⟨q+1,Ak,ck,An,cn,by omega,by go_num,by rw [E4.out],LH (by rw [E4.out,E5.out];exact HRA.out)⟩
         case measure=>simp [intOf];omega
       obtain ⟨e4,e5⟩:=Hyes.out (by rw [Hkeep.out];rfl)
       have E4:=LH e4
       have E6:Hid (oldOf (keptT G (q+1))=putO (oldOf (keptT G q)) jl):=LH (by rw [e5,oldOf_snoc,Hjl.out])
       clear e4 e5 Hno Hyes Hkeep
       have HiI:Hid ((Tryz.prog.info? 3).map (fun i=>(i.zero,i.size,i.bytes))=some (some (.int .i64 0),1,8)):=LH Tryz.infoInt
       have hkl:=ks_len G q
       have hWA:wB.heap.size≤WA.heap.size:=HRA.out.off.size
       have hol:=oldT_len G Hfit.out q
       rw [e2] at hol
       generalize ksN G q=ks at *
       generalize oldOf (keptT G q)=old at *
       by_cases hin:jl ∈ old
       case pos =>
        as_aux_lemma =>
         obtain ⟨kk,hk1,hk2,hk3⟩:∃ k,k < old.length∧old[k]? = some jl∧toI old jl=(k:Int):=by
          obtain ⟨k,hk⟩:∃ k:Nat,toI old jl=(k:Int):=⟨(toI old jl).toNat,by have h1:=toI_lt old jl;have h2:¬ toI old jl < 0:=fun h=>toI_neg.1 h hin;omega⟩
          unfold toI at hk ⊢
          obtain ⟨x,hx,hp,_⟩:=findI_pos hk
          have:x=jl:=by simpa using hp
          subst this
          exact ⟨k,(List.getElem?_eq_some_iff.1 hx).1,hx,hk⟩
         have Hput:Hid (putO old jl=old):=LH (by unfold putO;rw [if_pos hin])
         have Hk3:=LH hk3
         clear hin hk1 hk2 hk3
         go_wp2_with (first
          | (go_at_call 111;(with_reducible refine CA.out.mono ?_);rintro e w' ⟨rfl,rfl⟩)
          | (at_builtin;refine wpl_appendT rfl _ _ 27 rfl wB.heap.size 3 _ 1 8 Tryz.underlying27 HiI.out (by decide) (by decide) Ak ks.length ck (ints .i64 (intsOf ks)) rfl HRA.out.kept [.int .i64 (q:Int)] rfl rfl (by simp [Value.oneCell']) (by omega) (by omega) (by omega) ?_;intro A5 c5 w5 ho hg ha
             have HR5:=LH (HRA.out.put (by omega) (by omega) q A5 c5 ho hg)
             have hX5:=HXA.out.grown hg (by intro e;have:=Hkx.out gX e.symm;omega)
             have x05:w5.cell? ⟨gX,0,none⟩=some (.int .i64 (jl:Int)):=hX5.cell 0
             have xl5:=hX5.lt
             have ct:w5.cell? ⟨gO+1,jl,none⟩=some (.int .i64 (kk:Int)):=by rw [HR5.out.tos.cell jl];simp only [ints,List.getElem?_toArray,List.getElem?_map];rw [toL_get hjl2,Hk3.out];rfl
             have ctl:=HR5.out.tos.lt
             clear ho hg ha hX5))
         go_roundw
         case rel=>exact ⟨q+1,A5,c5,An,cn,by omega,by go_num,by rw [E4.out,List.length_append];rfl,LH (by rw [E4.out,E6.out,Hput.out];exact HR5.out)⟩
         case measure=>simp [intOf];omega
       case neg =>
        as_aux_lemma =>
         have Hput:Hid (putO old jl=old++[jl]):=LH (by unfold putO;rw [if_neg hin])
         have Htn:Hid (toI old jl=-1):=LH (toI_none hin)
         have Hin:=LH hin
         have HiS:Hid ((Tryz.prog.info? 9).map (fun i=>(i.zero,i.size,i.bytes))=some (some (.string ByteArray.empty),1,16)):=LH (by kernel_rfl)
         clear hin
         go_upto_region 21 with (first
          | (go_at_call 111;(with_reducible refine CA.out.mono ?_);rintro e w' ⟨rfl,rfl⟩)
          | (at_builtin;refine wpl_appendT rfl _ _ 27 rfl wB.heap.size 3 _ 1 8 Tryz.underlying27 HiI.out (by decide) (by decide) Ak ks.length ck (ints .i64 (intsOf ks)) rfl HRA.out.kept [.int .i64 (q:Int)] rfl rfl (by simp [Value.oneCell']) (by omega) (by omega) (by omega) ?_;intro A5 c5 w5 ho hg ha
             have HR5:=LH (HRA.out.put (by omega) (by omega) q A5 c5 ho hg)
             have hX5:=HXA.out.grown hg (by intro e;have:=Hkx.out gX e.symm;omega)
             have x05:w5.cell? ⟨gX,0,none⟩=some (.int .i64 (jl:Int)):=hX5.cell 0
             have xl5:=hX5.lt
             have ct:w5.cell? ⟨gO+1,jl,none⟩=some (.int .i64 (-1)):=by rw [HR5.out.tos.cell jl];simp only [ints,List.getElem?_toArray,List.getElem?_map];rw [toL_get hjl2,Htn.out];rfl
             have ctf:=HR5.out.tos.frozen jl
             have ctl:=HR5.out.tos.lt
             have co:w5.cell? ⟨gO,1,none⟩=some (.slice An old.length cn):=HR5.out.out.cell 1
             have HX5:=LH hX5
             clear ho hg ha hX5))
         have hso:=Off.of_set w5 (gO+1) jl (.int .i64 (old.length:Int))
         have HB5:Hid (Below w8.heap.size w8 w5):=LH (HBB.out.trans (HR5.out.off.is_below HBB.out.size fun k hk=>by omega))
         have hBs:Below w8.heap.size w8 (w5.setCell ⟨gO+1,jl,none⟩ (.int .i64 (old.length:Int))):=HB5.out.trans (hso.is_below HB5.out.size fun k hk=>by omega)
         have hbs:=Hbx8.out.below hBs
         have hOs:=hso.blk HR5.out.out (by omega)
         have hXs:=hso.blk HX5.out (by omega)
         have hNs:=hso.row HR5.out.nons fun b hb h=>by have:=(HR5.out.nons.lt b hb).1;omega
         obtain ⟨nb,no,nm,rfl,hnb,Hnm,cnm⟩:=((Hg.out.below HB8.out).below hBs).nons.get hjl2
         have hnm:nm=nameO G jl:=by unfold nameO;rw [Hnm.out];rfl
         have Hrs:=LH fun w6 A6 c6 ho hg=>Red2.name HR5.out (by omega) (by omega) (by omega) Hin.out (l:=jl) (w1:=w6) A6 c6 ho hg
         have hws:wB.heap.size≤w5.heap.size:=HR5.out.off.size
         have hws2:w5.heap.size≤(w5.setCell ⟨gO+1,jl,none⟩ (.int .i64 (old.length:Int))).heap.size:=hso.size
         generalize w5.setCell ⟨gO+1,jl,none⟩ (.int .i64 (old.length:Int))=ws at *
         have ⟨y5,y0,y1,y2,y3⟩:=hbs
         simp only [] at y0 y1 y2 y3
         have x0:ws.cell? ⟨gX,0,none⟩=some (.int .i64 (jl:Int)):=hXs.cell 0
         have xls:=hXs.lt
         have co:ws.cell? ⟨gO,1,none⟩=some (.slice (An) old.length cn):=hOs.cell 1
         have col:=hOs.lt
         have hBA:Below ws.heap.size ws (ws.drew.alloc (.cells #[.string nm] 9)):=(Below.refl ws.heap.size ws).drew.alloc (Nat.le_refl _) _
         have HoA:Hid ((ws.drew.alloc (.cells #[.string nm] 9)).ownsRow wB.heap.size 9 1 (.slice An old.length cn) old.length (old.map fun i=>Value.string (nameO G i))):=LH (own_keepB hNs hBA)
         have HOA:=LH (Blk.ext hOs hBA)
         have HBA':=LH hBA
         have hle:wB.heap.size≤(ws.drew.alloc (.cells #[.string nm] 9)).heap.size:=by have:=hBA.size;omega
         have Hnm2:=LH hnm
         clear hso hBs hbs hOs hXs hNs hnm hBA
         go_region_law (first
          | (refine step_appendM rfl _ _ 23 rfl wB.heap.size 9 _ 1 16 Tryz.underlying23 HiS.out (by decide) (by decide) An old.length cn (old.map fun i=>Value.string (nameO G i)) (by simp [Act.eval,Act.put]) (by exact HoA.out) ⟨ws.heap.size,0,none⟩ 1 1 [.string nm] rfl (by simp [Act.eval,Act.put]) (by exact laid_cells ws.drew [.string nm] _) (by simp [Value.oneCell']) (by omega) (by omega) (by exact hle) ?_;intro A6 c6 w6 ho hgr ha
             have b6:=HOA.out.grown hgr (by intro e;have:=(HoA.out.lt gO e.symm).1;omega)
             have i1:w6.cell? ⟨gO,1,none⟩=some (.slice An old.length cn):=b6.cell 1
             have i2:=b6.frozen 1
             have HF:=LH (Hrs.out w6 A6 c6 (by rw [← Hnm2.out];exact ho) (grown_trans (grown_below _ HBA'.out) hgr))
             clear b6 ho hgr ha))
         all_goals
          go_wp2_with fail
          go_roundw
          case rel=>exact ⟨q+1,A5,c5,A6,c6,by omega,by go_num,by rw [E4.out,List.length_append];rfl,LH (by rw [E4.out,E6.out,Hput.out];exact HF.out)⟩
          case measure=>simp [intOf];omega
     case neg =>
      as_aux_lemma =>
       obtain rfl:n3=q:=by omega
       obtain ⟨wC,hwC⟩:∃ x,x=wr:=⟨wr,rfl⟩
       subst hwC
       have Hold:Hid (oldOf (keptT G n3)=oldN G):=LH (by rw [← e3,keptT_all];rfl)
       have hks:=ks_rules G n3 (by omega)
       have hkT:keptT G n3=keptR G:=by rw [← e3,keptT_all]
       rw [hkT] at hks
       have hklt:∀ i,i ∈ ksN G n3→i < n3:=fun i hi=>ks_lt hi
       have hkln:=ks_len G n3
       rw [Hold.out] at HR
       have hml:(oldN G).length≤n2:=by have:=old_len Hfit.out;omega
       generalize ksN G n3=ks at *
       have HTo:=LH HR.out.tos
       have HKp:=LH HR.out.kept
       have HNn:=LH HR.out.nons
       have HTmC:=LH (HR.out.off.row HTmB.out fun b hb h=>by have:=HTb.out b hb;omega)
       have hR3:Hid (Red3 wC gO (.slice A4 n1 c4) (.slice An (oldN G).length cn) wC none 0 []):=LH ⟨Off.refl _ _,HR.out.out,[],World.ownsRow_nil _ _ _ _,RulCs.nil _ _⟩
       have hgC:gO+1 < wC.heap.size:=HR.out.tos.lt
       have hwBC:wB.heap.size≤wC.heap.size:=HR.out.off.size
       have HBC:=HBz
       have Hks:=LH hks
       have Hklt:=LH hklt
       generalize hnk:ks.length=nk at *
       have Hnk:=LH hnk
       have Hstold:Hid (st ∈ oldN G):=LH (by have:=prod_start Hfit.out (by rw [Hst.out];have:=Hps.out;unfold redOK at this;rw [Bool.and_eq_true,Hst.out] at this;exact this.2);rwa [Hst.out] at this)
       have hw8C:w8.heap.size≤wC.heap.size:=HBC.out.size
       clear HR hks hkT hklt HBz HBzw hnk HtoB HBB HBw HOutB HTmB hqq hq
       have HRn:Hid ((keptR G).length=nk):=LH Hks.out.1.symm
       clear y0 y1 y2 y3 y5
       have hbxC:=Hbx8.out.below HBC.out
       have ⟨y5,y0,y1,y2,y3⟩:=hbxC
       simp only [] at y0 y1 y2 y3
       clear hbxC
       go_wp2_with fail
       clear y0 y1 y2 y3 y5
       go_loopw [13] (fun i wz=>∃ (q:Nat) (A3:Option Addr) (c3':Nat),q≤nk∧i = .int .i64 (q:Int)∧Hid (Red3 wC gO (.slice A4 n1 c4) (.slice An (oldN G).length cn) wz A3 c3' (((keptR G).take q).map (redR (oldN G))))) (fun i _=>nk - (intOf i).toNat)
       case atStart=>exact ⟨0,none,0,Nat.zero_le _,rfl,LH (by simpa using hR3.out)⟩
       case round =>
        obtain ⟨q,A3,c3',hq,rfl,HR⟩:=hrel
        have HBz:Hid (Below w8.heap.size w8 wr):=LH (HBC.out.trans (HR.out.off.is_below HBC.out.size fun k hk=>by omega))
        have HBzw:=LH (below_tail HB8.out HBz.out)
        have hbx:=Hbx8.out.below HBz.out
        have hwCr:wC.heap.size≤wr.heap.size:=HR.out.off.size
        have hrl:(((keptR G).take q).map (redR (oldN G))).length=q:=by rw [List.length_map,List.length_take,HRn.out];omega
        have ⟨y5,y0,y1,y2,y3⟩:=hbx
        simp only [] at y0 y1 y2 y3
        clear hbx
        by_cases hqq:q < nk
        case pos =>
         as_aux_lemma =>
          obtain ⟨i,hi⟩:∃ i,ks[q]? = some i:=⟨_,List.getElem?_eq_getElem (by rw [Hnk.out];exact hqq)⟩
          have hilt:=Hklt.out i (List.mem_of_getElem? hi)
          obtain ⟨r,hri,hrk⟩:=Hks.out.2 q i hi
          have hKr:wr.ownsRow wB.heap.size 3 1 (.slice Ak nk ck) nk (ints .i64 (intsOf ks)):=HR.out.off.row HKp.out fun b hb h=>by have:=(HKp.out.lt b hb).1;omega
          have hKi:Ints .i64 wr Ak nk ck (intsOf ks):=own_sl hKr
          obtain ⟨kb,ko,kv,rfl,hkb,Hkv,ckv⟩:=hKi.get hqq
          obtain rfl:(i:Int)=kv:=by have h:=Hkv.out;rw [show (intsOf ks)[q]? = some (i:Int) by unfold intsOf;rw [List.getElem?_map,hi];rfl] at h;exact Option.some.inj h
          obtain ⟨bb,off,r',Ar,cr,rfl,hb0,Hr,q0,q1,q2,hrrw⟩:=Hg.out.rules.get hilt
          obtain rfl:r=r':=by have h:=Hr.out;rw [hri] at h;exact Option.some.inj h
          rw [← HBzw.out.cell (by exact hb0)] at q0 q1 q2
          have hb:bb < wr.heap.size:=Nat.lt_of_lt_of_le hb0 HBzw.out.size
          have HrrW:=LH hrrw
          have hmem:=List.mem_of_getElem? hri
          have Hmk:Hid (r ∈ keptR G):=LH (List.mem_of_getElem? hrk)
          obtain ⟨l1,l2⟩:=Hfit.out.left r hmem
          obtain ⟨jl,hjl⟩:∃ jl:Nat,r.left=(jl:Int):=⟨r.left.toNat,by omega⟩
          have hjl2:jl < n2:=by omega
          have Hjl:Hid (r.left.toNat=jl):=LH (by omega)
          have hlen:=Hfit.out.len r hmem
          have hsy:=Hfit.out.symB hmem
          rw [e2] at hsy
          have Hsy:=LH hsy
          rw [hjl] at q0
          have Hrk:=LH hrk
          clear hsy l1 l2 hjl hmem hrrw hrk hri hi hKr hKi
          go_upto_region 25 with fail
          have hbA:=alloc_below wr (.cells #[.int .i64 (jl:Int), .slice Ar r.right.length cr, .int .i64 r.prec] 52)
          have hXA:=Blk.new wr 52 #[.int .i64 (jl:Int), .slice Ar r.right.length cr, .int .i64 r.prec]
          have hsA:(wr.alloc (.cells #[.int .i64 (jl:Int), .slice Ar r.right.length cr, .int .i64 r.prec] 52)).heap.size=wr.heap.size+1:=alloc_size _ _
          go_region
          replace hbA:=hbA.drew
          replace hXA:=Blk.drew hXA
          replace hsA:(wr.alloc (.cells #[.int .i64 (jl:Int), .slice Ar r.right.length cr, .int .i64 r.prec] 52)).drew.heap.size=wr.heap.size+1:=hsA
          generalize (wr.alloc (.cells #[.int .i64 (jl:Int), .slice Ar r.right.length cr, .int .i64 r.prec] 52)).drew=WA at *
          have hTA:Blk WA (gO+1) 3 (ints .i64 (toL n2 (oldN G))).toArray:=Blk.ext (HR.out.off.blk HTo.out (by omega)) hbA
          have x0:WA.cell? ⟨wr.heap.size,0,none⟩=some (.int .i64 (jl:Int)):=hXA.cell 0
          have x2:WA.cell? ⟨wr.heap.size,2,none⟩=some (.int .i64 r.prec):=hXA.cell 2
          have ct:WA.cell? ⟨gO+1,jl,none⟩=some (.int .i64 (toI (oldN G) jl)):=by rw [hTA.cell jl];simp only [ints,List.getElem?_toArray,List.getElem?_map];rw [toL_get hjl2];rfl
          have ctl:=hTA.lt
          have xl0:=hXA.lt
          have HsA:=LH hsA
          clear hsA
          have Htl:Hid ((redR (oldN G) r).left=toI (oldN G) jl):=LH (by show toI (oldN G) r.left.toNat=_;rw [Hjl.out])
          generalize toI (oldN G) jl=tl at *
          clear y0 y1 y2 y3 y5 q0 q1 q2 ckv hb
          go_upto_region 26 with fail
          have hbD:=alloc_below WA (.cells #[.int .i64 tl, .slice none 0 0, .int .i64 r.prec] 52)
          have hYD:=Blk.new WA 52 #[.int .i64 tl, .slice none 0 0, .int .i64 r.prec]
          have hsD:(WA.alloc (.cells #[.int .i64 tl, .slice none 0 0, .int .i64 r.prec] 52)).heap.size=WA.heap.size+1:=alloc_size _ _
          go_region
          replace hbD:=hbD.drew
          replace hYD:=Blk.drew hYD
          replace hsD:(WA.alloc (.cells #[.int .i64 tl, .slice none 0 0, .int .i64 r.prec] 52)).drew.heap.size=WA.heap.size+1:=hsD
          generalize (WA.alloc (.cells #[.int .i64 tl, .slice none 0 0, .int .i64 r.prec] 52)).drew=WD at *
          have HXD:=LH (Blk.ext hXA hbD)
          have HTD:=LH (Blk.ext hTA hbD)
          have HYD:=LH hYD
          have HBrD:=LH (below_tail hbA hbD)
          have HBD:=LH (HBz.out.trans (HBrD.out.mono HBz.out.size))
          have H3l:Hid (∀ b,(Value.slice A3 (((keptR G).take q).map (redR (oldN G))).length c3').ownBlock=some b→wC.heap.size≤b∧b < wr.heap.size):=LH fun b hb=>by obtain ⟨cs,h3,_⟩:=HR.out.rules;exact h3.lt b hb
          generalize hWA:WA.heap.size=gY at *
          generalize hgX:wr.heap.size=gX at *
          have hsA:=HsA.out
          obtain rfl:gY=gX+1:=hsA
          have hw0:wr.heap.size≤WD.heap.size:=by omega
          have HBrD':Hid (Below wr.heap.size wr WD):=LH (by rw [hgX];exact HBrD.out)
          obtain ⟨wE,hwE⟩:∃ x,x=wr:=⟨wr,rfl⟩
          subst hwE
          have HgX:=LH hgX
          have HiI:Hid ((Tryz.prog.info? 3).map (fun i=>(i.zero,i.size,i.bytes))=some (some (.int .i64 0),1,8)):=LH Tryz.infoInt
          have HiR:Hid ((Tryz.prog.info? 52).map (fun i=>(i.zero,i.size,i.bytes))=some (some (.agg #[.int .i64 0, .slice none 0 0, .int .i64 0]),3,40)):=LH (by kernel_rfl)
          have hw8D:w8.heap.size≤gX:=by have:=HBz.out.size;omega
          have hCX:wC.heap.size≤gX:=by omega
          clear hbA hXA hTA x0 x2 ct ctl xl0 hbD hYD HBrD hWA hgX
          have hcapr:=HrrW.out.cap
          go_wp2_with fail
          go_loopw [16] (fun i wz=>∃ (kk:Nat) (Ax:Option Addr) (cx:Nat),kk≤r.right.length∧i = .int .i64 (kk:Int)∧Hid (Off (fun k=>k=gX+1) WD wz)∧Hid (Blk wz (gX+1) 52 #[.int .i64 tl, .slice Ax kk cx, .int .i64 r.prec])∧Hid (wz.ownsRow WD.heap.size 3 1 (.slice Ax kk cx) kk (ints .i64 ((r.right.take kk).map (redS (oldN G)))))) (fun i _=>r.right.length - (intOf i).toNat)
          case atStart=>exact ⟨0,none,0,Nat.zero_le _,rfl,LH (Off.refl _ _),HYD,LH (World.ownsRow_nil _ _ _ _)⟩
          case round =>
           obtain ⟨kk,Ax,cx,hkk,rfl,HO4,HY,Ho⟩:=hrel
           generalize hgY:gX+1=gY at *
           have hXz:=HO4.out.blk HXD.out (by omega)
           have x1:wr.cell? ⟨gX,1,none⟩=some (.slice Ar r.right.length cr):=hXz.cell 1
           have xl:=hXz.lt
           have yz0:wr.cell? ⟨gY,0,none⟩=some (.int .i64 tl):=HY.out.cell 0
           have yz1:wr.cell? ⟨gY,1,none⟩=some (.slice Ax kk cx):=HY.out.cell 1
           have yz2:wr.cell? ⟨gY,2,none⟩=some (.int .i64 r.prec):=HY.out.cell 2
           have yzl:=HY.out.lt
           have HBz4:Hid (Below w8.heap.size w8 wr):=LH (HBD.out.trans (HO4.out.is_below (by omega) fun k hk=>by omega))
           have HBw4:=LH (below_tail HB8.out HBz4.out)
           have hwDr:WD.heap.size≤wr.heap.size:=HO4.out.size
           clear hXz
           by_cases hkl:kk < r.right.length
           case pos =>
            obtain ⟨sb,so,sv,rfl,hsb,Hs,qs⟩:=(HrrW.out.below HBw4.out).get hkl
            have hs1:=Hsy.out sv (List.mem_of_getElem? Hs.out)
            have Hnx0:Hid (ints .i64 ((r.right.take (kk+1)).map (redS (oldN G)))=ints .i64 ((r.right.take kk).map (redS (oldN G)))++[.int .i64 (redS (oldN G) sv)]):=LH (by rw [take_snoc' Hs.out];simp [ints])
            by_cases h0:0≤sv
            · as_aux_lemma =>
               have hrs:redS (oldN G) sv=sv:=by unfold redS;rw [if_neg (by omega)]
               have Hnx:=Hnx0
               rw [hrs] at Hnx
               have hn0:¬ (sv < 0):=by omega
               clear hrs Hnx0
               go_wp2_with (first
                | (at_builtin;refine wpl_appendT rfl _ _ 27 rfl WD.heap.size 3 _ 1 8 Tryz.underlying27 HiI.out (by decide) (by decide) Ax kk cx (ints .i64 ((r.right.take kk).map (redS (oldN G)))) rfl Ho.out [.int .i64 sv] rfl rfl (by simp [Value.oneCell']) (by omega) (by omega) (by omega) ?_;intro A5 c5 w5 ho hg ha
                   have b5:=HY.out.grown hg (by intro e;have:=(Ho.out.lt gY e.symm).1;omega)
                   have i1:w5.cell? ⟨gY,1,none⟩=some (.slice Ax kk cx):=b5.cell 1
                   have i2:=b5.frozen 1
                   have b5l:=b5.lt
                   have Hb5:=LH b5
                   have Hho:=LH ho
                   have Hhg:=LH hg
                   clear b5 ho hg ha))
               go_roundw
               case rel =>
                refine ⟨kk+1,A5,c5,by omega,by go_num,LH (((HO4.out.trans (Off.of_grown Hhg.out) fun k hk h=>?_).trans (Off.of_set _ _ _ _) fun k _ h=>h)),LH (Blk.set Hb5.out 1 _),LH ?_⟩
                · have:=(Ho.out.lt k h).1;omega
                · rw [Hnx.out]
                  exact (Off.of_set _ _ _ _).row Hho.out fun b hb h=>by have:=(Hho.out.lt b hb).1;omega
               case measure=>simp [intOf];omega
            · as_aux_lemma =>
               obtain ⟨jp,hjp,hnj,hw⟩:=non_place (s:=sv) (n:=n2) (by omega) hs1.1 (by omega)
               have hTz:=HO4.out.blk HTD.out (by omega)
               have ct:wr.cell? ⟨gO+1,jp,none⟩=some (.int .i64 (toI (oldN G) jp)):=by rw [hTz.cell jp];simp only [ints,List.getElem?_toArray,List.getElem?_map];rw [toL_get hjp];rfl
               have ctl:=hTz.lt
               have htb:=toI_lt (oldN G) jp
               have hrs:redS (oldN G) sv=-1 - toI (oldN G) jp:=by unfold redS;rw [if_pos (by omega),hnj]
               have hw2:IntKind.i64.wrap (-1 - toI (oldN G) jp)=-1 - toI (oldN G) jp:=IntWalk.i64_in _ (by omega)
               have Hnx:=Hnx0
               rw [hrs] at Hnx
               have hn0:sv < 0:=by omega
               generalize toI (oldN G) jp=tj at *
               clear hrs hTz Hnx0 hnj
               go_wp2_with (first
                | (at_builtin;refine wpl_appendT rfl _ _ 27 rfl WD.heap.size 3 _ 1 8 Tryz.underlying27 HiI.out (by decide) (by decide) Ax kk cx (ints .i64 ((r.right.take kk).map (redS (oldN G)))) rfl Ho.out [.int .i64 (-1 - tj)] rfl rfl (by simp [Value.oneCell']) (by omega) (by omega) (by omega) ?_;intro A5 c5 w5 ho hg ha
                   have b5:=HY.out.grown hg (by intro e;have:=(Ho.out.lt gY e.symm).1;omega)
                   have i1:w5.cell? ⟨gY,1,none⟩=some (.slice Ax kk cx):=b5.cell 1
                   have i2:=b5.frozen 1
                   have b5l:=b5.lt
                   have Hb5:=LH b5
                   have Hho:=LH ho
                   have Hhg:=LH hg
                   clear b5 ho hg ha))
               go_roundw
               case rel =>
                refine ⟨kk+1,A5,c5,by omega,by go_num,LH (((HO4.out.trans (Off.of_grown Hhg.out) fun k hk h=>?_).trans (Off.of_set _ _ _ _) fun k _ h=>h)),LH (Blk.set Hb5.out 1 _),LH ?_⟩
                · have:=(Ho.out.lt k h).1;omega
                · rw [Hnx.out]
                  exact (Off.of_set _ _ _ _).row Hho.out fun b hb h=>by have:=(Hho.out.lt b hb).1;omega
               case measure=>simp [intOf];omega
           case neg =>
            as_aux_lemma =>
             obtain rfl:r.right.length=kk:=by omega
             have hBEz:Below wE.heap.size wE wr:=HBrD'.out.trans (HO4.out.is_below hw0 fun k hk=>by have:=HgX.out;omega)
             have HRz:=LH (HR.out.below hBEz)
             obtain ⟨cs,h3,hcs⟩:=HRz.out.rules
             have H3:=LH h3
             have co:wr.cell? ⟨gO,2,none⟩=some (.slice A3 (((keptR G).take q).map (redR (oldN G))).length c3'):=HRz.out.out.cell 2
             have col:=HRz.out.out.lt
             have HOz:=LH HRz.out.out
             have Hq1:Hid (((keptR G).take (q+1)).map (redR (oldN G))=((keptR G).take q).map (redR (oldN G))++[redR (oldN G) r]):=LH (by rw [take_snoc' Hrk.out,List.map_append];rfl)
             have hI:Ints .i64 wr Ax r.right.length cx (r.right.map (redS (oldN G))):=by have:=own_sl Ho.out;rwa [List.take_of_length_le (Nat.le_refl _)] at this
             have Hput:=LH fun w7 A7 c7 ho hg hb=>Red3.put HRz.out (by omega) (redR (oldN G) r) (Ar:=Ax) (cr:=cx) (by show Ints .i64 wr Ax (r.right.map (redS (oldN G))).length cx (r.right.map (redS (oldN G)));rw [List.length_map];exact hI)
              (fun b off hb=>by have h1:=Ho.out.lt b (by rw [hb];rfl);refine ⟨h1.2,by omega,fun h=>?_⟩;have:=(H3l.out b h).2;have:=HgX.out;omega) (w1:=w7) A7 c7 ho hg hb
             generalize ((keptR G).take q).map (redR (oldN G))=rs at *
             have hwCz:wC.heap.size≤wr.heap.size:=by omega
             have hrl2:rs.length < 60:=by omega
             clear hrl
             clear h3 hcs hBEz hI
             go_wp2_with (first
              | (at_builtin;refine wpl_appendT rfl _ _ 24 rfl wC.heap.size 52 _ 3 40 Tryz.underlying24 HiR.out (by decide) (by decide) A3 rs.length c3' cs rfl H3.out [.int .i64 tl, .slice Ax r.right.length cx, .int .i64 r.prec] rfl rfl (by simp [Value.oneCell']) (by omega) (by omega) (by omega) ?_;intro A7 c7 w7 ho hg ha
                 have b7:=HOz.out.grown hg (by intro e;have:=(H3.out.lt gO e.symm).1;omega)
                 have i1:w7.cell? ⟨gO,2,none⟩=some (.slice A3 rs.length c3'):=b7.cell 2
                 have i2:=b7.frozen 2
                 have b7l:=b7.lt
                 have HF:=LH (Hput.out w7 A7 c7 (fun cs' h1=>by rw [own_unique h1 H3.out];show w7.ownsRow _ _ _ _ _ (cs++[.int .i64 (redR (oldN G) r).left, .slice Ax (r.right.map (redS (oldN G))).length cx, .int .i64 r.prec]);rw [Htl.out,List.length_map];exact ho) hg ha)
                 clear b7 ho hg ha))
             go_roundw
             case rel=>exact ⟨q+1,A7,c7,by omega,by go_num,LH (by rw [Hq1.out];exact HF.out)⟩
             case measure=>simp [intOf];omega
        case neg =>
         as_aux_lemma =>
          obtain rfl:nk=q:=by omega
          have hall:((keptR G).take nk).map (redR (oldN G))=(keptR G).map (redR (oldN G)):=by rw [List.take_of_length_le (by rw [HRn.out];exact Nat.le_refl _)]
          rw [hall] at HR hrl
          have hTz:=HR.out.off.blk HTo.out (by omega)
          have ct:wr.cell? ⟨gO+1,st,none⟩=some (.int .i64 (toI (oldN G) st)):=by rw [hTz.cell st];simp only [ints,List.getElem?_toArray,List.getElem?_map];rw [toL_get hst2];rfl
          have ctl:=hTz.lt
          have o0:wr.cell? ⟨gO,0,none⟩=some (.slice A4 n1 c4):=HR.out.out.cell 0
          have o1:wr.cell? ⟨gO,1,none⟩=some (.slice An (oldN G).length cn):=HR.out.out.cell 1
          have o2:wr.cell? ⟨gO,2,none⟩=some (.slice A3 nk c3'):=by have:=HR.out.out.cell 2;rw [hrl] at this;exact this
          have o3:wr.cell? ⟨gO,3,none⟩=some (.int .i64 0):=HR.out.out.cell 3
          have of3:=HR.out.out.frozen 3
          have ol:=HR.out.out.lt
          have hRw:Blk wr (w.heap.size+1) 26 #[.slice none 0 0, .slice none 0 0, .slice none 0 0, .int .i64 0]:=Blk.ext HR8.out HBz.out
          have r0:wr.cell? ⟨w.heap.size+1,0,none⟩=some (.slice none 0 0):=hRw.cell 0
          have r1:wr.cell? ⟨w.heap.size+1,1,none⟩=some (.slice none 0 0):=hRw.cell 1
          have r2:wr.cell? ⟨w.heap.size+1,2,none⟩=some (.slice none 0 0):=hRw.cell 2
          have r3:wr.cell? ⟨w.heap.size+1,3,none⟩=some (.int .i64 0):=hRw.cell 3
          have f0:=hRw.frozen 0
          have f1:=hRw.frozen 1
          have f2:=hRw.frozen 2
          have f3:=hRw.frozen 3
          have hRl:=hRw.lt
          have hR8l:=HR8.out.lt
          have hRO:w.heap.size+1 ≠ gO:=by omega
          have hst3:y3=y3:=rfl
          clear hst3
          rw [HstI.out] at y3
          have Hred:Hid ((redG G).start=toI (oldN G) st):=LH (by show toI (oldN G) G.start.toNat=_;rw [Hst.out])
          have hok:redOK G=true:=Hps.out
          have hH:=Gr.fits (red_right Hrt.out (by have:=hok;unfold redOK at this;rw [Bool.and_eq_true] at this;exact this.2))
          have Hok:=LH hok
          have HHf:=LH hH
          have hTm3:=HR.out.off.row HTmC.out fun b hb h=>by have:=HTb.out b hb;omega
          have hNn3:=HR.out.off.row HNn.out fun b hb h=>by have:=(HNn.out.lt b hb).1;omega
          have hgr:∀ wF,Off (fun k=>k=gO∨k=w.heap.size+1) wr wF→GrAt wF ⟨A4,n1,c4,An,(oldN G).length,cn,A3,nk,c3'⟩ (redG G):=fun wF hof=>by
           obtain ⟨cs,h3,hcs⟩:=HR.out.rules
           refine ⟨own_trms (hof.row hTm3 fun b hb h=>by have h1:=HTb.out b hb;have h2:=(hTm3.lt b hb).1;omega),?_,?_,fun r hr s hs=>?_⟩
           · have:=own_sl (hof.row hNn3 fun b hb h=>by have h1:=(hNn3.lt b hb).1;omega)
             rw [show ((oldN G).map fun i=>Value.string (nameO G i))=((oldN G).map (nameO G)).map Value.string by rw [List.map_map];rfl] at this
             exact this
           · have:=own_ruls (hof.row h3 fun b hb h=>by have h1:=(h3.lt b hb).1;omega) (hcs.keep hof.size fun k hk ha=>⟨hof.keep k hk fun h=>by have h1:=ha.1;omega,ha⟩)
             rw [hrl] at this
             exact this
           · have h1:=hH.sym r hr s hs
             have h2:=hH.n2
             have h3:=hH.n1
             unfold InI64
             omega
          have Hgr:=LH hgr
          generalize toI (oldN G) st=ts at *
          clear hall hTz hTm3 hNn3 hgr hok hH
          go_wp2_with fail
          have hOf:=Off.of_set wr gO 3 (.int .i64 ts)
          have s0:=Off.of_set (wr.setCell ⟨gO,3,none⟩ (.int .i64 ts)) (w.heap.size+1) 0 (.slice A4 n1 c4)
          have s1:=s0.trans (Off.of_set _ (w.heap.size+1) 1 (.slice An (oldN G).length cn)) fun _ _ h=>h
          have s2:=s1.trans (Off.of_set _ (w.heap.size+1) 2 (.slice A3 nk c3')) fun _ _ h=>h
          have s3:=s2.trans (Off.of_set _ (w.heap.size+1) 3 (.int .i64 ts)) fun _ _ h=>h
          have hB1:Below w.heap.size w (wr.setCell ⟨gO,3,none⟩ (.int .i64 ts)):=HBzw.out.trans (hOf.is_below HBzw.out.size fun k hk=>by omega)
          have hRo:Blk (wr.setCell ⟨gO,3,none⟩ (.int .i64 ts)) (w.heap.size+1) 26 #[.slice none 0 0, .slice none 0 0, .slice none 0 0, .int .i64 0]:=hOf.blk (Blk.ext HR8.out HBz.out) hRO
          refine bodyPost_ret (results_cell2 (p:=2) (u:=3) (v:=4) (by kernel_rfl) _ _ (w.heap.size+1) 26 #[.slice A4 n1 c4, .slice An (oldN G).length cn, .slice A3 nk c3', .int .i64 ts] (0,0) _ rfl (Blk.set (Blk.set (Blk.set (Blk.set hRo 0 (.slice A4 n1 c4)) 1 (.slice An (oldN G).length cn)) 2 (.slice A3 nk c3')) 3 (.int .i64 ts)) Tryz.underlying26 rfl (by kernel_rfl)) rfl ?_
          refine ⟨hB1.trans (s3.is_below hB1.size fun k hk=>by omega), .inr ⟨Hok.out,⟨A4,n1,c4,An,(oldN G).length,cn,A3,nk,c3'⟩,Ak,nk,ck,?_,?_,hn1,by simp only [];omega,by simp only [];omega⟩⟩
          · rw [Hred.out];rfl
          · exact Hgr.out _ ((offX hOf s3))
end Go.Proofs.YtggbjdmpjidhgaaGreatDoor
