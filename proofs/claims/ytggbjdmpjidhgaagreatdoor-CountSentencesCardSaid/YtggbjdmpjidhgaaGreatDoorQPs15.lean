/- the reference's reading: a grammar is built; a text's grammar. -/
import Derived.Test.YtggbjdmpjidhgaaGreatDoorQPs14
set_option linter.unusedVariables false
set_option linter.unusedSimpArgs false
set_option maxHeartbeats 8000000
set_option maxRecDepth 100000
namespace Go.Proofs.YtggbjdmpjidhgaaGreatDoor
open Go.RowKit
def noH:GH:=⟨none,0,0,none,0,0,none,0,0⟩
theorem Wk.fresh (w:World):Wk (w.alloc (.cells (wkCells noH) 193)) w.heap.size (w.alloc (.cells (wkCells noH) 193)).heap.size noH ⟨[],[],[],0⟩ :=
 ⟨Blk.new _ _ _,World.ownsRow_nil _ _ _ _,World.ownsRow_nil _ _ _ _,⟨[],World.ownsRow_nil _ _ _ _,RulCs.nil _ _⟩,(fun b hb _=>by cases hb),(fun b hb _=>by cases hb),(fun b hb _=>by cases hb),rfl,(fun r hr=>by cases hr),Nat.zero_le _,Nat.zero_le _,Nat.zero_le _⟩
def GrFrom (w w':World) (h:GH) (G:Gr):Prop:=∀ w2:World,w'.heap.size≤w2.heap.size→(∀ b,b < w'.heap.size→w.heap.size≤b→w2.heap[b]? = w'.heap[b]?)→GrAt w2 h G
theorem prodsP_step {G G':Gr} {l:List Prd} {k:Nat} {q:Prd} (h:prodsP G (l.drop k)=some G') (hq:l[k]? = some q):∃ G2,prodP G q=some G2∧prodsP G2 (l.drop (k+1))=some G':=by
 rw [drop_get hq] at h
 unfold prodsP at h
 split at h
 · cases h
 · rename_i G2 h2
   exact ⟨G2,h2,h⟩
theorem buildP_ways {ps:List Prd} {G:Gr} (h:buildP ps=some G):0 < ps.length∧∃ ns,leftsP [] ps=some ns∧prodsP ⟨[],ns,[],0⟩ ps=some G:=by
 unfold buildP at h
 split at h
 · cases h
 · rename_i hne
   split at h
   · cases h
   · rename_i ns hl
     refine ⟨?_,ns,hl,h⟩
     cases ps with
     | nil=>exact absurd rfl hne
     | cons p ps=>simp
theorem rf_Build (A:Option Addr) (n c:Nat) (ps:List Prd) (G:Gr) (w:World) (hP:Prds w A n c ps) (hn:n≤4000) (hr:∀ q ∈ ps,q.right.length≤4000) (hB:buildP ps=some G) :
 Calls Tryz.prog 84 #[.agg #[.slice none 0 0, .slice A n c]] w fun e w'=>∃ h,e = .returned (.tuple #[GV h 0, .complex .f64 0 0, .int .i64 0])∧GrFrom w w' h G∧G.start=0∧h.n1≤24∧h.n2≤16∧h.n3≤40∧Below w.heap.size w w':=by
 obtain ⟨hpos,ns,hl,hps⟩:=buildP_ways hB
 have hln:=hP.1
 have hcap:=hP.2.1
 have hcap2:=hP.2.2.1
 rw [hln] at hpos
 have ksc:∀ (w:World) (a:Addr) (k:FloatKind) (x y:Nat) (m:Mode),(store a (.complex k x y) m).run Tryz.prog w=stored Tryz.prog w a (.complex k x y) m:=fun w a k x y m=>run_store Tryz.prog w a _ m rfl
 have HP:=LH hP
 have Hr:=LH hr
 have Hl:=LH hl
 have Hps:=LH hps
 have hbS:=Blk.new w 130 #[.slice none 0 0, .slice A n c]
 have hB1:=alloc_below w (.cells #[.slice none 0 0, .slice A n c] 130)
 have hbG:=Blk.new (w.alloc (.cells #[.slice none 0 0, .slice A n c] 130)) 26 #[.slice none 0 0, .slice none 0 0, .slice none 0 0, .int .i64 0]
 have hB2:=below_alloc hB1 (.cells #[.slice none 0 0, .slice none 0 0, .slice none 0 0, .int .i64 0] 26)
 have hbS2:=hbS.ext (alloc_below _ (.cells #[.slice none 0 0, .slice none 0 0, .slice none 0 0, .int .i64 0] 26))
 have hs1:=alloc_size w (.cells #[.slice none 0 0, .slice A n c] 130)
 rw [hs1] at hbG
 have hs2:=alloc_size (w.alloc (.cells #[.slice none 0 0, .slice A n c] 130)) (.cells #[.slice none 0 0, .slice none 0 0, .slice none 0 0, .int .i64 0] 26)
 rw [hs1] at hs2
 clear hr hP hB hl hps hbS hB1 hs1 hln
 go_enter Tryz.func84,Tryz.ntmps84
 go_wp2_with fail
 have hbG2:=hbG
 have hkf:=Wk.fresh ((w.alloc (.cells #[.slice none 0 0, .slice A n c] 130)).alloc (.cells #[.slice none 0 0, .slice none 0 0, .slice none 0 0, .int .i64 0] 26))
 have hB3:=below_alloc hB2 (.cells (wkCells noH) 193)
 have hbS3:=hbS2.ext (alloc_below _ (.cells (wkCells noH) 193))
 have hbG3:=hbG2.ext (alloc_below _ (.cells (wkCells noH) 193))
 rw [hs2] at hkf
 change Calls _ _ _ (World.alloc _ (.cells (wkCells noH) 193)) _
 generalize ((w.alloc (.cells #[.slice none 0 0, .slice A n c] 130)).alloc (.cells #[.slice none 0 0, .slice none 0 0, .slice none 0 0, .int .i64 0] 26)).alloc (.cells (wkCells noH) 193)=W1 at *
 generalize hgg:w.heap.size+1=gG at *
 generalize hpp:gG+1=p at *
 have hgl:w.heap.size < gG:=by omega
 have hpl:gG < p:=by omega
 clear hbS2 hbG hbG2 hB2 hs2 hgg hpp
 (with_reducible refine (wk_decls p noH _ W1 hkf).mono ?_)
 rintro e w1 ⟨rfl,rfl⟩
 have k0:W1.cell? ⟨w.heap.size,0,none⟩=some (.slice none 0 0):=hbS3.cell 0
 have k1:W1.cell? ⟨w.heap.size,1,none⟩=some (.slice A n c):=hbS3.cell 1
 have CL:=LH (wk_lefts p noH ⟨[],[],[],0⟩ ns A n c ps W1 hkf (fun w' hb=>HP.out.below (hB3.trans (hb.mono (by omega)))) hn rfl Hl.out)
 have Hkf:=LH hkf
 have HbS3:=LH hbS3
 have HbG3:=LH hbG3
 have HB3:=LH hB3
 clear hkf hbS3 hbG3 hB3
 go_wp2_with fail
 (with_reducible refine CL.out.mono ?_)
 rintro e w2 ⟨rfl,h2,hk2,hT2⟩
 have Hk2:=LH (hk2.mono (Nat.le_of_eq rfl))
 have HT2:=LH hT2
 have hk2s:=hk2.mono hT2.size
 have Hk2:=LH hk2s
 clear hk2 hT2 k0 k1 hk2s
 go_wp2_with fail
 go_loopw [6] (fun v wr=>∃ (j:Nat) (h':GH) (G2:Gr),v = .int .i64 (j:Int)∧j≤n∧Hid (Wk wr p wr.heap.size h' G2)∧Hid (prodsP G2 (ps.drop j)=some G)∧Hid (Turn W1 wr p noH h')) (fun v _=>n - (intOf v).toNat)
 case atStart=>exact ⟨0,h2,_,rfl,Nat.zero_le _,Hk2,Hps,HT2⟩
 case round =>
  obtain ⟨j,h',G2,rfl,hj,Hkr,Hpr,HT⟩:=hrel
  have hBp:=HT.out.below Hkf.out
  have hBw:Below w.heap.size w wr:=HB3.out.trans (hBp.mono (by omega))
  have hbSr:Blk wr w.heap.size 130 #[.slice none 0 0, .slice A n c]:=HbS3.out.below hBp (by omega)
  have hbGr:Blk wr gG 26 #[.slice none 0 0, .slice none 0 0, .slice none 0 0, .int .i64 0]:=HbG3.out.below hBp (by omega)
  have k0:wr.cell? ⟨w.heap.size,0,none⟩=some (.slice none 0 0):=hbSr.cell 0
  have k1:wr.cell? ⟨w.heap.size,1,none⟩=some (.slice A n c):=hbSr.cell 1
  obtain ⟨hpp,z0,z1,z2,z3,z7,z10,_,_,_⟩:=Hkr.out.cells
  have HBw:=LH hBw
  by_cases hjn:j < n
  case pos =>
   obtain ⟨b,off,q,Ar,cr,x,y,x',y',rfl,hb,Hq,q0,q1,q2,q3,q4,hrfs⟩:=HP.out.get hjn
   obtain ⟨G3,hpd,hnx⟩:=prodsP_step Hpr.out Hq.out
   rw [← hBw.cell (p:=⟨b,off+j * 5,none⟩) hb] at q0
   rw [← hBw.cell (p:=⟨b,off+j * 5+1,none⟩) hb] at q1
   rw [← hBw.cell (p:=⟨b,off+j * 5+2,none⟩) hb] at q2
   rw [← hBw.cell (p:=⟨b,off+j * 5+3,none⟩) hb] at q3
   rw [← hBw.cell (p:=⟨b,off+j * 5+4,none⟩) hb] at q4
   have hrl:q.right.length≤4000:=Hr.out q (List.mem_of_getElem? Hq.out)
   have CP:=LH (wk_prod p h' G2 G3 q Ar cr x y x' y' wr Hkr.out (Nat.le_refl _) (fun w' hw=>hrfs.below (HBw.out.trans (hw.mono (by omega)))) hrl hpd)
   have Hnx:=LH hnx
   clear hpd hnx hrfs hrl hbSr hbGr hBp hBw
   go_wp2_with fail
   (with_reducible refine CP.out.mono ?_)
   rintro e w5 ⟨rfl,h5,hk5,hT5⟩
   have Hk5:=LH hk5
   have HT5:=LH (HT.out.trans hT5)
   clear hk5 hT5
   go_wp2_with fail
   go_roundw
   case rel=>exact ⟨j+1,h5,G3,by go_num,by omega,Hk5,Hnx,HT5⟩
   case measure=>simp [intOf];omega
  case neg =>
   have v0:=hbGr.frozen 0
   have v1:=hbGr.frozen 1
   have v2:=hbGr.frozen 2
   have v3:=hbGr.frozen 3
   have i0:wr.cell? ⟨gG,0,none⟩=some (.slice none 0 0):=hbGr.cell 0
   have i1:wr.cell? ⟨gG,1,none⟩=some (.slice none 0 0):=hbGr.cell 1
   have i2:wr.cell? ⟨gG,2,none⟩=some (.slice none 0 0):=hbGr.cell 2
   have i3:wr.cell? ⟨gG,3,none⟩=some (.int .i64 0):=hbGr.cell 3
   have HbGr:=LH hbGr
   clear hbSr hbGr hBp hBw
   go_wp2_with fail
   go_quiet (fail)
   go_wp2_with fail
   have hbd:Blk (wr.drewN nq) gG 26 #[.slice none 0 0, .slice none 0 0, .slice none 0 0, .int .i64 0]:=HbGr.out
   have hF:Blk (((((wr.drewN nq).setCell ⟨gG,0,none⟩ (.slice h'.a1 h'.n1 h'.c1)).setCell ⟨gG,1,none⟩ (.slice h'.a2 h'.n2 h'.c2)).setCell ⟨gG,2,none⟩ (.slice h'.a3 h'.n3 h'.c3)).setCell ⟨gG,3,none⟩ (.int .i64 0)) gG 26 #[.slice h'.a1 h'.n1 h'.c1, .slice h'.a2 h'.n2 h'.c2, .slice h'.a3 h'.n3 h'.c3, .int .i64 0] :=
    (((hbd.set 0 (.slice h'.a1 h'.n1 h'.c1)).set 1 (.slice h'.a2 h'.n2 h'.c2)).set 2 (.slice h'.a3 h'.n3 h'.c3)).set 3 (.int .i64 0)
   have hgF:(wr.drewN nq).grownBy (((((wr.drewN nq).setCell ⟨gG,0,none⟩ (.slice h'.a1 h'.n1 h'.c1)).setCell ⟨gG,1,none⟩ (.slice h'.a2 h'.n2 h'.c2)).setCell ⟨gG,2,none⟩ (.slice h'.a3 h'.n3 h'.c3)).setCell ⟨gG,3,none⟩ (.int .i64 0)) (some gG) :=
    grown_trans (grown_trans (grown_trans (grown_set _ _ _ _) (grown_set _ _ _ _)) (grown_set _ _ _ _)) (grown_set _ _ _ _)
   have hGG:G=G2:=by
    have:=Hpr.out
    rw [List.drop_eq_nil_of_le (by rw [HP.out.1];omega)] at this
    unfold prodsP at this
    injection this with this
    exact this.symm
   refine bodyPost_ret (results_cell2 (p:=2) (u:=3) (v:=4) (by kernel_rfl) _ _ gG 26 #[.slice h'.a1 h'.n1 h'.c1, .slice h'.a2 h'.n2 h'.c2, .slice h'.a3 h'.n3 h'.c3, .int .i64 0] (0,0) _ rfl hF Tryz.underlying26 rfl (by kernel_rfl)) rfl ?_
   have hsF:wr.heap.size≤_:=hgF.size
   refine ⟨h',rfl,fun w2 hs hk=>?_,by rw [hGG];exact Hkr.out.st,Hkr.out.b1,Hkr.out.b2,Hkr.out.b3,below_set (below_set (below_set (below_set (below_drewN HBw.out nq) _ _ _ (by omega)) _ _ _ (by omega)) _ _ _ (by omega)) _ _ _ (by omega)⟩
   rw [hGG]
   exact Hkr.out.grAt_ahead (Nat.le_trans hsF hs) fun b hb hpb=>(hk b (Nat.lt_of_lt_of_le hb hsF) (by omega)).trans (hgF.block b hb (by intro e;injection e with e;omega))
theorem rf_Read (A:Option Addr) (n c:Nat) (xs:List Nat) (G:Gr) (w:World) (h:Nums .u8 w A n c xs) (hb:∀ x ∈ xs,x < 256) (hn:n≤4000) (ts:List TokP) (hts:toksP xs (xs.length+1) 0=some ts) (hc:cuts ts < 2) (hl:ts.length≤4000)
 (ps:List Prd) (hs:srcP (ts.length+1) (ts.map tkOf)=some ps) (hpl:ps.length≤4000) (hr:∀ q ∈ ps,q.right.length≤4000) (hB:buildP ps=some G) :
 Calls Tryz.prog 41 #[.slice A n c] w fun e w'=>∃ h,e = .returned (.tuple #[GV h G.start, .complex .f64 0 0, .int .i64 0])∧GrAt w' h G∧h.n1≤24∧h.n2≤16∧h.n3≤40∧G.start=0∧Below w.heap.size w w':=by
 have hB0:=alloc_below w (.cells #[.slice none 0 0, .slice none 0 0, .slice none 0 0, .int .i64 0] 26)
 have hb0:=Blk.new w 26 #[.slice none 0 0, .slice none 0 0, .slice none 0 0, .int .i64 0]
 have CP:=LH (rf_Parse A n c (xs.length+1) (ts.length+1) xs _ (h.below hB0) hb hn ts hts hc hl ps hs)
 have ksc:∀ (w:World) (a:Addr) (k:FloatKind) (x y:Nat) (m:Mode),(store a (.complex k x y) m).run Tryz.prog w=stored Tryz.prog w a (.complex k x y) m:=fun w a k x y m=>run_store Tryz.prog w a _ m rfl
 have CB:=LH fun (W:World) (A':Option Addr) (c':Nat) (hP:Prds W A' ps.length c' ps)=>rf_Build A' ps.length c' ps G W hP hpl hr hB
 clear h hb hts hc hs hr hB
 go_enter Tryz.func41,Tryz.ntmps41
 go_wp2_with fail
 generalize w.alloc (.cells #[.slice none 0 0, .slice none 0 0, .slice none 0 0, .int .i64 0] 26)=W0 at *
 (with_reducible refine CP.out.mono ?_)
 rintro e w1 ⟨A1,c1,cs,rfl,hO,hP,hB1⟩
 have hb1:=hb0.ext hB1
 have hB2:=below_tail hB0 hB1
 have hpr:=(own_prds hO hP).below (alloc_below w1 (.cells #[.slice none 0 0, .slice A1 ps.length c1] 130))
 have hb2:=hb1.ext (alloc_below w1 (.cells #[.slice none 0 0, .slice A1 ps.length c1] 130))
 have HB2:=LH (below_alloc hB2 (.cells #[.slice none 0 0, .slice A1 ps.length c1] 130))
 clear hB1 hB2 hb1 hO hP hB0 hb0
 go_wp2_with fail
 have CB2:=LH (CB.out _ A1 c1 hpr)
 generalize w1.alloc (.cells #[.slice none 0 0, .slice A1 ps.length c1] 130)=W2 at *
 (with_reducible refine CB2.out.mono ?_)
 rintro e w3 ⟨h,rfl,hF,hst,b1,b2,b3,hB3⟩
 have hb3:=hb2.ext hB3
 have v0:=hb3.frozen 0
 have v1:=hb3.frozen 1
 have v2:=hb3.frozen 2
 have v3:=hb3.frozen 3
 have i0:w3.cell? ⟨w.heap.size,0,none⟩=some (.slice none 0 0):=hb3.cell 0
 have i1:w3.cell? ⟨w.heap.size,1,none⟩=some (.slice none 0 0):=hb3.cell 1
 have i2:w3.cell? ⟨w.heap.size,2,none⟩=some (.slice none 0 0):=hb3.cell 2
 have i3:w3.cell? ⟨w.heap.size,3,none⟩=some (.int .i64 0):=hb3.cell 3
 have HB3:=LH (below_tail HB2.out hB3)
 have hlt2:w.heap.size < W2.heap.size:=hb2.lt
 have Hst:=LH hst
 clear hst hB3
 go_wp2_with fail
 have hFb:Blk ((((w3.setCell ⟨w.heap.size,0,none⟩ (.slice h.a1 h.n1 h.c1)).setCell ⟨w.heap.size,1,none⟩ (.slice h.a2 h.n2 h.c2)).setCell ⟨w.heap.size,2,none⟩ (.slice h.a3 h.n3 h.c3)).setCell ⟨w.heap.size,3,none⟩ (.int .i64 0)) w.heap.size 26 #[.slice h.a1 h.n1 h.c1, .slice h.a2 h.n2 h.c2, .slice h.a3 h.n3 h.c3, .int .i64 0] :=
  (((hb3.set 0 (.slice h.a1 h.n1 h.c1)).set 1 (.slice h.a2 h.n2 h.c2)).set 2 (.slice h.a3 h.n3 h.c3)).set 3 (.int .i64 0)
 have hgF:w3.grownBy ((((w3.setCell ⟨w.heap.size,0,none⟩ (.slice h.a1 h.n1 h.c1)).setCell ⟨w.heap.size,1,none⟩ (.slice h.a2 h.n2 h.c2)).setCell ⟨w.heap.size,2,none⟩ (.slice h.a3 h.n3 h.c3)).setCell ⟨w.heap.size,3,none⟩ (.int .i64 0)) (some w.heap.size) :=
  grown_trans (grown_trans (grown_trans (grown_set _ _ _ _) (grown_set _ _ _ _)) (grown_set _ _ _ _)) (grown_set _ _ _ _)
 refine bodyPost_ret (results_cell2 (p:=2) (u:=3) (v:=4) (by kernel_rfl) _ _ w.heap.size 26 #[.slice h.a1 h.n1 h.c1, .slice h.a2 h.n2 h.c2, .slice h.a3 h.n3 h.c3, .int .i64 0] (0,0) _ rfl hFb Tryz.underlying26 rfl (by kernel_rfl)) rfl ?_
 refine ⟨h,by rw [Hst.out];rfl,hF _ hgF.size fun b hb hlo=>hgF.block b hb (by intro e;injection e with e;omega),b1,b2,b3,Hst.out,below_set (below_set (below_set (below_set HB3.out _ _ _ (Nat.le_refl _)) _ _ _ (Nat.le_refl _)) _ _ _ (Nat.le_refl _)) _ _ _ (Nat.le_refl _)⟩
end Go.Proofs.YtggbjdmpjidhgaaGreatDoor
