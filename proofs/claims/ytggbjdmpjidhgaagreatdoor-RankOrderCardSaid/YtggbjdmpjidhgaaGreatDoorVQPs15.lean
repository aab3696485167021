/- the reference's reading: a grammar is built; a text's grammar. -/
import Derived.Test.YtggbjdmpjidhgaaGreatDoorVQPs14
set_option linter.unusedVariables false
set_option linter.unusedSimpArgs false
set_option maxHeartbeats 8000000
set_option maxRecDepth 100000
namespace Go.Proofs.YtggbjdmpjidhgaaGreatDoor
open Go.RowKit
def noH:GH:=⟨none,0,0,none,0,0,none,0,0⟩
theorem Wk.fresh (w:World):Wk (w.alloc (.cells (wkCells noH) 193)) w.heap.size (w.alloc (.cells (wkCells noH) 193)).heap.size noH ⟨[],[],[],0⟩ :=
 ⟨Blk.new _ _ _,World.ownsRow_nil _ _ _ _,World.ownsRow_nil _ _ _ _,⟨[],World.ownsRow_nil _ _ _ _,RulCs.nil _ _⟩,(fun b a _=>by cases a),(fun b a _=>by cases a),(fun b a _=>by cases a),rfl,(fun r c=>by cases c),Nat.zero_le _,Nat.zero_le _,Nat.zero_le _⟩
def GrFrom (w w':World) (h:GH) (G:Gr):Prop:=∀ a:World,w'.heap.size≤a.heap.size→(∀ b,b < w'.heap.size→w.heap.size≤b→a.heap[b]? = w'.heap[b]?)→GrAt a h G
theorem prodsP_step {G b:Gr} {l:List Prd} {k:Nat} {q:Prd} (h:prodsP G (l.drop k)=some b) (d:l[k]? = some q):∃ a,prodP G q=some a∧prodsP a (l.drop (k+1))=some b:=by
 rw [drop_get d] at h
 unfold prodsP at h
 split at h
 · cases h
 · rename_i a c
   exact ⟨a,c,h⟩
theorem buildP_ways {ps:List Prd} {G:Gr} (h:buildP ps=some G):0 < ps.length∧∃ ns,leftsP [] ps=some ns∧prodsP ⟨[],ns,[],0⟩ ps=some G:=by
 unfold buildP at h
 split at h
 · cases h
 · rename_i b
   split at h
   · cases h
   · rename_i ns a
     refine ⟨?_,ns,a,h⟩
     cases ps with
     | nil=>exact absurd rfl b
     | cons p ps=>simp
theorem rf_Build (A:Option Addr) (n c:Nat) (ps:List Prd) (G:Gr) (w:World) (B:Prds w A n c ps) (hn:n≤4000) (hr:∀ q ∈ ps,q.right.length≤4000) (W:buildP ps=some G) :
 Calls Tryz.prog 84 #[.agg #[.slice none 0 0, .slice A n c]] w fun e w'=>∃ h,e = .returned (.tuple #[GV h 0, .complex .f64 0 0, .int .i64 0])∧GrFrom w w' h G∧G.start=0∧h.n1≤24∧h.n2≤16∧h.n3≤40∧Below w.heap.size w w':=by
 obtain ⟨bm,ns,hl,ao⟩:=buildP_ways W
 have ak:=B.1
 have bx:=B.2.1
 have bz:=B.2.2.1
 rw [ak] at bm
 have cb:∀ (w:World) (a:Addr) (k:FloatKind) (x y:Nat) (m:Mode),(store a (.complex k x y) m).run Tryz.prog w=stored Tryz.prog w a (.complex k x y) m:=fun w a k x y m=>run_store Tryz.prog w a _ m rfl
 have H:=LH B
 have Hr:=LH hr
 have Hl:=LH hl
 have bc:=LH ao
 have ae:=Blk.new w 130 #[.slice none 0 0, .slice A n c]
 have X:=alloc_below w (.cells #[.slice none 0 0, .slice A n c] 130)
 have L:=Blk.new (w.alloc (.cells #[.slice none 0 0, .slice A n c] 130)) 26 #[.slice none 0 0, .slice none 0 0, .slice none 0 0, .int .i64 0]
 have Y:=below_alloc X (.cells #[.slice none 0 0, .slice none 0 0, .slice none 0 0, .int .i64 0] 26)
 have af:=ae.ext (alloc_below _ (.cells #[.slice none 0 0, .slice none 0 0, .slice none 0 0, .int .i64 0] 26))
 have N:=alloc_size w (.cells #[.slice none 0 0, .slice A n c] 130)
 rw [N] at L
 have O:=alloc_size (w.alloc (.cells #[.slice none 0 0, .slice A n c] 130)) (.cells #[.slice none 0 0, .slice none 0 0, .slice none 0 0, .int .i64 0] 26)
 rw [N] at O
 clear hr B W hl ao ae X N ak
 go_enter Tryz.func84,Tryz.ntmps84
 go_wp2_with fail
 have ab:=L
 have C:=Wk.fresh ((w.alloc (.cells #[.slice none 0 0, .slice A n c] 130)).alloc (.cells #[.slice none 0 0, .slice none 0 0, .slice none 0 0, .int .i64 0] 26))
 have I:=below_alloc Y (.cells (wkCells noH) 193)
 have E:=af.ext (alloc_below _ (.cells (wkCells noH) 193))
 have ad:=ab.ext (alloc_below _ (.cells (wkCells noH) 193))
 rw [O] at C
 change Calls _ _ _ (World.alloc _ (.cells (wkCells noH) 193)) _
 generalize ((w.alloc (.cells #[.slice none 0 0, .slice A n c] 130)).alloc (.cells #[.slice none 0 0, .slice none 0 0, .slice none 0 0, .int .i64 0] 26)).alloc (.cells (wkCells noH) 193)=t at *
 generalize bi:w.heap.size+1=f at *
 generalize an:f+1=p at *
 have b0:w.heap.size < f:=by omega
 have b6:f < p:=by omega
 clear af L ab Y O bi an
 (with_reducible refine (wk_decls p noH _ t C).mono ?_)
 rintro e w1 ⟨rfl,rfl⟩
 have k0:t.cell? ⟨w.heap.size,0,none⟩=some (.slice none 0 0):=E.cell 0
 have k1:t.cell? ⟨w.heap.size,1,none⟩=some (.slice A n c):=E.cell 1
 have CL:=LH (wk_lefts p noH ⟨[],[],[],0⟩ ns A n c ps t C (fun w' l=>H.out.below (I.trans (l.mono (by omega)))) hn rfl Hl.out)
 have a9:=LH C
 have a7:=LH E
 have a5:=LH ad
 have az:=LH I
 clear C E ad I
 go_wp2_with fail
 (with_reducible refine CL.out.mono ?_)
 rintro e w2 ⟨rfl,h2,M,J⟩
 have T:=LH (M.mono (Nat.le_of_eq rfl))
 have a0:=LH J
 have ah:=M.mono J.size
 have T:=LH ah
 clear M J k0 k1 ah
 go_wp2_with fail
 go_loopw [6] (fun v wr=>∃ (j:Nat) (d:GH) (s:Gr),v = .int .i64 (j:Int)∧j≤n∧Hid (Wk wr p wr.heap.size d s)∧Hid (prodsP s (ps.drop j)=some G)∧Hid (Turn t wr p noH d)) (fun v _=>n - (intOf v).toNat)
 case atStart=>exact ⟨0,h2,_,rfl,Nat.zero_le _,T,bc,a0⟩
 case round =>
  obtain ⟨j,d,s,rfl,hj,r,U,S⟩:=hrel
  have z:=S.out.below a9.out
  have o:Below w.heap.size w wr:=az.out.trans (z.mono (by omega))
  have F:Blk wr w.heap.size 130 #[.slice none 0 0, .slice A n c]:=a7.out.below z (by omega)
  have g:Blk wr f 26 #[.slice none 0 0, .slice none 0 0, .slice none 0 0, .int .i64 0]:=a5.out.below z (by omega)
  have k0:wr.cell? ⟨w.heap.size,0,none⟩=some (.slice none 0 0):=F.cell 0
  have k1:wr.cell? ⟨w.heap.size,1,none⟩=some (.slice A n c):=F.cell 1
  obtain ⟨an,z0,z1,z2,z3,z7,cj,_,_,_⟩:=r.out.cells
  have R:=LH o
  by_cases bj:j < n
  case pos =>
   obtain ⟨b,D,q,Ar,cr,x,y,x',y',rfl,l,V,q0,q1,q2,q3,q4,aq⟩:=H.out.get bj
   obtain ⟨P,am,al⟩:=prodsP_step U.out V.out
   rw [← o.cell (p:=⟨b,D+j * 5,none⟩) l] at q0
   rw [← o.cell (p:=⟨b,D+j * 5+1,none⟩) l] at q1
   rw [← o.cell (p:=⟨b,D+j * 5+2,none⟩) l] at q2
   rw [← o.cell (p:=⟨b,D+j * 5+3,none⟩) l] at q3
   rw [← o.cell (p:=⟨b,D+j * 5+4,none⟩) l] at q4
   have ar:q.right.length≤4000:=Hr.out q (List.mem_of_getElem? V.out)
   have CP:=LH (wk_prod p d s P q Ar cr x y x' y' wr r.out (Nat.le_refl _) (fun w' hw=>aq.below (R.out.trans (hw.mono (by omega)))) ar am)
   have bb:=LH al
   clear am al aq ar F g z o
   go_wp2_with fail
   (with_reducible refine CP.out.mono ?_)
   rintro e w5 ⟨rfl,h5,ai,aa⟩
   have a8:=LH ai
   have a4:=LH (S.out.trans aa)
   clear ai aa
   go_wp2_with fail
   go_roundw
   case rel=>exact ⟨j+1,h5,P,by go_num,by omega,a8,bb,a4⟩
   case measure=>simp [intOf];omega
  case neg =>
   have v0:=g.frozen 0
   have v1:=g.frozen 1
   have v2:=g.frozen 2
   have v3:=g.frozen 3
   have i0:wr.cell? ⟨f,0,none⟩=some (.slice none 0 0):=g.cell 0
   have i1:wr.cell? ⟨f,1,none⟩=some (.slice none 0 0):=g.cell 1
   have i2:wr.cell? ⟨f,2,none⟩=some (.slice none 0 0):=g.cell 2
   have i3:wr.cell? ⟨f,3,none⟩=some (.int .i64 0):=g.cell 3
   have a6:=LH g
   clear F g z o
   go_wp2_with fail
   go_quiet (fail)
   go_wp2_with fail
   have bh:Blk (wr.drewN nq) f 26 #[.slice none 0 0, .slice none 0 0, .slice none 0 0, .int .i64 0]:=a6.out
   have hF:Blk (((((wr.drewN nq).setCell ⟨f,0,none⟩ (.slice d.a1 d.n1 d.c1)).setCell ⟨f,1,none⟩ (.slice d.a2 d.n2 d.c2)).setCell ⟨f,2,none⟩ (.slice d.a3 d.n3 d.c3)).setCell ⟨f,3,none⟩ (.int .i64 0)) f 26 #[.slice d.a1 d.n1 d.c1, .slice d.a2 d.n2 d.c2, .slice d.a3 d.n3 d.c3, .int .i64 0] :=
    (((bh.set 0 (.slice d.a1 d.n1 d.c1)).set 1 (.slice d.a2 d.n2 d.c2)).set 2 (.slice d.a3 d.n3 d.c3)).set 3 (.int .i64 0)
   have ag:(wr.drewN nq).grownBy (((((wr.drewN nq).setCell ⟨f,0,none⟩ (.slice d.a1 d.n1 d.c1)).setCell ⟨f,1,none⟩ (.slice d.a2 d.n2 d.c2)).setCell ⟨f,2,none⟩ (.slice d.a3 d.n3 d.c3)).setCell ⟨f,3,none⟩ (.int .i64 0)) (some f) :=
    grown_trans (grown_trans (grown_trans (grown_set _ _ _ _) (grown_set _ _ _ _)) (grown_set _ _ _ _)) (grown_set _ _ _ _)
   have Z:G=s:=by
    have:=U.out
    rw [List.drop_eq_nil_of_le (by rw [H.out.1];omega)] at this
    unfold prodsP at this
    injection this with this
    exact this.symm
   refine bodyPost_ret (results_cell2 (p:=2) (u:=3) (v:=4) (by kernel_rfl) _ _ f 26 #[.slice d.a1 d.n1 d.c1, .slice d.a2 d.n2 d.c2, .slice d.a3 d.n3 d.c3, .int .i64 0] (0,0) _ rfl hF Tryz.underlying26 rfl (by kernel_rfl)) rfl ?_
   have au:wr.heap.size≤_:=ag.size
   refine ⟨d,rfl,fun w2 hs hk=>?_,by rw [Z];exact r.out.st,r.out.b1,r.out.b2,r.out.b3,below_set (below_set (below_set (below_set (below_drewN R.out nq) _ _ _ (by omega)) _ _ _ (by omega)) _ _ _ (by omega)) _ _ _ (by omega)⟩
   rw [Z]
   exact r.out.grAt_ahead (Nat.le_trans au hs) fun b l b5=>(hk b (Nat.lt_of_lt_of_le l au) (by omega)).trans (ag.block b l (by intro e;injection e with e;omega))
theorem rf_Read (A:Option Addr) (n c:Nat) (xs:List Nat) (G:Gr) (w:World) (h:Nums .u8 w A n c xs) (l:∀ x ∈ xs,x < 256) (hn:n≤4000) (ts:List TokP) (P:toksP xs (xs.length+1) 0=some ts) (J:cuts ts < 2) (hl:ts.length≤4000)
 (ps:List Prd) (N:srcP (ts.length+1) (ts.map tkOf)=some ps) (ag:ps.length≤4000) (M:∀ q ∈ ps,q.right.length≤4000) (C:buildP ps=some G) :
 Calls Tryz.prog 41 #[.slice A n c] w fun e w'=>∃ h,e = .returned (.tuple #[GV h G.start, .complex .f64 0 0, .int .i64 0])∧GrAt w' h G∧h.n1≤24∧h.n2≤16∧h.n3≤40∧G.start=0∧Below w.heap.size w w':=by
 have o:=alloc_below w (.cells #[.slice none 0 0, .slice none 0 0, .slice none 0 0, .int .i64 0] 26)
 have F:=Blk.new w 26 #[.slice none 0 0, .slice none 0 0, .slice none 0 0, .int .i64 0]
 have T:=LH (rf_Parse A n c (xs.length+1) (ts.length+1) xs _ (h.below o) l hn ts P J hl ps N)
 have ap:∀ (w:World) (a:Addr) (k:FloatKind) (x y:Nat) (m:Mode),(store a (.complex k x y) m).run Tryz.prog w=stored Tryz.prog w a (.complex k x y) m:=fun w a k x y m=>run_store Tryz.prog w a _ m rfl
 have R:=LH fun (W:World) (t:Option Addr) (B:Nat) (j:Prds W t ps.length B ps)=>rf_Build t ps.length B ps G W j ag M C
 clear h l P J N M C
 go_enter Tryz.func41,Tryz.ntmps41
 go_wp2_with fail
 generalize w.alloc (.cells #[.slice none 0 0, .slice none 0 0, .slice none 0 0, .int .i64 0] 26)=W0 at *
 (with_reducible refine T.out.mono ?_)
 rintro e w1 ⟨g,c1,cs,rfl,E,j,r⟩
 have H:=F.ext r
 have D:=below_tail o r
 have ah:=(own_prds E j).below (alloc_below w1 (.cells #[.slice none 0 0, .slice g ps.length c1] 130))
 have I:=H.ext (alloc_below w1 (.cells #[.slice none 0 0, .slice g ps.length c1] 130))
 have U:=LH (below_alloc D (.cells #[.slice none 0 0, .slice g ps.length c1] 130))
 clear r D H E j o F
 go_wp2_with fail
 have S:=LH (R.out _ g c1 ah)
 generalize w1.alloc (.cells #[.slice none 0 0, .slice g ps.length c1] 130)=X at *
 (with_reducible refine S.out.mono ?_)
 rintro e f ⟨h,rfl,hF,O,Y,Z,b3,s⟩
 have d:=I.ext s
 have v0:=d.frozen 0
 have v1:=d.frozen 1
 have v2:=d.frozen 2
 have v3:=d.frozen 3
 have i0:f.cell? ⟨w.heap.size,0,none⟩=some (.slice none 0 0):=d.cell 0
 have i1:f.cell? ⟨w.heap.size,1,none⟩=some (.slice none 0 0):=d.cell 1
 have i2:f.cell? ⟨w.heap.size,2,none⟩=some (.slice none 0 0):=d.cell 2
 have i3:f.cell? ⟨w.heap.size,3,none⟩=some (.int .i64 0):=d.cell 3
 have V:=LH (below_tail U.out s)
 have ak:w.heap.size < X.heap.size:=I.lt
 have z:=LH O
 clear O s
 go_wp2_with fail
 have ad:Blk ((((f.setCell ⟨w.heap.size,0,none⟩ (.slice h.a1 h.n1 h.c1)).setCell ⟨w.heap.size,1,none⟩ (.slice h.a2 h.n2 h.c2)).setCell ⟨w.heap.size,2,none⟩ (.slice h.a3 h.n3 h.c3)).setCell ⟨w.heap.size,3,none⟩ (.int .i64 0)) w.heap.size 26 #[.slice h.a1 h.n1 h.c1, .slice h.a2 h.n2 h.c2, .slice h.a3 h.n3 h.c3, .int .i64 0] :=
  (((d.set 0 (.slice h.a1 h.n1 h.c1)).set 1 (.slice h.a2 h.n2 h.c2)).set 2 (.slice h.a3 h.n3 h.c3)).set 3 (.int .i64 0)
 have L:f.grownBy ((((f.setCell ⟨w.heap.size,0,none⟩ (.slice h.a1 h.n1 h.c1)).setCell ⟨w.heap.size,1,none⟩ (.slice h.a2 h.n2 h.c2)).setCell ⟨w.heap.size,2,none⟩ (.slice h.a3 h.n3 h.c3)).setCell ⟨w.heap.size,3,none⟩ (.int .i64 0)) (some w.heap.size) :=
  grown_trans (grown_trans (grown_trans (grown_set _ _ _ _) (grown_set _ _ _ _)) (grown_set _ _ _ _)) (grown_set _ _ _ _)
 refine bodyPost_ret (results_cell2 (p:=2) (u:=3) (v:=4) (by kernel_rfl) _ _ w.heap.size 26 #[.slice h.a1 h.n1 h.c1, .slice h.a2 h.n2 h.c2, .slice h.a3 h.n3 h.c3, .int .i64 0] (0,0) _ rfl ad Tryz.underlying26 rfl (by kernel_rfl)) rfl ?_
 refine ⟨h,by rw [z.out];rfl,hF _ L.size fun b l aj=>L.block b l (by intro e;injection e with e;omega),Y,Z,b3,z.out,below_set (below_set (below_set (below_set V.out _ _ _ (Nat.le_refl _)) _ _ _ (Nat.le_refl _)) _ _ _ (Nat.le_refl _)) _ _ _ (Nat.le_refl _)⟩
end Go.Proofs.YtggbjdmpjidhgaaGreatDoor
