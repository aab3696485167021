/- the reference's reading: a source, of tokens. -/
import Derived.Test.YtggbjdmpjidhgaaGreatDoorVQPs8
set_option linter.unusedVariables false
set_option linter.unusedSimpArgs false
set_option maxHeartbeats 8000000
set_option maxRecDepth 100000
namespace Go.Proofs.YtggbjdmpjidhgaaGreatDoor
open Go.RowKit
theorem rd_Of (A:Option Addr) (n c q x y:Nat) (ts:List Tk) (ps:List Prd) (w:World) (h:Toks w w.heap.size A n c ts) (hl:n≤4000) (C:srcP q ts=some ps) :
 Calls Tryz.prog 137 #[.slice A n c, .complex .f64 x y] w fun e w'=>∃ A' c' cs,e = .returned (.tuple #[.agg #[.slice none 0 0, .slice A' ps.length c'], .complex .f64 0 0, .int .i64 0])∧w'.ownsRow w.heap.size 199 5 (.slice A' ps.length c') ps.length cs∧PrdCs w' (fun b=>w.heap.size≤b) cs ps∧Below w.heap.size w w':=by
 obtain rfl:=h.1
 obtain ⟨m,B,l,aa,R,rfl,a8,am,b3,rfl⟩:∃ m B l aa R,ts=m::B∧m.1=9∧groupP q B=some (l,aa)∧groupsP q aa=some R∧ps=l++R:=by
  cases ts with
  | nil=>cases C
  | cons m G =>
    have C:(if m.1=9 then (match groupP q G with | none=>none | some (ps,r)=>(groupsP q r).map (ps++·)) else none)=some ps:=C
    split at C
    · rename_i h9
      split at C
      · cases C
      · rename_i p0 r0 U
        rw [Option.map_eq_some_iff] at C
        obtain ⟨m2,h1,h2⟩:=C
        exact ⟨m,G,p0,r0,m2,rfl,h9,U,h1,h2.symm⟩
    · cases C
 have d3:=h.2.1
 have d4:=h.2.2.1
 have fk:∀ (w:World) (a:Addr) (k:FloatKind) (x y:Nat) (m:Mode),(store a (.complex k x y) m).run Tryz.prog w=stored Tryz.prog w a (.complex k x y) m:=fun w a k x y m=>run_store Tryz.prog w a _ m rfl
 have b5:(Tryz.prog.info? 199).map (fun i=>(i.zero,i.size,i.bytes))=some (some (.agg #[.string ⟨#[]⟩, .complex .f64 0 0, .slice none 0 0, .string ⟨#[]⟩, .complex .f64 0 0]),5,88):=by kernel_rfl
 have Hi:=LH b5
 have CD:=LH fun (W:World) (p:Nat) (E:RdAt W p (m::B))=>rd_decls p (m::B) W E a8
 have CT:=LH fun (W:World) (p:Nat) (E:RdAt W p (m::B))=>rd_take p 9 9 m B W E (by simp [isP,a8])
 have CG:=LH fun (W:World) (p:Nat) (E:RdAt W p B)=>rd_group p q B l aa W E am
 have H:=LH h
 have dy:=LH am
 have c7:=LH b3
 have fd:=groupP_pos am
 have d9:B.length+1≤4000:=hl
 clear h a8 am b3 C b5
 generalize hN:(m::B).length=N at *
 go_enter Tryz.func137,Tryz.ntmps137
 go_wp2_with fail
 have a0:=below_alloc (alloc_below w (.cells #[.slice none 0 0, .slice none 0 0] 130)) (.cells #[.slice A N c, .complex .f64 x y, .complex .f64 0 0, .int .i64 0] 236)
 have cf:(w.alloc (.cells #[.slice none 0 0, .slice none 0 0] 130)).heap.size=w.heap.size+1:=alloc_size _ _
 have a3:=Blk.new (w.alloc (.cells #[.slice none 0 0, .slice none 0 0] 130)) 236 #[.slice A N c, .complex .f64 x y, .complex .f64 0 0, .int .i64 0]
 have br:Blk (w.alloc (.cells #[.slice none 0 0, .slice none 0 0] 130)) w.heap.size 130 #[.slice none 0 0, .slice none 0 0]:=Blk.new w _ _
 have a4:=br.ext (alloc_below _ (.cells #[.slice A N c, .complex .f64 x y, .complex .f64 0 0, .int .i64 0] 236))
 rw [cf] at a3
 have ao:RdAt ((w.alloc (.cells #[.slice none 0 0, .slice none 0 0] 130)).alloc (.cells #[.slice A N c, .complex .f64 x y, .complex .f64 0 0, .int .i64 0] 236)) (w.heap.size+1) (m::B):=by
  have ht:=(H.out.wide (Nat.le_succ w.heap.size)).below a0
  subst hN
  exact ⟨hl,A,c,x,y,0,0,a3,ht⟩
 generalize (w.alloc (.cells #[.slice none 0 0, .slice none 0 0] 130)).alloc (.cells #[.slice A N c, .complex .f64 x y, .complex .f64 0 0, .int .i64 0] 236)=J at *
 generalize hp:w.heap.size+1=p at *
 have fe:w.heap.size < p:=by omega
 clear a3 br cf hp
 (with_reducible refine (CD.out _ _ ao).mono ?_)
 rintro e w1 ⟨rfl,rfl⟩
 have a1:=below_alloc a0 (.cells #[.slice none 0 0, .slice none 0 0] 130)
 have Z:=ao.below (alloc_below J (.cells #[.slice none 0 0, .slice none 0 0] 130))
 have bw:=Blk.new J 130 #[.slice none 0 0, .slice none 0 0]
 have bs:=a4.ext (alloc_below J (.cells #[.slice none 0 0, .slice none 0 0] 130))
 have fc:=ao.lt
 have d2:w.heap.size < J.heap.size:=a4.lt
 go_wp2_with fail
 generalize J.alloc (.cells #[.slice none 0 0, .slice none 0 0] 130)=W2 at *
 generalize J.heap.size=f at *
 clear ao a0 a4
 (with_reducible refine (CT.out _ _ Z).mono ?_)
 rintro e W3 ⟨⟨x3,y3,rfl⟩,ba,an⟩
 have a5:=bw.grown an (by intro e;injection e with e;omega)
 have bt:=bs.grown an (by intro e;injection e with e;omega)
 have a2:Below w.heap.size w W3:=a1.trans (grown_is_below an a1.size (by omega))
 have b9:=ba.lt
 have d7:=a5.lt
 clear Z a1 bw bs an
 go_wp2_with fail
 (with_reducible refine (CG.out _ _ ba).mono ?_)
 rintro e j ⟨z,c1,ax,rfl,Y,bm,cc,X⟩
 have ak:=a5.grown X (by intro e;injection e with e;omega)
 have bu:=bt.grown X (by intro e;injection e with e;omega)
 have bk:Below w.heap.size w j:=a2.trans (grown_is_below X a2.size (by omega))
 have v1:=ak.frozen 1
 have z1:j.cell? ⟨f,1,none⟩=some (.slice none 0 0):=ak.cell 1
 go_wp2_with fail
 have cd:=cc.keep (w':=j.setCell ⟨f,1,none⟩ (.slice z l.length c1)) (by simp) fun k h1 h2=>Below.heap_setCell j ⟨f,1,none⟩ _ k (show k ≠ f by omega)
 have b8:(j.setCell ⟨f,1,none⟩ (.slice z l.length c1)).ownsRow W3.heap.size 199 5 (.slice z l.length c1) l.length ax:=own_kept Y fun b hb _ _=>Below.heap_setCell j ⟨f,1,none⟩ _ b (show b ≠ f by omega)
 have bn:PrdCs (j.setCell ⟨f,1,none⟩ (.slice z l.length c1)) (fun b=>W3.heap.size≤b∧(Value.slice z l.length c1).ownBlock ≠ some b) ax l:=bm.keep (by simp) fun k O o=>⟨Below.heap_setCell j ⟨f,1,none⟩ _ k (show k ≠ f by omega),o⟩
 have bx:=ak.set 1 (.slice z l.length c1)
 have bv:=bu.other f 1 (.slice z l.length c1) (by omega)
 have dt:W3.heap.size≤(j.setCell ⟨f,1,none⟩ (.slice z l.length c1)).heap.size:=by simpa using X.size
 have bl:=below_set bk f 1 (.slice z l.length c1) (by omega)
 generalize j.setCell ⟨f,1,none⟩ (.slice z l.length c1)=W5 at *
 have db:=LH b8
 have cr:=LH bn
 have df:=LH cd
 have co:=LH bl
 have bz:Blk W5 f 130 #[.slice none 0 0, .slice z l.length c1]:=bx
 have cz:=LH bz
 have cx:=LH bv
 clear b8 bn cd bl bx bv bz Y bm cc bk ak bu X v1 z1 ba a2 a5 bt
 go_loopw [] (fun wr=>∃ (d c:Nat) (A:Option Addr) (done:List Prd) (G:List Tk) (cs:List Value),d+G.length≤4000∧W3.heap.size≤wr.heap.size∧Hid (d=done.length)∧Hid (∃ q' P,groupsP q' G=some P∧done++P=l++R) ∧
  Hid (wr.ownsRow W3.heap.size 199 5 (.slice A d c) d cs)∧Hid (PrdCs wr (fun b=>W3.heap.size≤b∧(Value.slice A d c).ownBlock ≠ some b) cs done)∧Hid (RdAt wr p G)∧Hid (Below w.heap.size w wr) ∧
  Hid (Blk wr f 130 #[.slice none 0 0, .slice A d c])∧Hid (Blk wr w.heap.size 130 #[.slice none 0 0, .slice none 0 0])) (fun wr=>remR wr p)
 case atStart=>exact ⟨l.length,c1,z,l,aa,ax,by omega,dt,LH rfl,LH ⟨q,R,c7.out,rfl⟩,db,cr,df,co,cz,cx⟩
 case round =>
  obtain ⟨d,c,A,done,G,cs,d5,ce,Hd,Hq,Ho,Hc,Hr,HB,au,I⟩:=hrel
  obtain ⟨q',P,cb,al⟩:=Hq.out
  obtain ⟨A0,c0,x0,y0,fu,fx,_,_,_,r0,r1,r2,r3⟩:=Hr.out.parts
  have k0:wr.cell? ⟨f,0,none⟩=some (.slice none 0 0):=au.out.cell 0
  have k1:wr.cell? ⟨f,1,none⟩=some (.slice A d c):=au.out.cell 1
  have m0:=I.out.frozen 0
  have m1:=I.out.frozen 1
  have j0:wr.cell? ⟨w.heap.size,0,none⟩=some (.slice none 0 0):=I.out.cell 0
  have j1:wr.cell? ⟨w.heap.size,1,none⟩=some (.slice none 0 0):=I.out.cell 1
  have d8:f ≠ w.heap.size:=by omega
  clear Hq
  rcases groupsP_step cb with ⟨rfl,rfl⟩ | ⟨u,S,rfl,cg,q2,g,F,m2,U,b1,rfl⟩
  · have fo:wr.cell? ⟨p,0,none⟩=some (.slice A0 0 c0):=r0
    rw [List.append_nil] at al
    clear r0
    go_wp2_with fail
    have hF:Blk ((wr.setCell ⟨w.heap.size,0,none⟩ (.slice none 0 0)).setCell ⟨w.heap.size,1,none⟩ (.slice A d c)) w.heap.size 130 #[.slice none 0 0, .slice A d c]:=(I.out.set 0 (.slice none 0 0)).set 1 (.slice A d c)
    have a6:wr.grownBy ((wr.setCell ⟨w.heap.size,0,none⟩ (.slice none 0 0)).setCell ⟨w.heap.size,1,none⟩ (.slice A d c)) (some w.heap.size):=grown_trans (grown_set _ _ _ _) (grown_set _ _ _ _)
    refine bodyPost_ret (results_cell2 (p:=4) (u:=5) (v:=6) (by kernel_rfl) _ _ w.heap.size 130 #[.slice none 0 0, .slice A d c] (0,0) _ rfl hF Tryz.underlying130 rfl (by kernel_rfl)) rfl ?_
    have bo:w.heap.size < W3.heap.size:=by omega
    rw [← al,← Hd.out]
    refine ⟨A,c,cs,rfl,own_monoS (own_grown Ho.out a6 bo) (Nat.le_of_lt bo),Hc.out.keep a6.size fun k O o=>⟨a6.block k O (by intro e;injection e with e;have:=o.1;omega),by have:=o.1;omega⟩,below_set (below_set HB.out _ _ _ (Nat.le_refl _)) _ _ _ (Nat.le_refl _)⟩
  · have CK:=LH (rd_kind p (u::S) wr Hr.out)
    have cn:=LH fun (W:World) (E:RdAt W p (u::S))=>rd_group p q2 (u::S) g F W E U
    have ca:=groupP_pos U
    have dr:Hid (F.length < remR wr p):=LH (by rw [Hr.out.rem];omega)
    have ff:d+g.length+F.length≤4000:=by omega
    have e9:(u.1 != 9)=true:=by rw [bne_iff_ne];exact cg
    have fb:0 < (u::S).length:=by simp
    have b6:headK (u::S)=u.1:=rfl
    rw [b6] at CK
    have c8:=LH b1
    have c5:=LH al
    have dq:=ca.1
    clear U b1 cg cb b6 al ca
    generalize (u::S).length=nu at *
    generalize u.1=uk at *
    go_wp2_with (go_at_call 191;(with_reducible refine CK.out.mono ?_);rintro e w2 ⟨rfl,rfl⟩)
    go_region_law (first
     | (go_simp;go_at_call 190;refine (cn.out _ (by exact Hr.out)).mono ?_;rintro e w2 ⟨A2,c2,T,rfl,a9,aj,Z,L⟩
        have V:wr.grownBy w2 (some p):=⟨L.os,L.tape,L.output,L.size,L.block⟩
        obtain ⟨g2,rfl,d6,fa,b0⟩:=own_cells a9 dq
        have b2:=au.out.grown V (by intro e;injection e with e;omega)
        have z1:w2.cell? ⟨f,1,none⟩=some (.slice A d c):=b2.cell 1
        have ae:=LH (own_grown Ho.out V b9)
        have ds:W3.heap.size≤w2.heap.size:=Nat.le_trans ce V.size
        have dm:T.length=g.length * 5:=aj.1
        have dn:=LH (prdCs_one aj)
        have c3:=LH b0
        have cq:=LH aj
        have de:=LH Z
        have cu:=LH b2
        have ad:=LH V
        have dz:=LH a9
        clear b0 aj Z b2 V L a9)
     | (refine step_appendM rfl _ _ 128 rfl W3.heap.size 199 _ 5 88 Tryz.underlying128 Hi.out (by decide) (by decide) A d c cs (by simp [Act.eval,Act.put]) ae.out ⟨g2,0,none⟩ g.length c2 T dm (by simp [Act.eval,Act.put]) c3.out dn.out (by omega) (by omega) ds ?_;intro s t j Y a7 bp
        have b4:=cu.out.grown a7 (by intro e;have:=(ae.out.lt f e.symm).1;omega)
        have y1:j.cell? ⟨f,1,none⟩=some (.slice A d c):=b4.cell 1
        have v1:=b4.frozen 1
        have cv:=LH b4
        have D:=LH a7
        have be:=LH bp
        have da:=LH Y
        clear b4 a7 bp Y))
    all_goals
     have M:j.grownBy (j.setCell ⟨f,1,none⟩ (.slice s (d+g.length) t)) (some f):=grown_set _ _ _ _
     have ai:∀ b,(Value.slice A d c).ownBlock=some b→W3.heap.size≤b∧b < wr.heap.size:=fun b hb=>Ho.out.lt b hb
     have s2:=ad.out.size
     have s4:=D.out.size
     have sX:=M.size
     have ct:Hid (PrdCs (j.setCell ⟨f,1,none⟩ (.slice s (d+g.length) t)) (fun b=>W3.heap.size≤b∧(Value.slice s (d+g.length) t).ownBlock ≠ some b) (cs++T) (done++g)):=LH (PrdCs.app
      (Hc.out.keep (by omega) fun k O o=>⟨by rw [M.block k (by omega) (by intro e;injection e with e;have:=o.1;omega),D.out.block k (by omega) (fun e=>o.2 e.symm),ad.out.block k O (by intro e;injection e with e;have:=o.1;omega)],o.1,fun h3=>o.2 (be.out k h3 (by omega))⟩)
      (cq.out.keep (by omega) fun k O o=>⟨by rw [M.block k (by omega) (by intro e;injection e with e;have:wr.heap.size≤k:=o.1;omega),D.out.block k (by omega) (fun e=>by have:=ai k e.symm;have:wr.heap.size≤k:=o.1;omega)],Nat.le_trans ce o.1,fun h3=>by have:=ai k (be.out k h3 (by omega));have:wr.heap.size≤k:=o.1;omega⟩))
     have dc:Hid ((j.setCell ⟨f,1,none⟩ (.slice s (d+g.length) t)).ownsRow W3.heap.size 199 5 (.slice s (d+g.length) t) (d+g.length) (cs++T)):=LH (own_grown da.out M (by omega))
     have bi:Hid (RdAt (j.setCell ⟨f,1,none⟩ (.slice s (d+g.length) t)) p F):=LH ((de.out.app D.out ae.out b9).keep sX fun k h1 h2=>M.block k h2 (by intro e;injection e with e;omega))
     have cp:Hid (Below w.heap.size w (j.setCell ⟨f,1,none⟩ (.slice s (d+g.length) t))):=LH (below_set ((HB.out.trans (grown_is_below ad.out HB.out.size (by omega))).trans ⟨D.out.os,D.out.tape,D.out.output,s4,fun k O=>D.out.block k (by have:=HB.out.size;omega) (fun e=>by have:=(ai k e.symm).1;omega)⟩) _ _ _ (by omega))
     have cw:Hid (Blk (j.setCell ⟨f,1,none⟩ (.slice s (d+g.length) t)) f 130 #[.slice none 0 0, .slice s (d+g.length) t]):=LH (cv.out.set 1 (.slice s (d+g.length) t))
     have cy:Hid (Blk (j.setCell ⟨f,1,none⟩ (.slice s (d+g.length) t)) w.heap.size 130 #[.slice none 0 0, .slice none 0 0]):=LH (((I.out.grown ad.out (by intro e;injection e with e;omega)).grown D.out (by intro e;have:=(ae.out.lt _ e.symm).1;omega)).other f 1 _ (by omega))
     have c6:Hid (d+g.length=(done++g).length):=LH (by rw [List.length_append,← Hd.out])
     have dd:Hid (∃ q' P,groupsP q' F=some P∧(done++g)++P=l++R):=LH ⟨q2,m2,c8.out,by rw [← c5.out];simp⟩
     have dg:Hid (remR (j.setCell ⟨f,1,none⟩ (.slice s (d+g.length) t)) p=F.length):=LH bi.out.rem
     have du:W3.heap.size≤(j.setCell ⟨f,1,none⟩ (.slice s (d+g.length) t)).heap.size:=by omega
     clear ai M s2 s4 sX
     go_wp2_with fail
     go_roundw
     case rel=>exact ⟨d+g.length,t,s,done++g,F,cs++T,by omega,du,c6,dd,dc,ct,bi,cp,cw,cy⟩
     case measure=>rw [dg.out];exact dr.out
theorem rf_Parse (A:Option Addr) (n c q I:Nat) (xs:List Nat) (w:World) (h:Nums .u8 w A n c xs) (D:∀ x ∈ xs,x < 256) (X:n≤4000) (ts:List TokP) (H:toksP xs q 0=some ts) (F:cuts ts < 2) (U:ts.length≤4000) (ps:List Prd) (G:srcP I (ts.map tkOf)=some ps) :
 Calls Tryz.prog 83 #[.slice A n c] w fun e w'=>∃ f g cs,e = .returned (.tuple #[.agg #[.slice none 0 0, .slice f ps.length g], .complex .f64 0 0, .int .i64 0])∧w'.ownsRow w.heap.size 199 5 (.slice f ps.length g) ps.length cs∧PrdCs w' (fun b=>w.heap.size≤b) cs ps∧Below w.heap.size w w':=by
 have t:=alloc_below w (.cells #[.slice none 0 0, .slice none 0 0] 130)
 have S:=Blk.new w 130 #[.slice none 0 0, .slice none 0 0]
 have CT:=LH (rf_Tokens A n c q xs _ (h.below t) D X ts H F)
 have V:(ts.map tkOf).length=ts.length:=by simp
 have L:=LH fun (W:World) (f:Option Addr) (g x y:Nat) (o:Toks W W.heap.size f ts.length g (ts.map tkOf))=>rd_Of f ts.length g I x y (ts.map tkOf) ps W o U G
 have Z:∀ (w:World) (a:Addr) (k:FloatKind) (x y:Nat) (m:Mode),(store a (.complex k x y) m).run Tryz.prog w=stored Tryz.prog w a (.complex k x y) m:=fun w a k x y m=>run_store Tryz.prog w a _ m rfl
 clear h D H F G V
 go_enter Tryz.func83,Tryz.ntmps83
 go_wp2_with fail
 generalize w.alloc (.cells #[.slice none 0 0, .slice none 0 0] 130)=Y at *
 (with_reducible refine CT.out.mono ?_)
 rintro e w1 ⟨J,c1,x,y,rfl,o,z⟩
 have E:=S.ext z
 have M:=LH (below_tail t z)
 go_wp2_with fail
 (with_reducible refine (L.out w1 J c1 x y o).mono ?_)
 rintro e l ⟨d,c2,cs,rfl,P,R,B⟩
 have j:=E.ext B
 have N:=LH (below_tail M.out B)
 have v0:=j.frozen 0
 have v1:=j.frozen 1
 have z0:l.cell? ⟨w.heap.size,0,none⟩=some (.slice none 0 0):=j.cell 0
 have z1:l.cell? ⟨w.heap.size,1,none⟩=some (.slice none 0 0):=j.cell 1
 go_wp2_with fail
 have s:w.heap.size < w1.heap.size:=E.lt
 have O:Blk ((l.setCell ⟨w.heap.size,0,none⟩ (.slice none 0 0)).setCell ⟨w.heap.size,1,none⟩ (.slice d ps.length c2)) w.heap.size 130 #[.slice none 0 0, .slice d ps.length c2]:=(j.set 0 (.slice none 0 0)).set 1 (.slice d ps.length c2)
 have r:l.grownBy ((l.setCell ⟨w.heap.size,0,none⟩ (.slice none 0 0)).setCell ⟨w.heap.size,1,none⟩ (.slice d ps.length c2)) (some w.heap.size):=grown_trans (grown_set _ _ _ _) (grown_set _ _ _ _)
 refine bodyPost_ret (results_cell2 (p:=2) (u:=3) (v:=4) (by kernel_rfl) _ _ w.heap.size 130 #[.slice none 0 0, .slice d ps.length c2] (0,0) _ rfl O Tryz.underlying130 rfl (by kernel_rfl)) rfl ?_
 exact ⟨d,c2,cs,rfl,own_monoS (own_grown P r s) (Nat.le_of_lt s),R.keep r.size fun k T C=>⟨r.block k T (by intro e;injection e with e;have:w1.heap.size≤k:=C;omega),Nat.le_trans (Nat.le_of_lt s) C⟩,below_set (below_set N.out _ _ _ (Nat.le_refl _)) _ _ _ (Nat.le_refl _)⟩
theorem Wk.cells {w:World} {p B:Nat} {h:GH} {G:Gr} (k:Wk w p B h G):p < w.heap.size∧w.cell? ⟨p,0,none⟩=some (.slice h.a1 h.n1 h.c1)∧w.cell? ⟨p,1,none⟩=some (.slice h.a2 h.n2 h.c2)∧w.cell? ⟨p,2,none⟩=some (.slice h.a3 h.n3 h.c3)∧w.cell? ⟨p,3,none⟩=some (.int .i64 0) ∧
 w.cell? ⟨p,7,none⟩=some (.bool false)∧w.cell? ⟨p,10,none⟩=some (.int .i64 0)∧w.frozen? ⟨p,0,none⟩=false∧w.frozen? ⟨p,1,none⟩=false∧w.frozen? ⟨p,2,none⟩=false :=
 ⟨k.blk.lt,k.blk.cell 0,k.blk.cell 1,k.blk.cell 2,k.blk.cell 3,k.blk.cell 7,k.blk.cell 10,k.blk.frozen 0,k.blk.frozen 1,k.blk.frozen 2⟩
theorem Wk.lens {w:World} {p B:Nat} {h:GH} {G:Gr} (k:Wk w p B h G):G.terms.length=h.n1∧G.nons.length=h.n2∧G.rules.length=h.n3:=⟨k.grAt.terms.len,k.grAt.nons.len,k.grAt.rules.len⟩
theorem laid_cells (W:World) (a:List Value) (e:TypeId):∀ j u,a[j]? = some u→(W.alloc (.cells a.toArray e)).cell? ((⟨W.heap.size,0,none⟩:Addr).add j)=some u:=by
 intro j u d
 have b:(⟨W.heap.size,0,none⟩:Addr).add j=⟨W.heap.size,j,none⟩:=by
  unfold Addr.add
  split
  · rename_i c;subst c;rfl
  · simp
 rw [b,World.cell?_alloc_mark]
 simpa using d
theorem wk_terminal (p:Nat) {B:Nat} (h:GH) (G f:Gr) (i:Int) (s:ByteArray) (x y:Nat) (w:World) (k:Wk w p B h G) (O:termP G s=some (i,f)) :
 Calls Tryz.prog 227 #[.pointer (some ⟨p,0,none⟩), .agg #[.string s, .complex .f64 x y]] w fun e w'=>e = .returned (.int .i64 i)∧∃ F,Wk w' p B F f∧Turn w w' p h F:=by
 obtain ⟨a1,n1,c1,a2,n2,c2,a3,n3,c3⟩:=h
 obtain ⟨P,l2,l3⟩:=k.lens
 have N:=k.st
 have a0:n1≤24:=k.b1
 have I:=alloc_below w (.cells #[.string s, .complex .f64 x y] 191)
 have d:=Blk.new w 191 #[.string s, .complex .f64 x y]
 have m:=k.below I
 have L:(Tryz.prog.info? 91).map (fun i=>(i.zero,i.size,i.bytes))=some (some (.agg #[.string ⟨#[]⟩, .int .i64 0, .int .i64 0]),3,32):=by kernel_rfl
 have X:=LH L
 have n:=LH O
 simp only [] at P l2 l3
 clear O L k
 go_enter Tryz.func227,Tryz.ntmps227
 go_wp2_with fail
 generalize ae:w.alloc (.cells #[.string s, .complex .f64 x y] 191)=c at *
 have ay:w.heap.size < c.heap.size:=d.lt
 obtain ⟨hp,R,S,T,z3,z7,ar,v0,v1,v2⟩:=m.cells
 have y0:c.cell? ⟨w.heap.size,0,none⟩=some (.string s):=d.cell 0
 have y1:c.cell? ⟨w.heap.size,1,none⟩=some (.complex .f64 x y):=d.cell 1
 simp only [] at R S T
 have q:=fun (x:Ext c)=>rf_term ⟨a1,n1,c1,a2,n2,c2,a3,n3,c3⟩ G s (bl c x) (m.grAt.below (bl_below c x)) (by simp only [];omega)
 rw [N] at q
 have CT:=LH q
 have Y:=LH m
 have W:=LH d
 have bc:=bl_cell c
 clear q m d ae N
 refine wp_region_below (by kernel_rfl) (by kernel_rfl) ?_
 repeat (go_big_quiet_step ((go_at_call 117;with_reducible exact bl_of (CT.out _))))
 refine wpQuiet_nil ?_
 rintro _ ⟨x,rfl⟩
 have j:=bl_below c x
 generalize bl c x=a at *
 have u:=Y.out.below j
 have r:=W.out.ext j
 have g:=LH u
 have z:=LH (below_tail I j)
 obtain ⟨a5,u0,u1,u2,u3,u7,u10,a7,a8,a9⟩:=u.cells
 have ba:a.cell? ⟨w.heap.size,0,none⟩=some (.string s):=r.cell 0
 have az:w.heap.size < a.heap.size:=r.lt
 simp only [] at u0 u1 u2
 clear u r bc CT y0 y1 R S T z3 z7 ar v0 v1 v2 j
 by_cases H:0≤G.term s
 · have E:Hid (i=G.term s∧f=G):=LH (by
    have:=n.out
    unfold termP at this
    rw [if_pos H] at this
    simp only [Option.some.injEq,Prod.mk.injEq] at this
    exact ⟨this.1.symm,this.2.symm⟩)
   generalize G.term s=ti at *
   go_wp2_with fail
   go_ret
   exact ⟨by rw [E.out.1];rfl,_,by rw [E.out.2];exact g.out,Turn.of_below z.out _ _⟩
 · have ad:¬ n1=24∧i=(n1:Int)∧f={ G with terms:=G.terms++[⟨s,0,0⟩] }:=by
    have:=n.out
    unfold termP at this
    rw [if_neg H] at this
    split at this
    · cases this
    · rename_i v
      simp only [Option.some.injEq,Prod.mk.injEq] at this
      rw [P] at v this
      exact ⟨v,this.1.symm,this.2.symm⟩
   obtain ⟨v,rfl,rfl⟩:=ad
   have aw:((n1:Int) == 24)=false:=by rw [beq_eq_false_iff_ne];omega
   generalize G.term s=ti at *
   have Z:=LH (g.out.r1)
   clear n
   go_wp2_with fail
   have C:Hid ((a.drew.alloc (.cells #[.string s, .int .i64 0, .int .i64 0] 91)).ownsRow (p+1) 91 3 (.slice a1 n1 c1) n1 (trmCs G.terms)):=LH (own_keepB Z.out ((Below.refl a.heap.size a).drew.alloc (Nat.le_refl _) _))
   have l:Below a.heap.size a (a.drew.alloc (.cells #[.string s, .int .i64 0, .int .i64 0] 91)):=(Below.refl a.heap.size a).drew.alloc (Nat.le_refl _) _
   have V:=LH (g.out.blk.ext l)
   have A:=LH l
   have ag:p+1≤(a.drew.alloc (.cells #[.string s, .int .i64 0, .int .i64 0] 91)).heap.size:=by have:=l.size;omega
   clear l
   go_region_law (first
    | (refine step_appendM rfl _ _ 22 rfl (p+1) 91 _ 3 32 Tryz.underlying22 X.out (by decide) (by decide) a1 n1 c1 (trmCs G.terms) (by simp [Act.eval,Act.put]) (by exact C.out) ⟨a.heap.size,0,none⟩ 1 1 [.string s, .int .i64 0, .int .i64 0] rfl (by simp [Act.eval,Act.put]) (by exact laid_cells a.drew [.string s, .int .i64 0, .int .i64 0] _) (by simp [Value.oneCell']) (by omega) (by omega) (by exact ag) ?_;intro U c4 w4 M t J
       have o:=V.out.grown t (by intro e;have:=(C.out.lt p e.symm).1;omega)
       have q0:w4.cell? ⟨p,0,none⟩=some (.slice a1 n1 c1):=o.cell 0
       have f0:=o.frozen 0
       have D:=LH (g.out.put1 ⟨s,0,0⟩ (by simp only [];omega) U c4 M (grown_trans (grown_below _ A.out) t) (fun b hb ah=>J b hb (Nat.lt_of_lt_of_le ah A.out.size)))
       clear o M t J))
   all_goals
    go_wp2_with fail
    go_ret
    refine ⟨by congr 2 <;> omega,_,D.out.1,(Turn.of_below z.out p _).trans D.out.2⟩
theorem symbolP_ways {g:Bool} {G d:Gr} {s:ByteArray} {i:Int} (h:symbolP g G s=some (i,d)) :
 (0≤G.non s∧g=true∧i=-1 - G.non s∧d=G)∨(¬ 0≤G.non s∧termP G s=some (i,d)∧(0≤G.term s∨(¬ 0≤G.term s∧litB (bytesOf s)=true)∨(¬ 0≤G.term s∧litB (bytesOf s)=false∧s=errS))):=by
 unfold symbolP at h
 by_cases b:0≤G.non s
 · rw [if_pos b] at h
   split at h
   · rename_i j
     simp only [Option.some.injEq,Prod.mk.injEq] at h
     exact .inl ⟨b,j,h.1.symm,h.2.symm⟩
   · cases h
 · rw [if_neg b] at h
   split at h
   · rename_i a
     refine .inr ⟨b,h,?_⟩
     simp only [Bool.or_eq_true,decide_eq_true_eq] at a
     by_cases c:0≤G.term s
     · exact .inl c
     · by_cases f:litB (bytesOf s)=true
       · exact .inr (.inl ⟨c,f⟩)
       · rcases a with (a | a) | a
         · exact absurd a c
         · exact absurd a f
         · exact .inr (.inr ⟨c,by simpa using f,a⟩)
   · cases h
theorem wk_symbol (p:Nat) {B:Nat} (h:GH) (G d:Gr) (i:Int) (s:ByteArray) (R:Bool) (x y:Nat) (w:World) (k:Wk w p B h G) (O:symbolP R G s=some (i,d)) :
 Calls Tryz.prog 194 #[.pointer (some ⟨p,0,none⟩), .agg #[.string s, .complex .f64 x y], .bool R] w fun e w'=>e = .returned (.int .i64 i)∧∃ J,Wk w' p B J d∧Turn w w' p h J:=by
 have ar:=symbolP_ways O
 have I:=fun (W:World) (hW:Wk W p B h G) (o:termP G s=some (i,d))=>wk_terminal p h G d i s x y W hW o
 obtain ⟨a1,n1,c1,a2,n2,c2,a3,n3,c3⟩:=h
 obtain ⟨l1,P,l3⟩:=k.lens
 have C:=k.st
 have bb:n1≤24:=k.b1
 have bd:n2≤16:=k.b2
 have L:=alloc_below w (.cells #[.string s, .complex .f64 x y] 191)
 have l:=Blk.new w 191 #[.string s, .complex .f64 x y]
 have m:=k.below L
 have Y:=LH I
 simp only [] at l1 P l3
 have N:=findI_lo (fun t=>decide (t=s)) G.nons
 have ba:-1≤G.non s∧G.non s < (n2:Int):=by rw [← P];exact N
 clear k O I N
 go_enter Tryz.func194,Tryz.ntmps194
 go_wp2_with fail
 generalize al:w.alloc (.cells #[.string s, .complex .f64 x y] 191)=b at *
 have a8:w.heap.size < b.heap.size:=l.lt
 obtain ⟨hp,U,V,X,z3,z7,a0,v0,v1,v2⟩:=m.cells
 have y0:b.cell? ⟨w.heap.size,0,none⟩=some (.string s):=l.cell 0
 simp only [] at U V X
 have r:=fun (x:Ext b)=>rf_non ⟨a1,n1,c1,a2,n2,c2,a3,n3,c3⟩ G s (bl b x) (m.grAt.below (bl_below b x)) (by simp only [];omega)
 rw [C] at r
 have E:=LH r
 have ad:=LH m
 have aa:=LH l
 have af:=LH C
 have bc:=bl_cell b
 clear r m l al C
 refine wp_region_below (by kernel_rfl) (by kernel_rfl) ?_
 repeat (go_big_quiet_step ((go_at_call 120;with_reducible exact bl_of (E.out _))))
 refine wpQuiet_nil ?_
 rintro _ ⟨S,rfl⟩
 have j:=bl_below b S
 generalize bl b S=a at *
 have n:=ad.out.below j
 have f:=aa.out.ext j
 have H:=LH n
 have ab:=LH f
 have F:=LH (below_tail L j)
 obtain ⟨bf,u0,u1,u2,u3,u7,u10,bk,bm,bn⟩:=n.cells
 have bp:a.cell? ⟨w.heap.size,0,none⟩=some (.string s):=f.cell 0
 have bq:a.cell? ⟨w.heap.size,1,none⟩=some (.complex .f64 x y):=f.cell 1
 have a9:w.heap.size < a.heap.size:=f.lt
 simp only [] at u0 u1 u2
 have u:=fun (x:Ext a)=>rf_term ⟨a1,n1,c1,a2,n2,c2,a3,n3,c3⟩ G s (bl a x) (n.grAt.below (bl_below a x)) (by simp only [];omega)
 rw [af.out] at u
 have CT:=LH u
 have q:=LH fun (x:Ext a)=>ref_Literal s (bl a x)
 have bc2:=bl_cell a
 clear n f bc E y0 U V X z3 z7 a0 v0 v1 v2 j u
 rcases ar with ⟨an,rfl,rfl,rfl⟩ | ⟨an,o,aq⟩
 · generalize ao:d.non s=D at *
   have bg:IntKind.i64.wrap (-1 - D)=-1 - D:=IntWalk.i64_in _ (by omega)
   go_wp2_with fail
   go_ret
   exact ⟨by rw [ao];rfl,_,H.out,Turn.of_below F.out _ _⟩
 · have ag:=LH o
   clear o
   generalize G.non s=D at *
   rcases aq with g | ⟨g,c⟩ | ⟨g,c,v⟩
   case' inr.inl=>generalize G.term s=ti at *
   case' inr.inr.inl =>
    rw [show G.term s=-1 by have z:=(findI_lo (fun t=>decide (t.name=s)) G.terms).1;have h6:G.term s=findI (fun t=>decide (t.name=s)) G.terms:=rfl;omega] at CT
    clear g
    have e2:litB (bytesOf s)=true:=c
    rw [c] at q
   case' inr.inr.inr =>
    rw [show G.term s=-1 by have z:=(findI_lo (fun t=>decide (t.name=s)) G.terms).1;have h6:G.term s=findI (fun t=>decide (t.name=s)) G.terms:=rfl;omega] at CT
    clear g
    have e2:(s.toList == [101,114,114,111,114])=true:=by rw [v,ByteArray.toList_eq];rfl
    rw [c] at q
   all_goals
    try have a6:=LH c
    try have a7:=LH v
    try clear c
    try clear v
    go_wp2_with fail
    refine wp_region_below (by kernel_rfl) (by kernel_rfl) ?_
    repeat (go_big_quiet_step (first | (go_at_call 117;with_reducible exact bl_of (CT.out _)) | (go_at_call 172;with_reducible exact bl_of_same (q.out _))))
    refine wpQuiet_nil ?_
    rintro _ ⟨T,rfl⟩
    have A:=bl_below a T
    have ae:=LH (H.out.below A)
    have M:=ab.out.ext A
    generalize bl a T=W3 at *
    have Z:=LH (below_tail F.out A)
    have t0:W3.cell? ⟨w.heap.size,0,none⟩=some (.string s):=M.cell 0
    have t1:W3.cell? ⟨w.heap.size,1,none⟩=some (.complex .f64 x y):=M.cell 1
    go_wp2_with (go_at_call 227;(with_reducible refine (Y.out _ ae.out ag.out).mono ?_);rintro e w5 ⟨rfl,z,am,ap⟩)
    go_ret
    exact ⟨rfl,z,am,(Turn.of_below Z.out _ _).trans ap⟩
theorem wk_decls (p:Nat) {B:Nat} (h:GH) (G:Gr) (w:World) (k:Wk w p B h G) :
 Calls Tryz.prog 138 #[.pointer (some ⟨p,0,none⟩), .slice none 0 0] w fun e w'=>e = .returned (.tuple #[])∧w=w':=by
 clear k
 go_enter Tryz.func138,Tryz.ntmps138
 go_wp2_with fail
 go_loopw [4] (fun i wr=>i = .int .i64 0∧wr=w) (fun _ _=>0)
 case atStart=>exact ⟨rfl,rfl⟩
 case round =>
  obtain ⟨rfl,rfl⟩:=hrel
  go_wp2_with fail
  (try simp only [Exit.inBlock,Exit.then])
  refine bodyPost_end (results_none rfl _ _ _) rfl ?_
  exact ⟨rfl,rfl⟩
theorem leftsP_step {a d:List ByteArray} {l:List Prd} {k:Nat} {q:Prd} (h:leftsP a (l.drop k)=some d) (g:l[k]? = some q) :
 nameB (bytesOf q.left)=true∧((0≤findI (fun t=>decide (t=q.left)) a∧leftsP a (l.drop (k+1))=some d)∨(findI (fun t=>decide (t=q.left)) a=-1∧a.length ≠ 16∧leftsP (a++[q.left]) (l.drop (k+1))=some d)):=by
 rw [drop_get g] at h
 unfold leftsP at h
 by_cases b:nameB (bytesOf q.left)=true
 · rw [if_neg (by simp [b])] at h
   refine ⟨b,?_⟩
   by_cases c:0≤findI (fun t=>decide (t=q.left)) a
   · rw [if_pos c] at h
     exact .inl ⟨c,h⟩
   · rw [if_neg c] at h
     split at h
     · cases h
     · rename_i f
       have:=(findI_lo (fun t=>decide (t=q.left)) a).1
       exact .inr ⟨by omega,f,h⟩
 · rw [if_pos (by simpa using b)] at h
   cases h
theorem wk_lefts (p:Nat) {B:Nat} (h:GH) (G:Gr) (T:List ByteArray) (A:Option Addr) (n c:Nat) (l:List Prd) (w:World) (k:Wk w p B h G) (hP:∀ w',Below p w w'→Prds w' A n c l) (hn:n≤4000) (ht:G.terms=[]) (C:leftsP G.nons l=some T) :
 Calls Tryz.prog 139 #[.pointer (some ⟨p,0,none⟩), .slice A n c] w fun e w'=>e = .returned (.tuple #[])∧∃ r,Wk w' p B r { G with nons:=T }∧Turn w w' p h r:=by
 have N:=hP w (Below.refl _ _)
 have aq:l.length=n:=N.1
 have ck:=N.2.1
 have cl:=N.2.2.1
 have HP:=LH hP
 have Hk:=LH k
 have Ht:=LH ht
 have Hl:=LH C
 have bg:=LH aq
 have ap:(Tryz.prog.info? 9).map (fun i=>(i.zero,i.size,i.bytes))=some (some (.string ByteArray.empty),1,16):=by kernel_rfl
 have c0:∀ (w:World) (a:Addr) (k:FloatKind) (x y:Nat) (m:Mode),(store a (.complex k x y) m).run Tryz.prog w=stored Tryz.prog w a (.complex k x y) m:=fun w a k x y m=>run_store Tryz.prog w a _ m rfl
 have Hi:=LH ap
 clear k hP N ht C aq ap
 go_enter Tryz.func139,Tryz.ntmps139
 go_wp2_with fail
 go_loopw [4] (fun v wr=>∃ (j:Nat) (r:GH) (d:List ByteArray),v = .int .i64 (j:Int)∧j≤n∧Hid (Wk wr p B r { G with nons:=d })∧Hid (leftsP d (l.drop j)=some T)∧Hid (Turn w wr p h r)) (fun v _=>n - (intOf v).toNat)
 case atStart=>exact ⟨0,h,G.nons,rfl,Nat.zero_le _,Hk,Hl,LH (Turn.refl _ _ _)⟩
 case round =>
  obtain ⟨j,r,d,rfl,hj,o,ak,H⟩:=hrel
  obtain ⟨a1,n1,c1,a2,n2,c2,a3,n3,c3⟩:=r
  obtain ⟨hp,z0,z1,z2,z3,z7,dk,v0,v1,v2⟩:=o.out.cells
  simp only [] at z0 z1 z2
  by_cases br:j < n
  case neg =>
   obtain rfl:j=n:=by omega
   go_wp2_with fail
   (try simp only [Exit.inBlock,Exit.then])
   refine bodyPost_end (results_none rfl _ _ _) rfl ?_
   have C:=ak.out
   rw [List.drop_eq_nil_of_le (by rw [bg.out];exact Nat.le_refl _)] at C
   have u:d=T:=by
    unfold leftsP at C
    injection C
   exact ⟨rfl,_,by rw [← u];exact o.out,H.out⟩
  case pos =>
   obtain ⟨b,c8,q,Ar,cr,x,y,x',y',rfl,hb,Hq,q0,q1,q2,q3,q4,bv⟩:=(HP.out wr (H.out.below Hk.out)).get br
   obtain ⟨ar,ax⟩:=leftsP_step ak.out Hq.out
   have bj:=LH ax
   have Z:=alloc_below wr (.cells #[.string q.left, .complex .f64 x y] 191)
   have O:=Blk.new wr 191 #[.string q.left, .complex .f64 x y]
   have R:=o.out.below Z
   have Y:=fun w=>ref_name q.left w
   rw [ar] at Y
   have CN:=LH Y
   obtain ⟨l1,l2,l3⟩:=o.out.lens
   simp only [] at l1 l2 l3
   have cs:n1≤24:=o.out.b1
   have ct:n2≤16:=o.out.b2
   have av:G.start=0:=o.out.st
   clear ar ax Y bv
   generalize q.left=L at *
   go_wp2_with (go_at_call 119;(with_reducible refine (CN.out _).mono ?_);rintro e w2 ⟨rfl,rfl⟩)
   generalize bq:wr.alloc (.cells #[.string L, .complex .f64 x y] 191)=g at *
   have cn:wr.heap.size < g.heap.size:=O.lt
   obtain ⟨cv,u0,u1,u2,u3,u7,u10,b7,b8,b9⟩:=R.cells
   have y0:g.cell? ⟨wr.heap.size,0,none⟩=some (.string L):=O.cell 0
   simp only [] at u0 u1 u2
   have I:=fun (x:Ext g)=>rf_term ⟨a1,n1,c1,a2,n2,c2,a3,n3,c3⟩ { G with nons:=d } L (bl g x) (R.grAt.below (bl_below g x)) (by simp only [];omega)
   rw [show ({ G with nons:=d }:Gr).term L=-1 by unfold Gr.term;show findI _ G.terms=-1;rw [Ht.out];rfl] at I
   rw [show ({ G with nons:=d }:Gr).start=0 from av] at I
   have CT:=LH I
   have ai:=LH R
   have bb:=LH O
   have bc:=bl_cell g
   clear I R O bq av l1
   go_wp2_with fail
   refine wp_region_below (by kernel_rfl) (by kernel_rfl) ?_
   repeat (go_big_quiet_step ((go_at_call 117;with_reducible exact bl_of (CT.out _))))
   refine wpQuiet_nil ?_
   rintro _ ⟨x2,rfl⟩
   have J:=bl_below g x2
   have S:=ai.out.below J
   have P:=bb.out.ext J
   generalize bl g x2=f at *
   have af:=LH (below_tail Z J)
   obtain ⟨cw,t0,t1,t2,t3,t7,b3,f0,f1,f2⟩:=S.cells
   have e0:f.cell? ⟨wr.heap.size,0,none⟩=some (.string L):=P.cell 0
   have co:wr.heap.size < f.heap.size:=P.lt
   simp only [] at t0 t1 t2
   have z:=fun (x:Ext f)=>rf_non ⟨a1,n1,c1,a2,n2,c2,a3,n3,c3⟩ { G with nons:=d } L (bl f x) (S.grAt.below (bl_below f x)) (by simp only [];omega)
   rw [show ({ G with nons:=d }:Gr).non L=findI (fun t=>decide (t=L)) d from rfl,show ({ G with nons:=d }:Gr).start=0 from ai.out.st] at z
   have aj:=LH S
   have bd:=LH P
   have bc2:=bl_cell f
   clear S P bc CT y0 u0 u1 u2 u3 u7 u10 b7 b8 b9 J Z
   rcases bj.out with ⟨ae,u⟩ | ⟨ae,bu,u⟩
   · have W:=LH u
     generalize findI (fun t=>decide (t=L)) d=nv at *
     have F:=LH z
     clear z u
     go_wp2_with fail
     refine wp_region_below (by kernel_rfl) (by kernel_rfl) ?_
     repeat (go_big_quiet_step ((go_at_call 120;with_reducible exact bl_of (F.out _))))
     refine wpQuiet_nil ?_
     rintro _ ⟨E,rfl⟩
     have s:=bl_below f E
     have V:=LH (aj.out.below s)
     have U:=LH (below_tail af.out s)
     generalize bl f E=W3 at *
     go_wp2_with fail
     go_roundw
     case rel=>exact ⟨j+1,_,d,by go_num,by omega,V,W,LH (H.out.trans (Turn.of_below U.out _ _))⟩
     case measure=>simp [intOf];omega
   · have W:=LH u
     rw [ae] at z
     rw [l2] at bu
     have F:=LH z
     have ch:((n2:Int) == 16)=false:=by rw [beq_eq_false_iff_ne];omega
     clear z u ae
     go_wp2_with fail
     refine wp_region_below (by kernel_rfl) (by kernel_rfl) ?_
     repeat (go_big_quiet_step ((go_at_call 120;with_reducible exact bl_of (F.out _))))
     refine wpQuiet_nil ?_
     rintro _ ⟨E,rfl⟩
     have s:=bl_below f E
     have D:=aj.out.below s
     have ab:=bd.out.ext s
     have U:=LH (below_tail af.out s)
     generalize bl f E=W3 at *
     obtain ⟨cx,m0,m1,m2,m3,m7,c5,g0,g1,g2⟩:=D.cells
     have d0:W3.cell? ⟨wr.heap.size,0,none⟩=some (.string L):=ab.cell 0
     have cp:wr.heap.size < W3.heap.size:=ab.lt
     simp only [] at m0 m1 m2
     have V:=LH D
     have al:Hid ((W3.drew.alloc (.cells #[.string L] 9)).ownsRow (p+1) 9 1 (.slice a2 n2 c2) n2 (d.map Value.string)):=LH (own_keepB D.r2 ((Below.refl W3.heap.size W3).drew.alloc (Nat.le_refl _) _))
     have M:Below W3.heap.size W3 (W3.drew.alloc (.cells #[.string L] 9)):=(Below.refl W3.heap.size W3).drew.alloc (Nat.le_refl _) _
     have ba:=LH (D.blk.ext M)
     have ag:=LH M
     have bs:p+1≤(W3.drew.alloc (.cells #[.string L] 9)).heap.size:=by have:=M.size;omega
     clear M D ab s t0 t1 t2 t3 t7 b3 f0 f1 f2 bc2 F
     go_wp2_with fail
     go_region_law (first
      | (refine step_appendM rfl _ _ 23 rfl (p+1) 9 _ 1 16 Tryz.underlying23 Hi.out (by decide) (by decide) a2 n2 c2 (d.map Value.string) (by simp [Act.eval,Act.put]) (by exact al.out) ⟨W3.heap.size,0,none⟩ 1 1 [.string L] rfl (by simp [Act.eval,Act.put]) (by exact laid_cells W3.drew [.string L] _) (by simp [Value.oneCell']) (by omega) (by omega) (by exact bs) ?_;intro A4 c4 w4 ho ad ha
         have X:=ba.out.grown ad (by intro e;have:=(al.out.lt p e.symm).1;omega)
         have k1:w4.cell? ⟨p,1,none⟩=some (.slice a2 n2 c2):=X.cell 1
         have k2:=X.frozen 1
         have am:=LH (V.out.put2 L (by simp only [];omega) A4 c4 ho (grown_trans (grown_below _ ag.out) ad) (fun b hb bt=>ha b hb (Nat.lt_of_lt_of_le bt ag.out.size)))
         clear X ho ad ha))
     all_goals
      go_wp2_with fail
      go_roundw
      case rel=>exact ⟨j+1,_,d++[L],by go_num,by omega,LH am.out.1,W,LH ((H.out.trans (Turn.of_below U.out _ _)).trans am.out.2)⟩
      case measure=>simp [intOf];omega
end Go.Proofs.YtggbjdmpjidhgaaGreatDoor
