/- what is of use of a grammar: the program's Reduce, walked. -/
import Derived.Test.YtggbjdmpjidhgaaGreatDoorVQCyW9
import Derived.Test.YtggbjdmpjidhgaaGreatDoorVQCtW5
import Derived.Test.YtggbjdmpjidhgaaGreatDoorVQPs15
import Derived.Test.YtggbjdmpjidhgaaGreatDoorVQPs8
set_option linter.unusedVariables false
set_option linter.unusedSimpArgs false
set_option maxHeartbeats 8000000
set_option maxRecDepth 100000
namespace Go.Proofs.YtggbjdmpjidhgaaGreatDoor
open Go.RowKit
open Go.Maps (Keyed IsMap Tidy)
theorem zero_end {w c:World} {g:Nat} (d:Blk c g 26 #[.slice none 0 0, .slice none 0 0, .slice none 0 0, .int .i64 0]) (a:Below w.heap.size w c) (b:w.heap.size≤g) :
 Below w.heap.size w ((((c.setCell ⟨g,0,none⟩ (.slice none 0 0)).setCell ⟨g,1,none⟩ (.slice none 0 0)).setCell ⟨g,2,none⟩ (.slice none 0 0)).setCell ⟨g,3,none⟩ (.int .i64 0)) :=
 (((a.trans (grown_is_below (grown_set _ _ _ _) a.size b)).trans (grown_is_below (grown_set _ _ _ _) (by simpa using a.size) b)).trans (grown_is_below (grown_set _ _ _ _) (by simpa using a.size) b)).trans (grown_is_below (grown_set _ _ _ _) (by simpa using a.size) b)
theorem NumM.look {w:World} {g:Nat} {b:List Nat} {i:Nat} (h:NumM w g b) (f:b.Nodup) (hi:i ∈ b) (d:i≤1000):(Instr.lookup 154 (.map (some g)) (.int .i64 (i:Int)) false).run Tryz.prog w = .ok (.int .i64 (toI b i)) w:=by
 obtain ⟨c,j,a,_⟩:=World.ownsMap.lookup_int h Tryz.keyInt Tryz.underlying154 Tryz.underlying3 (Tryz.zeroInt w) (key_num i d)
 rw [at_numD _ i b f hi] at a
 injection a with a
 injection a with _ a
 rw [j,a]
theorem own_blk_ne {w:World} {base e size n c t g:Nat} {A:Option Addr} {xs:List Value} {cs:Array Value} (h:w.ownsRow base e size (.slice A n c) n xs) {b:Nat} (d:(Value.slice A n c).ownBlock=some b) (a:Blk w g t cs) (f:t ≠ e):b ≠ g:=by
 rintro rfl
 obtain ⟨j,k,h1⟩:=own_typed h d
 unfold Blk at a
 rw [h1] at a
 injection a with a
 injection a with _ h3 _
 exact f h3.symm
theorem tr_ReduceK (h:GH) (G:Gr) (w:World) (F:GrAt w h G) (hs:∀ t ∈ G.terms,t.name.size≤maxLen) (h1:h.n1≤100) (h2:h.n2≤100) (h3:h.n3≤100) :
 Calls Tryz.prog 57 #[GV h G.start] w (RetRedK G w):=by
 obtain ⟨a1,n1,c1,a2,n2,c2,a3,n3,c3⟩:=h
 have e1:G.terms.length=n1:=F.terms.len
 have e2:G.nons.length=n2:=F.nons.len
 have e3:G.rules.length=n3:=F.rules.len
 have k1:=F.terms.cap
 have k2:=F.nons.cap
 have k3:=F.rules.cap
 simp only [] at h1 h2 h3 k1 k2 k3
 have Hg:=LH F
 have Hs:=LH hs
 have h7:=alloc_below w (.cells #[.slice a1 n1 c1, .slice a2 n2 c2, .slice a3 n3 c3, .int .i64 G.start] 26)
 have fw:=GBox.new w 26 ⟨a1,n1,c1,a2,n2,c2,a3,n3,c3⟩ G.start
 clear F hs
 go_enter Tryz.func57,Tryz.ntmps57
 have ⟨z5,z0,z1,z2,z3⟩:=fw
 simp only [] at z0 z1 z2 z3
 go_upto_region 1 with fail
 have fv:=alloc_below (w.alloc (.cells #[.slice a1 n1 c1, .slice a2 n2 c2, .slice a3 n3 c3, .int .i64 G.start] 26)) (.cells #[.slice none 0 0, .slice none 0 0, .slice none 0 0, .int .i64 0] 26)
 have fp:=Blk.new (w.alloc (.cells #[.slice a1 n1 c1, .slice a2 n2 c2, .slice a3 n3 c3, .int .i64 G.start] 26)) 26 #[.slice none 0 0, .slice none 0 0, .slice none 0 0, .int .i64 0]
 have bq:=below_tail h7 fv
 have fx:=fw.below fv
 have kf:(w.alloc (.cells #[.slice a1 n1 c1, .slice a2 n2 c2, .slice a3 n3 c3, .int .i64 G.start] 26)).heap.size=w.heap.size+1:=alloc_size _ _
 generalize (w.alloc (.cells #[.slice a1 n1 c1, .slice a2 n2 c2, .slice a3 n3 c3, .int .i64 G.start] 26)).alloc (.cells #[.slice none 0 0, .slice none 0 0, .slice none 0 0, .int .i64 0] 26)=W1 at *
 rw [kf] at fp
 clear kf fv fw h7 z0 z1 z2 z3 z5
 have jn:Hid (Blk W1 (w.heap.size+1) 26 #[.slice none 0 0, .slice none 0 0, .slice none 0 0, .int .i64 0]):=LH fp
 have ⟨y5,y0,D,y2,y3⟩:=fx
 simp only [] at y0 D y2 y3
 go_wp2_with fail
 (with_reducible refine (cf_Right ⟨a1,n1,c1,a2,n2,c2,a3,n3,c3⟩ G W1 (Hg.out.below bq) Hs.out (by simp only [];omega) (by simp only [];omega)).mono ?_)
 rintro e S ⟨rfl,ds⟩
 have b9:=below_tail bq ds
 have ju:=fx.below ds
 have ap:Blk S (w.heap.size+1) 26 #[.slice none 0 0, .slice none 0 0, .slice none 0 0, .int .i64 0]:=Blk.ext jn.out ds
 clear ds fx bq fp jn y0 D y2 y3 y5
 have r0:S.cell? ⟨w.heap.size+1,0,none⟩=some (.slice none 0 0):=ap.cell 0
 have r1:S.cell? ⟨w.heap.size+1,1,none⟩=some (.slice none 0 0):=ap.cell 1
 have r2:S.cell? ⟨w.heap.size+1,2,none⟩=some (.slice none 0 0):=ap.cell 2
 have r3:S.cell? ⟨w.heap.size+1,3,none⟩=some (.int .i64 0):=ap.cell 3
 have f0:=ap.frozen 0
 have f1:=ap.frozen 1
 have f2:=ap.frozen 2
 have f3:=ap.frozen 3
 have dc:=LH ap
 have bt:=LH b9
 have d7:=LH ju
 clear ap b9 ju
 rcases cm:G.right with _ | _
 case false =>
  have b1:Hid (redOK G=false):=LH (by unfold redOK;rw [cm];rfl)
  clear cm
  go_wp2_with fail
  refine bodyPost_ret (results_cell2 (p:=2) (u:=3) (v:=4) (by kernel_rfl) _ _ (w.heap.size+1) 26 #[.slice none 0 0, .slice none 0 0, .slice none 0 0, .int .i64 0] (0,0) _ rfl ((((Blk.set (Blk.set (Blk.set (Blk.set dc.out 0 (.slice none 0 0)) 1 (.slice none 0 0)) 2 (.slice none 0 0)) 3 (.int .i64 0))))) Tryz.underlying26 rfl (by kernel_rfl)) rfl ?_
  exact ⟨zero_end dc.out bt.out (Nat.le_succ _), .inl ⟨b1.out,1,by decide,rfl⟩⟩
 have ce:=Gr.fits cm
 have di:=LH cm
 have ad:=LH ce
 have j4:=ce.n1
 have md:=ce.n2
 have me:=ce.n3
 rw [e1] at j4
 rw [e2] at md
 rw [e3] at me
 have ⟨y5,y0,D,y2,y3⟩:=d7.out
 simp only [] at y0 D y2 y3
 have HS:Hid (∀ Y,Below S.heap.size S Y→Y.cell? ⟨w.heap.size,0,none⟩=some (.slice a1 n1 c1)∧Y.cell? ⟨w.heap.size,1,none⟩=some (.slice a2 n2 c2)∧Y.cell? ⟨w.heap.size,2,none⟩=some (.slice a3 n3 c3)∧Y.cell? ⟨w.heap.size,3,none⟩=some (.int .i64 G.start)∧Below S.heap.size S Y):=LH fun Y a=>⟨by rw [a.cell (by exact y5)];exact y0,by rw [a.cell (by exact y5)];exact D,by rw [a.cell (by exact y5)];exact y2,by rw [a.cell (by exact y5)];exact y3,a⟩
 have CP:=LH fun X (a:Below S.heap.size S X)=>(tr_Productive ⟨a1,n1,c1,a2,n2,c2,a3,n3,c3⟩ G X ((Hg.out.below bt.out).below a) Hs.out (by simp only [];omega) (by simp only [];omega) (by simp only [];omega)).mono fun e w' hh=>And.intro (below_tail a hh.1) (And.intro (LH hh.1) (hh.2.resolve_left fun hc=>by rw [di.out] at hc;cases hc.1).2)
 have CR:=LH fun X (a:Below S.heap.size S X)=>(tr_Reachable ⟨a1,n1,c1,a2,n2,c2,a3,n3,c3⟩ G X ((Hg.out.below bt.out).below a) Hs.out (by simp only [];omega) (by simp only [];omega) (by simp only [];omega)).mono fun e w' hh=>And.intro (below_tail a hh.1) (And.intro (LH hh.1) (hh.2.resolve_left fun hc=>by rw [di.out] at hc;cases hc.1).2)
 clear cm ce r0 r1 r2 r3 f0 f1 f2 f3
 go_upto_region 3 with fail
 go_region_held3 (fun Y=>Y.cell? ⟨w.heap.size,0,none⟩=some (.slice a1 n1 c1)∧Y.cell? ⟨w.heap.size,1,none⟩=some (.slice a2 n2 c2)∧Y.cell? ⟨w.heap.size,2,none⟩=some (.slice a3 n3 c3)∧Y.cell? ⟨w.heap.size,3,none⟩=some (.int .i64 G.start)∧Below S.heap.size S Y)
  ((refine HS.out _ ?_;(repeat (first | assumption | exact Below.refl _ _ | refine Below.drew ?_));done))
  (first
    | (go_at_call 105;with_reducible refine (CP.out _ (by (repeat (first | assumption | exact Below.refl _ _ | refine Below.drew ?_)))).mono ?_;rintro e w7 ⟨lv,ku,gP,l5,rfl,g6⟩)
    | (go_at_call 106;with_reducible refine (CR.out _ (by (repeat (first | assumption | exact Below.refl _ _ | refine Below.drew ?_)))).mono ?_;rintro e J ⟨dn,he,gQ,l6,rfl,g7⟩))
 rename_i lw
 clear lw
 have g3:Hid (BoolT J gP (prodN G)):=LH (Blk.hidden g6 he)
 have kp:Hid (BoolT J gQ (reachN G)):=LH g7
 have bc:=LH (below_tail bt.out dn)
 have bz:=LH (d7.out.below dn)
 have W:Hid (Blk J (w.heap.size+1) 26 #[.slice none 0 0, .slice none 0 0, .slice none 0 0, .int .i64 0]):=LH (Blk.ext dc.out dn)
 clear lv ku l5 g6 dn he l6 g7 CP CR HS y0 D y2 y3 y5 dc bt d7
 have ⟨y5,y0,D,y2,y3⟩:=bz.out
 simp only [] at y0 D y2 y3
 obtain ⟨st,ge⟩:∃ st:Nat,G.start=(st:Int):=⟨G.start.toNat,by have:=ad.out.st;omega⟩
 have mo:st < n2:=by have:=ad.out.st;omega
 have b4:Hid (G.start.toNat=st):=LH (by omega)
 have c0:=g3.out.at (i:=st) (by rw [prodN_len,e2];exact mo)
 have fa:Hid (redOK G=(prodN G).getD st false):=LH (by unfold redOK;rw [di.out,b4.out];rfl)
 rw [ge] at y3
 have lj:=LH ge
 clear ge
 generalize kc:(prodN G).getD st false=pv at *
 rcases pv with _ | _
 case false =>
  have r0:J.cell? ⟨w.heap.size+1,0,none⟩=some (.slice none 0 0):=W.out.cell 0
  have r1:J.cell? ⟨w.heap.size+1,1,none⟩=some (.slice none 0 0):=W.out.cell 1
  have r2:J.cell? ⟨w.heap.size+1,2,none⟩=some (.slice none 0 0):=W.out.cell 2
  have r3:J.cell? ⟨w.heap.size+1,3,none⟩=some (.int .i64 0):=W.out.cell 3
  have f0:=W.out.frozen 0
  have f1:=W.out.frozen 1
  have f2:=W.out.frozen 2
  have f3:=W.out.frozen 3
  clear kc
  go_wp2_with fail
  refine bodyPost_ret (results_cell2 (p:=2) (u:=3) (v:=4) (by kernel_rfl) _ _ (w.heap.size+1) 26 #[.slice none 0 0, .slice none 0 0, .slice none 0 0, .int .i64 0] (0,0) _ rfl ((((Blk.set (Blk.set (Blk.set (Blk.set W.out 0 (.slice none 0 0)) 1 (.slice none 0 0)) 2 (.slice none 0 0)) 3 (.int .i64 0))))) Tryz.underlying26 rfl (by kernel_rfl)) rfl ?_
  exact ⟨zero_end W.out bc.out (Nat.le_succ _), .inl ⟨fa.out,9,by decide,rfl⟩⟩
 clear kc
 have CT:=LH (tr_CloneT a1 n1 c1 G.terms J ((Hg.out.below bc.out).terms) (by omega))
 have mb:=@run_makeMap Tryz.prog
 go_upto_region 8 with (go_at_call 107;(with_reducible refine CT.out.mono ?_);rintro e w9 ⟨fk,M,O,rfl,fq⟩)
 have jo:∀ b,(Value.slice M n1 O).ownBlock=some b→b < w9.heap.size:=fun b a=>(fq.lt b a).2
 have ji:=Blk.new w9 26 #[.slice M n1 O, .slice none 0 0, .slice none 0 0, .int .i64 0]
 have jc:=alloc_below w9 (.cells #[.slice M n1 O, .slice none 0 0, .slice none 0 0, .int .i64 0] 26)
 have jq:=fq.alloc (.cells #[.slice M n1 O, .slice none 0 0, .slice none 0 0, .int .i64 0] 26)
 have mk:J.heap.size≤w9.heap.size:=fk.size
 have gd:(w9.alloc (.cells #[.slice M n1 O, .slice none 0 0, .slice none 0 0, .int .i64 0] 26)).heap.size=w9.heap.size+1:=alloc_size _ _
 have h8:=fk.trans (jc.mono mk)
 generalize w9.alloc (.cells #[.slice M n1 O, .slice none 0 0, .slice none 0 0, .int .i64 0] 26)=bp at *
 generalize w9.heap.size=d at *
 clear fq jc fk CT
 go_upto_region 9 with fail
 have fm:=alloc_below bp (.map #[] 0)
 have fo:NumM (bp.alloc (.map #[] 0)) bp.heap.size []:=World.ownsMap_made _ _ _ _
 have jj:=Blk.ext ji fm
 have jr:=jq.alloc (.map #[] 0)
 have mm:(bp.alloc (.map #[] 0)).heap.size=bp.heap.size+1:=alloc_size _ _
 have ja:=h8.trans (fm.mono (by rw [gd];omega))
 generalize bp.alloc (.map #[] 0)=wB at *
 rw [gd] at fo mm
 have n6:d+1 < wB.heap.size:=by omega
 have bd:Hid (Below J.heap.size J wB):=LH ja
 have g1:=LH fo
 have g2:=LH jj
 have g8:=LH jr
 have d4:=LH jo
 have km:=LH (below_tail bc.out bd.out)
 clear fo fm ji jj jq jr h8 ja jo mb y0 D y2 y3 y5 c0
 have ⟨y5,y0,D,y2,y3⟩:=bz.out.below bd.out
 simp only [] at y0 D y2 y3
 clear gd
 go_wp2_with fail
 clear y0 D y2 y3 y5
 go_loopw [7,43] (fun kk i wz=>∃ (q:Nat) (Ak:Option Addr) (T:Nat) (N:Option Addr) (P:Nat),q≤n3∧i = .int .i64 (q:Int)∧kk = .slice Ak (ksN G q).length T∧Hid (Red2M wB d (d+1) (.slice M n1 O) G wz Ak T N P (ksN G q) (oldOf (keptT G q)))) (fun _ i _=>n3 - (intOf i).toNat)
 case atStart=>exact ⟨0,none,0,none,0,Nat.zero_le _,rfl,rfl,LH ⟨Off.refl _ _,g1.out,g2.out,World.ownsRow_nil _ _ _ _,World.ownsRow_nil _ _ _ _⟩⟩
 case round =>
  obtain ⟨q,Ak,T,N,P,hq,rfl,rfl,m⟩:=hrel
  have R:Hid (Below J.heap.size J wr):=LH (bd.out.trans (m.out.off.is_below bd.out.size fun k hk=>by omega))
  have al:=LH (below_tail bc.out R.out)
  have cc:=bz.out.below R.out
  have ⟨y5,y0,D,y2,y3⟩:=cc
  simp only [] at y0 D y2 y3
  clear cc
  by_cases ci:q < n3
  case pos =>
   as_aux_lemma =>
    obtain ⟨bb,ay,r,Ar,cr,rfl,cb,Hr,q0,q1,q2,cj⟩:=Hg.out.rules.get ci
    rw [← al.out.cell (by exact cb)] at q0 q1 q2
    have a:bb < wr.heap.size:=Nat.lt_of_lt_of_le cb al.out.size
    have dh:=LH cj
    have ax:=List.mem_of_getElem? Hr.out
    obtain ⟨l1,l2⟩:=ad.out.left r ax
    obtain ⟨f,cg⟩:∃ f:Nat,r.left=(f:Int):=⟨r.left.toNat,by omega⟩
    have f4:f < n2:=by omega
    have b0:Hid (r.left.toNat=f):=LH (by omega)
    have l9:=ad.out.len r ax
    have bm:=ad.out.symB ax
    rw [e2] at bm
    have fc:=LH bm
    rw [cg] at q0
    have a6:=alloc_below wr (.cells #[.int .i64 (f:Int), .slice Ar r.right.length cr, .int .i64 r.prec] 52)
    have ca:=Blk.new wr 52 #[.int .i64 (f:Int), .slice Ar r.right.length cr, .int .i64 r.prec]
    have bw:=LH (m.out.below a6)
    have cz:=LH (R.out.trans (a6.mono R.out.size))
    have hn:Hid (∀ b,(Value.slice Ak (ksN G q).length T).ownBlock=some b→b < wr.heap.size):=LH fun b a=>(m.out.kept.lt b a).2
    have oa:d+1 < wr.heap.size:=m.out.num.lt
    have ot:J.heap.size≤wr.heap.size:=R.out.size
    clear bm l1 l2 cg ax cj
    go_upto_region 12 with fail
    generalize wr.alloc (.cells #[.int .i64 (f:Int), .slice Ar r.right.length cr, .int .i64 r.prec] 52)=C at *
    generalize wr.heap.size=gX at *
    have am:=LH ca
    clear a6 ca m R al q0 q1 q2 a y0 D y2 y3 y5
    have x0:C.cell? ⟨gX,0,none⟩=some (.int .i64 (f:Int)):=am.out.cell 0
    have x1:C.cell? ⟨gX,1,none⟩=some (.slice Ar r.right.length cr):=am.out.cell 1
    have x2:C.cell? ⟨gX,2,none⟩=some (.int .i64 r.prec):=am.out.cell 2
    have kl:=LH (below_tail bc.out cz.out)
    have lP:Hid ((prodN G).length=n2):=LH (by rw [prodN_len,e2])
    have jk:BoolT C gP (prodN G):=Blk.ext g3.out cz.out
    have jm:BoolT C gQ (reachN G):=Blk.ext kp.out cz.out
    have cQ:=jm.at (i:=f) (by rw [reachN_len,e2];exact f4)
    have CA:=tr_within (f:Int) Ar cr gP n2 r.right r.prec (prodN G) C (dh.out.below kl.out) jk lP.out (by omega) fc.out
    rw [all_off] at CA
    have CA:=LH CA
    have de:Hid (keepB (prodN G) (reachN G) r=((reachN G).getD f false && allP true (prodN G) r.right)):=LH (by unfold keepB;rw [b0.out])
    have b1:Hid (keepB (prodN G) (reachN G) r=false→ksN G (q+1)=ksN G q∧keptT G (q+1)=keptT G q):=LH (ksN_no Hr.out)
    have hx:Hid (keepB (prodN G) (reachN G) r=true→ksN G (q+1)=ksN G q++[q]∧keptT G (q+1)=keptT G q++[r]):=LH (ksN_yes Hr.out)
    generalize (reachN G).getD f false=qv at *
    generalize allP true (prodN G) r.right=av at *
    clear jk jm
    rcases qv with _ | _
    · obtain ⟨e4,e5⟩:=b1.out (by rw [de.out];rfl)
      have E4:=LH e4
      have E5:=LH e5
      clear e4 e5
      go_wp2_with fail
      go_roundw
      case rel=>exact ⟨q+1,Ak,T,N,P,by omega,by go_num,by rw [E4.out],LH (by rw [E4.out,E5.out];exact bw.out)⟩
      case measure=>simp [intOf];omega
    rcases av with _ | _
    · obtain ⟨e4,e5⟩:=b1.out (by rw [de.out];rfl)
      have E4:=LH e4
      have E5:=LH e5
      clear e4 e5
      go_wp2_with (go_at_call 108;(with_reducible refine CA.out.mono ?_);rintro e w' ⟨rfl,bj⟩)
      go_roundw
      case rel=>exact ⟨q+1,Ak,T,N,P,by omega,by go_num,by rw [E4.out],LH (by rw [E4.out,E5.out];exact bw.out.below bj)⟩
      case measure=>simp [intOf];omega
    obtain ⟨e4,e5⟩:=hx.out (by rw [de.out];rfl)
    have E4:=LH e4
    have E6:Hid (oldOf (keptT G (q+1))=putO (oldOf (keptT G q)) f):=LH (by rw [e5,oldOf_snoc,b0.out])
    clear e4 e5 b1 hx de
    have hf:Hid ((Tryz.prog.info? 3).map (fun i=>(i.zero,i.size,i.bytes))=some (some (.int .i64 0),1,8)):=LH Tryz.infoInt
    have f6:=ks_len G q
    have n0:wB.heap.size≤C.heap.size:=bw.out.off.size
    have mf:=oldT_len G ad.out q
    rw [e2] at mf
    generalize ksN G q=ks at *
    generalize oldOf (keptT G q)=L at *
    have d9:=LH (key_num f (by omega))
    have jg:d+1 ≠ d:=by omega
    by_cases bl:f ∈ L
    case pos =>
     as_aux_lemma =>
      have d8:Hid (decide (f ∈ L)=true):=LH (by simpa using bl)
      have b2:Hid (putO L f=L):=LH (by unfold putO;rw [if_pos bl])
      clear bl
      go_wp2_with (first
       | (go_at_call 108;(with_reducible refine CA.out.mono ?_);rintro e wW ⟨rfl,bj⟩
          have bf:=LH (bw.out.below bj)
          have d5:=LH (Blk.ext am.out bj)
          have l0:wB.heap.size≤wW.heap.size:=bf.out.off.size)
       | (at_builtin;refine wpl_appendT rfl _ _ 27 rfl wB.heap.size 3 _ 1 8 Tryz.underlying27 hf.out (by decide) (by decide) Ak ks.length T (ints .i64 (intsOf ks)) rfl bf.out.kept [.int .i64 (q:Int)] rfl rfl (by simp [Value.oneCell']) (by omega) (by omega) (by omega) ?_;intro A5 c5 w5 Z F ha
          have be:=LH (bf.out.put (by omega) (by omega) q A5 c5 Z F)
          have a5:=d5.out.grown F (by intro e;have:=hn.out gX e.symm;omega)
          have kh:w5.cell? ⟨gX,0,none⟩=some (.int .i64 (f:Int)):=a5.cell 0
          have ki:=a5.lt
          clear Z F ha a5)
       | (at_lookup;refine wpList_lookup_own_ok_int _ rfl _ _ 154 rfl 3 3 .i64 Tryz.keyInt Tryz.underlying154 Tryz.underlying3 (Tryz.zeroInt _) (d+1) L.length (numD L) rfl be.out.num _ _ rfl d9.out ?_;intro cv ft gf;rw [has_numD,d8.out];clear ft gf))
      go_roundw
      case rel=>exact ⟨q+1,A5,c5,N,P,by omega,by go_num,by rw [E4.out,List.length_append];rfl,LH (by rw [E4.out,E6.out,b2.out];exact be.out)⟩
      case measure=>simp [intOf];omega
    case neg =>
     as_aux_lemma =>
      have d8:Hid (decide (f ∈ L)=false):=LH (by simpa using bl)
      have b2:Hid (putO L f=L++[f]):=LH (by unfold putO;rw [if_neg bl])
      have k0:=LH bl
      have kz:Hid ((Tryz.prog.info? 9).map (fun i=>(i.zero,i.size,i.bytes))=some (some (.string ByteArray.empty),1,16)):=LH (by kernel_rfl)
      clear bl
      go_upto_region 17 with (first
       | (go_at_call 108;(with_reducible refine CA.out.mono ?_);rintro e wW ⟨rfl,bj⟩
          have bf:=LH (bw.out.below bj)
          have d5:=LH (Blk.ext am.out bj)
          have l0:wB.heap.size≤wW.heap.size:=bf.out.off.size)
       | (at_builtin;refine wpl_appendT rfl _ _ 27 rfl wB.heap.size 3 _ 1 8 Tryz.underlying27 hf.out (by decide) (by decide) Ak ks.length T (ints .i64 (intsOf ks)) rfl bf.out.kept [.int .i64 (q:Int)] rfl rfl (by simp [Value.oneCell']) (by omega) (by omega) (by omega) ?_;intro A5 c5 w5 Z F ha
          have be:=LH (bf.out.put (by omega) (by omega) q A5 c5 Z F)
          have a5:=d5.out.grown F (by intro e;have:=hn.out gX e.symm;omega)
          have kh:w5.cell? ⟨gX,0,none⟩=some (.int .i64 (f:Int)):=a5.cell 0
          have ki:=a5.lt
          have co:w5.cell? ⟨d,1,none⟩=some (.slice N L.length P):=be.out.out.cell 1
          have kr:=LH a5
          clear Z F ha a5)
       | (at_lookup;refine wpList_lookup_own_ok_int _ rfl _ _ 154 rfl 3 3 .i64 Tryz.keyInt Tryz.underlying154 Tryz.underlying3 (Tryz.zeroInt _) (d+1) L.length (numD L) rfl be.out.num _ _ rfl d9.out ?_;intro cv ft gf;rw [has_numD,d8.out];clear ft gf)
       | (at_mapUpdate;refine wpList_mapUpdate_own _ rfl _ _ _ 154 rfl 3 3 Tryz.keyInt Tryz.underlying154 _ (d+1) L.length (numD L) rfl be.out.num (by unfold maxLen;omega) _ _ _ rfl rfl d9.out _ [] (plainElem_int Tryz.underlying3 (WalkArith.wf_i64 (by omega))) ?_;intro w6 j9 fz
          have bu:=LH (be.out.number (by omega) (by omega) jg k0.out j9 fz)
          have kt:=LH (kr.out.grown fz (by intro e;injection e with e;omega))
          clear j9 fz))
      have gy:Hid (Below J.heap.size J w6):=LH (bd.out.trans (bu.out.off.is_below bd.out.size fun k hk=>by omega))
      have jt:=bz.out.below gy.out
      have fs:=kt.out
      obtain ⟨nb,no,nm,rfl,oh,k9,nq⟩:=(Hg.out.below (below_tail bc.out gy.out)).nons.get f4
      have j7:nm=nameO G f:=by unfold nameO;rw [k9.out];rfl
      have ox:wB.heap.size≤w6.heap.size:=bu.out.off.size
      have ⟨y5,y0,D,y2,y3⟩:=jt
      simp only [] at y0 D y2 y3
      have x0:w6.cell? ⟨gX,0,none⟩=some (.int .i64 (f:Int)):=fs.cell 0
      have pj:=fs.lt
      have nr:w6.cell? ⟨d,1,none⟩=some (.slice (N) L.length P):=bu.out.out.cell 1
      have lq:=bu.out.out.lt
      have dp:Below w6.heap.size w6 (w6.drew.alloc (.cells #[.string nm] 9)):=(Below.refl w6.heap.size w6).drew.alloc (Nat.le_refl _) _
      have da:=LH (bu.out.below dp)
      have l8:wB.heap.size≤(w6.drew.alloc (.cells #[.string nm] 9)).heap.size:=by have:=dp.size;omega
      have ni:=LH dp
      have la:=LH j7
      clear jt fs j7 dp co kh ki
      go_region_law (first
       | (refine step_appendM rfl _ _ 23 rfl wB.heap.size 9 _ 1 16 Tryz.underlying23 kz.out (by decide) (by decide) N L.length P (L.map fun i=>Value.string (nameO G i)) (by simp [Act.eval,Act.put]) (by exact da.out.nons) ⟨w6.heap.size,0,none⟩ 1 1 [.string nm] rfl (by simp [Act.eval,Act.put]) (by exact laid_cells w6.drew [.string nm] _) (by simp [Value.oneCell']) (by omega) (by omega) (by exact l8) ?_;intro A6 c6 w7 Z br ha
          have b6:=da.out.out.grown br (by intro e;have:=(da.out.nons.lt d e.symm).1;omega)
          have i1:w7.cell? ⟨d,1,none⟩=some (.slice N L.length P):=b6.cell 1
          have i2:=b6.frozen 1
          have HF:=LH (da.out.name (by omega) (by omega) jg A6 c6 (by rw [← la.out];exact Z) br)
          clear b6 Z br ha))
      all_goals
       go_wp2_with fail
       go_roundw
       case rel=>exact ⟨q+1,A5,c5,A6,c6,by omega,by go_num,by rw [E4.out,List.length_append];rfl,LH (by rw [E4.out,E6.out,b2.out];exact HF.out)⟩
       case measure=>simp [intOf];omega
  case neg =>
   as_aux_lemma =>
    obtain rfl:n3=q:=by omega
    obtain ⟨wC,mq⟩:∃ x,x=wr:=⟨wr,rfl⟩
    subst mq
    have lc:Hid (oldOf (keptT G n3)=oldN G):=LH (by rw [← e3,keptT_all];rfl)
    have f7:=ks_rules G n3 (by omega)
    have jz:keptT G n3=keptR G:=by rw [← e3,keptT_all]
    rw [jz] at f7
    have j1:∀ i,i ∈ ksN G n3→i < n3:=fun i hi=>ks_lt hi
    have oe:=ks_len G n3
    rw [lc.out] at m
    have og:(oldN G).length≤n2:=by have:=old_len ad.out;omega
    generalize j2:ksN G n3=ks at *
    have k6:Hid (ksN G G.rules.length=ks):=LH (by rw [e3];exact j2)
    clear j2
    have gz:=LH m.out.num
    have c9:=LH m.out.kept
    have g0:=LH m.out.nons
    have kq:=LH (m.out.off.row g8.out fun b a h=>by have:=d4.out b a;omega)
    have lx:Hid (Red3 wC d (.slice M n1 O) (.slice N (oldN G).length P) wC none 0 []):=LH ⟨Off.refl _ _,m.out.out,[],World.ownsRow_nil _ _ _ _,RulCs.nil _ _⟩
    have n7:d+1 < wC.heap.size:=m.out.num.lt
    have ou:wB.heap.size≤wC.heap.size:=m.out.off.size
    have d0:=R
    have hm:=LH f7
    have k5:=LH j1
    have f5:=(own_sl m.out.kept).2
    generalize j6:ks.length=I at *
    have od:I≤T∧T≤9223372036854775807:=⟨f5.1,f5.2.1⟩
    have k8:=LH j6
    have lk:Hid (st ∈ oldN G):=LH (by have:=prod_start ad.out (by rw [b4.out];have:=fa.out;unfold redOK at this;rw [Bool.and_eq_true,b4.out] at this;exact this.2);rwa [b4.out] at this)
    have os:J.heap.size≤wC.heap.size:=d0.out.size
    clear m f7 jz j1 R al j6 bd km g2 g8 ci hq f5 g1
    have g4:Hid ((keptR G).length=I):=LH hm.out.1.symm
    clear y0 D y2 y3 y5
    go_wp2_with fail
    go_loopw [93] (fun i wz=>∃ (q:Nat) (A3:Option Addr) (ae:Nat),q≤I∧i = .int .i64 (q:Int)∧Hid (Red3 wC d (.slice M n1 O) (.slice N (oldN G).length P) wz A3 ae (((keptR G).take q).map (redR (oldN G))))) (fun i _=>I - (intOf i).toNat)
    case atStart=>exact ⟨0,none,0,Nat.zero_le _,rfl,LH (by simpa using lx.out)⟩
    case round =>
     obtain ⟨q,A3,ae,hq,rfl,m⟩:=hrel
     have R:Hid (Below J.heap.size J wr):=LH (d0.out.trans (m.out.off.is_below d0.out.size fun k hk=>by omega))
     have al:=LH (below_tail bc.out R.out)
     have cc:=bz.out.below R.out
     have ov:wC.heap.size≤wr.heap.size:=m.out.off.size
     have dt:(((keptR G).take q).map (redR (oldN G))).length=q:=by rw [List.length_map,List.length_take,g4.out];omega
     have d3:Hid (NumM wr (d+1) (oldN G)):=LH (gz.out.block (m.out.off.keep (d+1) gz.out.lt (by omega)))
     have ⟨y5,y0,D,y2,y3⟩:=cc
     simp only [] at y0 D y2 y3
     clear cc
     by_cases ci:q < I
     case pos =>
      as_aux_lemma =>
       obtain ⟨i,hi⟩:∃ i,ks[q]? = some i:=⟨_,List.getElem?_eq_getElem (by rw [k8.out];exact ci)⟩
       have l7:=k5.out i (List.mem_of_getElem? hi)
       obtain ⟨r,gb,gc⟩:=hm.out.2 q i hi
       have jf:wr.ownsRow wB.heap.size 3 1 (.slice Ak I T) I (ints .i64 (intsOf ks)):=m.out.off.row c9.out fun b a h=>by have:=(c9.out.lt b a).1;omega
       have je:Ints .i64 wr Ak I T (intsOf ks):=own_sl jf
       obtain ⟨kb,ko,kv,rfl,oc,k7,lp⟩:=je.get ci
       obtain rfl:(i:Int)=kv:=by have h:=k7.out;rw [show (intsOf ks)[q]? = some (i:Int) by unfold intsOf;rw [List.getElem?_map,hi];rfl] at h;exact Option.some.inj h
       obtain ⟨bb,ay,r',Ar,cr,rfl,cb,Hr,q0,q1,q2,cj⟩:=Hg.out.rules.get l7
       obtain rfl:r=r':=by have h:=Hr.out;rw [gb] at h;exact Option.some.inj h
       rw [← al.out.cell (by exact cb)] at q0 q1 q2
       have a:bb < wr.heap.size:=Nat.lt_of_lt_of_le cb al.out.size
       have dh:=LH cj
       have ax:=List.mem_of_getElem? gb
       have hv:Hid (r ∈ keptR G):=LH (List.mem_of_getElem? gc)
       obtain ⟨l1,l2⟩:=ad.out.left r ax
       obtain ⟨f,cg⟩:∃ f:Nat,r.left=(f:Int):=⟨r.left.toNat,by omega⟩
       have f4:f < n2:=by omega
       have b0:Hid (r.left.toNat=f):=LH (by omega)
       have l9:=ad.out.len r ax
       have bm:=ad.out.symB ax
       rw [e2] at bm
       have fc:=LH bm
       rw [cg] at q0
       have lg:=LH gc
       have k4:Hid (f ∈ oldN G):=LH (by rw [← b0.out];exact kept_left hv.out)
       have a6:=alloc_below wr (.cells #[.int .i64 (f:Int), .slice Ar r.right.length cr, .int .i64 r.prec] 52)
       have ca:=Blk.new wr 52 #[.int .i64 (f:Int), .slice Ar r.right.length cr, .int .i64 r.prec]
       have ml:(wr.alloc (.cells #[.int .i64 (f:Int), .slice Ar r.right.length cr, .int .i64 r.prec] 52)).heap.size=wr.heap.size+1:=alloc_size _ _
       have db:=LH (d3.out.block (a6.block (d+1) d3.out.lt))
       have cz:=LH (R.out.trans (a6.mono R.out.size))
       have d6:=LH a6
       have kj:Hid (∀ b,(Value.slice A3 (((keptR G).take q).map (redR (oldN G))).length ae).ownBlock=some b→wC.heap.size≤b∧b < wr.heap.size):=LH fun b a=>by obtain ⟨cs,h3,_⟩:=m.out.rules;exact h3.lt b a
       clear bm l1 l2 cg ax cj gc gb hi jf je a6
       go_upto_region 23 with fail
       generalize wr.alloc (.cells #[.int .i64 (f:Int), .slice Ar r.right.length cr, .int .i64 r.prec] 52)=C at *
       have am:=LH ca
       clear ca q0 q1 q2 a y0 D y2 y3 y5 lp
       have x0:C.cell? ⟨wr.heap.size,0,none⟩=some (.int .i64 (f:Int)):=am.out.cell 0
       have x1:C.cell? ⟨wr.heap.size,1,none⟩=some (.slice Ar r.right.length cr):=am.out.cell 1
       have x2:C.cell? ⟨wr.heap.size,2,none⟩=some (.int .i64 r.prec):=am.out.cell 2
       have xl:=am.out.lt
       have ll:Hid ((redR (oldN G) r).left=toI (oldN G) f):=LH (by show toI (oldN G) r.left.toNat=_;rw [b0.out])
       have ht:Hid (∀ X,Below C.heap.size C X→(Instr.lookup 154 (.map (some (d+1))) (.int .i64 (f:Int)) false).run Tryz.prog X = .ok (.int .i64 (toI (oldN G) f)) X):=LH fun X hX=>(db.out.block (hX.block (d+1) db.out.lt)).look (old_nodup G) k4.out (by omega)
       have lh:=LH ((dh.out.below al.out).below d6.out)
       generalize toI (oldN G) f=tl at *
       refine wp_region_grow1 (fun X=>Below C.heap.size C X) (fun X X'=>Below X.heap.size X X') (fun u=>(⟨(GV ⟨a1,n1,c1,a2,n2,c2,some ⟨bb,ay,none⟩,n3,c3⟩ G.start::Value.pointer (some ⟨w.heap.size,0,none⟩)::Value.pointer (some ⟨w.heap.size+1,0,none⟩)::Value.slice none 0 0::Value.int IntKind.i64 0::Value.slice (some ⟨gP,0,none⟩) n2 n2::Value.slice (some ⟨gQ,0,none⟩) n2 n2::Value.slice (some ⟨kb,ko,none⟩) I T::Value.pointer (some ⟨d,0,none⟩)::Value.map (some (d+1))::u10::u11::u12::u13::undef::Value.int IntKind.i64 (i:Int)::Value.pointer (some ⟨wr.heap.size,0,none⟩)::u 10::u18::u19::Value.agg #[Value.slice a1 n1 c1,Value.slice a2 n2 c2,Value.slice (some ⟨bb,ay,none⟩) n3 c3,Value.int IntKind.i64 G.start]::Value.bool true::Value.bool false::undef::Value.agg #[Value.slice a1 n1 c1,Value.slice a2 n2 c2,Value.slice (some ⟨bb,ay,none⟩) n3 c3,Value.int IntKind.i64 G.start]::Value.slice (some ⟨gP,0,none⟩) n2 n2::Value.agg #[Value.slice a1 n1 c1,Value.slice a2 n2 c2,Value.slice (some ⟨bb,ay,none⟩) n3 c3,Value.int IntKind.i64 G.start]::Value.slice (some ⟨gQ,0,none⟩) n2 n2::Value.slice (some ⟨gP,0,none⟩) n2 n2::Value.pointer (some ⟨w.heap.size,3,none⟩)::Value.int IntKind.i64 (st:Int)::Value.pointer (some ⟨gP,st,none⟩)::Value.bool true::Value.bool false::undef::Value.pointer (some ⟨w.heap.size,0,none⟩)::Value.slice a1 n1 c1::Value.slice M n1 O::Value.agg #[Value.slice M n1 O,Value.slice none 0 0,Value.slice none 0 0,Value.int IntKind.i64 0]::Value.map (some (d+1))::Value.pointer (some ⟨w.heap.size,2,none⟩)::Value.slice (some ⟨bb,ay,none⟩) n3 c3::Value.int IntKind.i64 (n3:Int)::Value.int IntKind.i64 (n3:Int)::Value.bool false::u45::u46::u47::u48::u49::u50::u51::u52::u53::u54::u55::u56::u57::u58::u59::u60::u61::u62::u63::u64::u65::u66::u67::u68::u69::u70::u71::u72::u73::u74::u75::u76::u77::u78::u79::u80::u81::u82::u83::u84::u85::u86::u87::u88::u89::u90::Value.slice (some ⟨kb,ko,none⟩) I T::Value.int IntKind.i64 (I:Int)::Value.int IntKind.i64 (q:Int)::Value.bool true::Value.pointer (some ⟨kb,ko+q,none⟩)::Value.int IntKind.i64 (i:Int)::Value.pointer (some ⟨w.heap.size,2,none⟩)::Value.slice (some ⟨bb,ay,none⟩) n3 c3::Value.int IntKind.i64 (i:Int)::Value.pointer (some ⟨bb,ay+i * 3,none⟩)::Value.agg #[Value.int IntKind.i64 (f:Int),Value.slice Ar r.right.length cr,Value.int IntKind.i64 r.prec]::u 0::u 1::u 2::u 3::u 4::u 5::u 6::u 7::u 8::u 9::u112::u113::u114::u115::u116::u117::u118::u119::u120::u121::u122::u123::u124::u125::u126::u127::u128::u129::u130::u131::u132::u133::u134::u135::u136::u137::u138::undef::undef::undef::undef::undef::undef::undef::[]).toArray,[]⟩:Act)) [u102,u103,u104,u105,u106,u107,u108,u109,u110,u111,u17] [fun v X=>v=Value.map (some (d+1)),fun v X=>v=Value.pointer (some ⟨wr.heap.size,0,none⟩),fun v X=>v=Value.int .i64 (f:Int),fun v X=>v=Value.int .i64 tl,fun v X=>v=Value.pointer (some ⟨wr.heap.size,1,none⟩),fun v X=>v=Value.slice Ar r.right.length cr,fun v X=>∃ B z,v=Value.slice B r.right.length z∧World.ownsRow X C.heap.size 3 1 (Value.slice B r.right.length z) r.right.length (ints .i64 r.right),fun v X=>v=Value.pointer (some ⟨wr.heap.size,2,none⟩),fun v X=>v=Value.int .i64 r.prec,fun v X=>∃ B z,v=Value.agg #[Value.int .i64 tl,Value.slice B r.right.length z,Value.int .i64 r.prec]∧World.ownsRow X C.heap.size 3 1 (Value.slice B r.right.length z) r.right.length (ints .i64 r.right),fun v X=>∃ H,v=Value.pointer (some ⟨H,0,none⟩)∧C.heap.size≤H∧Blk X H 52 #[.int .i64 0, .slice none 0 0, .int .i64 0]] (fun u X=>∃ B z H,u 10=Value.pointer (some ⟨H,0,none⟩)∧C.heap.size≤H∧Blk X H 52 #[Value.int .i64 tl,Value.slice B r.right.length z,Value.int .i64 r.prec]∧World.ownsRow X C.heap.size 3 1 (Value.slice B r.right.length z) r.right.length (ints .i64 r.right)∧Below C.heap.size C X) (l:=[_,_,_,_,_,_,_,_,_,_,_]) (by kernel_rfl) (by kernel_rfl) (by kernel_rfl) rfl rfl (Below.refl _ _).drew ⟨fun _ _ _ h _=>h,fun _ _ _ h _=>h,fun _ _ _ h _=>h,fun _ _ _ h _=>h,fun _ _ _ h _=>h,fun _ _ _ h _=>h,(fun _ _ _ ⟨A,c,e,h⟩ a=>⟨A,c,e,own_keep h fun b _ hl=>a.block b hl⟩),fun _ _ _ h _=>h,fun _ _ _ h _=>h,(fun _ _ _ ⟨A,c,e,h⟩ a=>⟨A,c,e,own_keep h fun b _ hl=>a.block b hl⟩),(fun _ _ _ ⟨g,e,h,h2⟩ a=>⟨g,e,h,Blk.ext h2 a⟩),trivial⟩ ?_ ?_ ?_
       · refine StepsF.cons rfl (fun _ _=>rfl) (fun Q u X o y KK E=>?_) ?_
         · go_simp
           exact E _ _ o (Below.refl _ _) rfl
         refine StepsF.cons rfl (fun _ _=>rfl) (fun Q u X o y KK E=>?_) ?_
         · go_simp
           exact E _ _ o (Below.refl _ _) rfl
         refine StepsF.cons rfl (fun _ _=>rfl) (fun Q u X o y KK E=>?_) ?_
         · have p1:u 1=_:=y 1 rfl
           clear y
           generalize u 1=x1 at *
           subst p1
           have fe:=(o.cell (p:=⟨wr.heap.size,0,none⟩) xl).trans x0
           go_simp
           exact E _ _ o (Below.refl _ _) rfl
         refine StepsF.cons rfl (fun _ _=>rfl) (fun Q u X o y KK E=>?_) ?_
         · have p0:u 0=_:=y 0 rfl
           have p2:u 2=_:=y 2 rfl
           clear y
           generalize u 0=x0 at *
           subst p0
           generalize u 2=x2 at *
           subst p2
           have j3:=ht.out X o
           go_simp
           exact E _ _ o (Below.refl _ _) rfl
         refine StepsF.cons rfl (fun _ _=>rfl) (fun Q u X o y KK E=>?_) ?_
         · go_simp
           exact E _ _ o (Below.refl _ _) rfl
         refine StepsF.cons rfl (fun _ _=>rfl) (fun Q u X o y KK E=>?_) ?_
         · have p4:u 4=_:=y 4 rfl
           clear y
           generalize u 4=x4 at *
           subst p4
           have fe:=(o.cell (p:=⟨wr.heap.size,1,none⟩) xl).trans x1
           go_simp
           exact E _ _ o (Below.refl _ _) rfl
         refine StepsF.cons rfl (fun _ _=>rfl) (fun Q u X o y KK E=>?_) ?_
         · have p5:u 5=_:=y 5 rfl
           clear y
           generalize u 5=x5 at *
           subst p5
           have mi:=lh.out.below o
           go_simp
           (with_reducible refine (tr_Clone Ar r.right.length cr r.right X mi (by omega)).mono ?_)
           rintro e w2 ⟨v2,rfl,ka,b9⟩
           obtain ⟨B,z,rfl⟩:=own_form ka
           have mg:=own_mono ka o.size
           go_simp
           exact E _ _ (below_tail o b9) b9 ⟨B,z,rfl,mg⟩
         refine StepsF.cons rfl (fun _ _=>rfl) (fun Q u X o y KK E=>?_) ?_
         · go_simp
           exact E _ _ o (Below.refl _ _) rfl
         refine StepsF.cons rfl (fun _ _=>rfl) (fun Q u X o y KK E=>?_) ?_
         · have p7:u 7=_:=y 7 rfl
           clear y
           generalize u 7=x7 at *
           subst p7
           have fe:=(o.cell (p:=⟨wr.heap.size,2,none⟩) xl).trans x2
           go_simp
           exact E _ _ o (Below.refl _ _) rfl
         refine StepsF.cons rfl (fun _ _=>rfl) (fun Q u X o y KK E=>?_) ?_
         · have p3:u 3=_:=y 3 rfl
           obtain ⟨B,z,p6,a7⟩:=y 6 rfl
           have p8:u 8=_:=y 8 rfl
           clear y
           generalize u 3=x3 at *
           subst p3
           generalize u 6=x6 at *
           subst p6
           generalize u 8=x8 at *
           subst p8
           go_simp
           exact E _ _ o (Below.refl _ _) ⟨B,z,rfl,a7⟩
         refine StepsF.cons rfl (fun _ _=>rfl) (fun Q u X o y KK E=>?_) ?_
         · go_simp
           exact E _ _ (below_alloc o _) (alloc_below _ _) ⟨_,rfl,o.size,Blk.new _ _ _⟩
         exact StepsF.nil
       · intro Q u X o y KK E
         obtain ⟨B,z,p9,a7⟩:=y 9 (by decide)
         obtain ⟨H,m0,jw,U⟩:=y 10 (by decide)
         clear y
         generalize u 9=x9 at *
         subst p9
         generalize u 10=nh at *
         subst m0
         have fe:X.cell? ⟨H,0,none⟩=some (.int .i64 0):=U.cell 0
         have nn:X.cell? ⟨H,1,none⟩=some (.slice none 0 0):=U.cell 1
         have np:X.cell? ⟨H,2,none⟩=some (.int .i64 0):=U.cell 2
         have nv:=U.frozen 0
         have nw:=U.frozen 1
         have nx:=U.frozen 2
         have oy:=U.lt
         have j8:=(Off.of_set X H 0 (.int .i64 tl)).trans (Off.of_set _ H 1 (.slice B r.right.length z)) fun _ _ h=>h
         have f9:=j8.trans (Off.of_set _ H 2 (.int .i64 r.prec)) fun _ _ h=>h
         have kw:=LH (And.intro jw (And.intro (((U.set 0 (.int .i64 tl)).set 1 (.slice B r.right.length z)).set 2 (.int .i64 r.prec)) (And.intro (f9.row a7 fun b a e=>own_blk_ne a7 a U (by decide) e) (o.trans (f9.is_below o.size fun k hk=>by omega)))))
         clear j8 f9 U a7
         go_simp
         exact E (fun i=>([u 0,u 1,u 2,u 3,u 4,u 5,u 6,u 7,u 8,Value.agg #[Value.int .i64 tl,Value.slice B r.right.length z,Value.int .i64 r.prec],Value.pointer (some ⟨H,0,none⟩)]:List Value).getD i undef) _ (⟨B,z,H,rfl,kw.out⟩)
       intro u W9 l4
       generalize u 10=nh at *
       obtain ⟨B,z,H,rfl,jw,U,a7,jb⟩:=l4
       have HY:=LH U
       have dg:=LH a7
       have c8:=LH jb
       have D:W9.cell? ⟨H,1,none⟩=some (.slice B r.right.length z):=U.cell 1
       have yl:=U.lt
       clear U a7 jb x0 x1 x2 ht
       have n4:=dh.out.cap
       go_wp2_with fail
       clear D
       obtain ⟨wE,mr⟩:∃ x,x=wr:=⟨wr,rfl⟩
       subst mr
       have ma:ints .i64 (((r.right.take 0).map (redS (oldN G)))++r.right.drop 0)=ints .i64 r.right:=by simp
       have jv:d+1 < C.heap.size:=db.out.lt
       go_loopw [115] (fun i wz=>∃ kk:Nat,kk≤r.right.length∧i = .int .i64 (kk:Int)∧Hid (Off (fun k=>(Value.slice B r.right.length z).ownBlock=some k) W9 wz)∧Hid (wz.ownsRow C.heap.size 3 1 (.slice B r.right.length z) r.right.length (ints .i64 (((r.right.take kk).map (redS (oldN G)))++r.right.drop kk)))) (fun i _=>r.right.length - (intOf i).toNat)
       case atStart=>exact ⟨0,Nat.zero_le _,rfl,LH (Off.refl _ _),LH (by rw [ma];exact dg.out)⟩
       case round =>
        obtain ⟨kk,j0,rfl,bv,Ho⟩:=hrel
        have dd:=LH (bv.out.blk HY.out fun e=>own_blk_ne dg.out e HY.out (by decide) rfl)
        have D:wr.cell? ⟨H,1,none⟩=some (.slice B r.right.length z):=dd.out.cell 1
        have pl:=dd.out.lt
        have n5:=(own_sl Ho.out).2
        by_cases f6:kk < r.right.length
        case pos =>
         obtain ⟨gC,u,rfl,n8,n9,Hu,cu,fu⟩:=own_at Ho.out (j:=kk) f6
         obtain ⟨V,b5⟩:∃ V,Hid (r.right[kk]? = some V):=⟨_,LH (List.getElem?_eq_getElem f6)⟩
         have cf:(((r.right.take kk).map (redS (oldN G)))++r.right.drop kk)[kk]? = some V:=by
          rw [List.getElem?_append_right (by rw [List.length_map,List.length_take];omega),List.length_map,List.length_take,Nat.min_eq_left j0,Nat.sub_self,List.getElem?_drop,Nat.add_zero]
          exact b5.out
         have hu:u = .int .i64 V:=by have:=Hu.out;unfold ints at this;rw [List.getElem?_map,cf] at this;exact (Option.some.inj this).symm
         subst hu
         have mj:=fc.out V (List.mem_of_getElem? b5.out)
         have df:Hid ((((r.right.take kk).map (redS (oldN G)))++r.right.drop kk).set kk (redS (oldN G) V)=((r.right.take (kk+1)).map (redS (oldN G)))++r.right.drop (kk+1)):=LH (by
          have hd:r.right.drop kk=V::r.right.drop (kk+1):=by
           have h1:=List.getElem?_eq_some_iff.1 b5.out
           rw [List.drop_eq_getElem_cons h1.1,h1.2]
          rw [hd,List.set_append_right _ _ (by simp;omega),List.length_map,List.length_take,Nat.min_eq_left j0,Nat.sub_self,take_snoc' b5.out,List.map_append,List.append_assoc]
          rfl)
         by_cases h0:0≤V
         · as_aux_lemma =>
            have cl:redS (oldN G) V=V:=by unfold redS;rw [if_neg (by omega)]
            have mc:¬ (V < 0):=by omega
            have li:Hid ((((r.right.take kk).map (redS (oldN G)))++r.right.drop kk)=((r.right.take (kk+1)).map (redS (oldN G)))++r.right.drop (kk+1)):=LH (by
             have h9:=df.out
             rw [cl] at h9
             rw [← h9]
             refine List.ext_getElem? fun j=>?_
             by_cases hj:kk=j
             · subst hj
               rw [List.getElem?_set_self (by have:=(List.getElem?_eq_some_iff.1 cf).1;exact this),cf]
             · rw [List.getElem?_set_ne hj])
            clear cl cf df
            go_wp2_with fail
            go_roundw
            case rel=>exact ⟨kk+1,by omega,by go_num,bv,LH (by rw [← li.out];exact Ho.out)⟩
            case measure=>simp [intOf];omega
         · as_aux_lemma =>
            obtain ⟨jp,ob,j5,hw⟩:=non_place (s:=V) (n:=n2) (by omega) mj.1 (by omega)
            have cl:redS (oldN G) V=-1 - toI (oldN G) jp:=by unfold redS;rw [if_pos (by omega),j5]
            have jy:jp ∈ oldN G:=by rw [← j5];exact kept_sym ad.out hv.out (List.mem_of_getElem? b5.out) (by omega)
            have jh:NumM wr (d+1) (oldN G):=(db.out.block (c8.out.block (d+1) jv)).block (bv.out.keep (d+1) (Nat.lt_of_lt_of_le jv c8.out.size) fun e=>by have:=(dg.out.lt (d+1) e).1;omega)
            have j3:=jh.look (old_nodup G) jy (by omega)
            have om:=toI_lt (oldN G) jp
            have oq:IntKind.i64.wrap (-1 - toI (oldN G) jp)=-1 - toI (oldN G) jp:=IntWalk.i64_in _ (by omega)
            have mc:V < 0:=by omega
            have ke:=own_set Ho.out kk (.int .i64 (-1 - toI (oldN G) jp))
            have mn:Hid ((wr.setCell ⟨gC,kk,none⟩ (.int .i64 (-1 - toI (oldN G) jp))).ownsRow C.heap.size 3 1 (.slice (some ⟨gC,0,none⟩) r.right.length z) r.right.length (ints .i64 (((r.right.take (kk+1)).map (redS (oldN G)))++r.right.drop (kk+1)))):=LH (by
             rw [← df.out,cl]
             have e9:ints .i64 ((((r.right.take kk).map (redS (oldN G)))++r.right.drop kk).set kk (-1 - toI (oldN G) jp))=(ints .i64 (((r.right.take kk).map (redS (oldN G)))++r.right.drop kk)).set kk (.int .i64 (-1 - toI (oldN G) jp)):=by unfold ints;rw [List.map_set]
             rw [e9]
             exact ke)
            clear cl cf df ke jh jy
            generalize toI (oldN G) jp=tj at *
            go_wp2_with fail
            go_roundw
            case rel=>exact ⟨kk+1,by omega,by go_num,LH (bv.out.trans (Off.of_set wr gC kk (.int .i64 (-1 - tj))) fun k _ h=>by rw [h];rfl),mn⟩
            case measure=>simp [intOf];omega
        case neg =>
         obtain rfl:r.right.length=kk:=by omega
         as_aux_lemma =>
          have oj:C.heap.size=wE.heap.size+1:=ml
          have fl:Below wE.heap.size wE wr:=(below_tail d6.out c8.out).trans (bv.out.is_below (by have:=c8.out.size;have:=d6.out.size;omega) fun k hk=>by have:=(dg.out.lt k hk).1;omega)
          have bx:=LH (m.out.below fl)
          obtain ⟨cs,h3,fy⟩:=bx.out.rules
          have H3:=LH h3
          have co:wr.cell? ⟨d,2,none⟩=some (.slice A3 (((keptR G).take q).map (redR (oldN G))).length ae):=bx.out.out.cell 2
          have lq:=bx.out.out.lt
          have kn:=LH bx.out.out
          have ld:Hid (((keptR G).take (q+1)).map (redR (oldN G))=((keptR G).take q).map (redR (oldN G))++[redR (oldN G) r]):=LH (by rw [take_snoc' lg.out,List.map_append];rfl)
          have hI:Ints .i64 wr B r.right.length z (r.right.map (redS (oldN G))):=by
           have:=own_sl Ho.out
           rw [List.take_of_length_le (Nat.le_refl _),List.drop_length,List.append_nil] at this
           exact this
          have b2:=LH fun w7 A7 c7 Z F a=>Red3.put bx.out (by omega) (redR (oldN G) r) (Ar:=B) (cr:=z) (by show Ints .i64 wr B (r.right.map (redS (oldN G))).length z (r.right.map (redS (oldN G)));rw [List.length_map];exact hI)
           (fun b ay a=>by have h1:=Ho.out.lt b (by rw [a];rfl);refine ⟨h1.2,by omega,fun h=>?_⟩;have:=(kj.out b h).2;omega) (w1:=w7) A7 c7 Z F a
          have pm:wr.cell? ⟨H,0,none⟩=some (.int .i64 tl):=dd.out.cell 0
          have pn:wr.cell? ⟨H,2,none⟩=some (.int .i64 r.prec):=dd.out.cell 2
          have ky:Hid ((Tryz.prog.info? 52).map (fun i=>(i.zero,i.size,i.bytes))=some (some (.agg #[.int .i64 0, .slice none 0 0, .int .i64 0]),3,40)):=LH (by kernel_rfl)
          have ow:wC.heap.size≤wr.heap.size:=by have:=fl.size;omega
          have oi:(((keptR G).take q).map (redR (oldN G))).length < 60:=by omega
          generalize ((keptR G).take q).map (redR (oldN G))=rs at *
          clear dt h3 fy fl hI
          go_wp2_with (first
           | (at_builtin;refine wpl_appendT rfl _ _ 24 rfl wC.heap.size 52 _ 3 40 Tryz.underlying24 ky.out (by decide) (by decide) A3 rs.length ae cs rfl H3.out [.int .i64 tl, .slice B r.right.length z, .int .i64 r.prec] rfl rfl (by simp [Value.oneCell']) (by omega) (by omega) (by omega) ?_;intro A7 c7 w7 Z F ha
              have b7:=kn.out.grown F (by intro e;have:=(H3.out.lt d e.symm).1;omega)
              have i1:w7.cell? ⟨d,2,none⟩=some (.slice A3 rs.length ae):=b7.cell 2
              have i2:=b7.frozen 2
              have nj:=b7.lt
              have HF:=LH (b2.out w7 A7 c7 (fun ns h1=>by rw [own_unique h1 H3.out];show w7.ownsRow _ _ _ _ _ (cs++[.int .i64 (redR (oldN G) r).left, .slice B (r.right.map (redS (oldN G))).length z, .int .i64 r.prec]);rw [ll.out,List.length_map];exact Z) F ha)
              clear b7 Z F ha))
          go_roundw
          case rel=>exact ⟨q+1,A7,c7,by omega,by go_num,LH (by rw [ld.out];exact HF.out)⟩
          case measure=>simp [intOf];omega
     case neg =>
      as_aux_lemma =>
       obtain rfl:I=q:=by omega
       have d2:=LH (m.out.off.row c9.out fun b a h=>by have:=(c9.out.lt b a).1;omega)
       have js:((keptR G).take I).map (redR (oldN G))=(keptR G).map (redR (oldN G)):=by rw [List.take_of_length_le (by rw [g4.out];exact Nat.le_refl _)]
       rw [js] at m dt
       have j3:=d3.out.look (old_nodup G) lk.out (by omega)
       have o0:wr.cell? ⟨d,0,none⟩=some (.slice M n1 O):=m.out.out.cell 0
       have o1:wr.cell? ⟨d,1,none⟩=some (.slice N (oldN G).length P):=m.out.out.cell 1
       have o2:wr.cell? ⟨d,2,none⟩=some (.slice A3 I ae):=by have:=m.out.out.cell 2;rw [dt] at this;exact this
       have o3:wr.cell? ⟨d,3,none⟩=some (.int .i64 0):=m.out.out.cell 3
       have o8:=m.out.out.frozen 3
       have ol:=m.out.out.lt
       have au:Blk wr (w.heap.size+1) 26 #[.slice none 0 0, .slice none 0 0, .slice none 0 0, .int .i64 0]:=Blk.ext W.out R.out
       have r0:wr.cell? ⟨w.heap.size+1,0,none⟩=some (.slice none 0 0):=au.cell 0
       have r1:wr.cell? ⟨w.heap.size+1,1,none⟩=some (.slice none 0 0):=au.cell 1
       have r2:wr.cell? ⟨w.heap.size+1,2,none⟩=some (.slice none 0 0):=au.cell 2
       have r3:wr.cell? ⟨w.heap.size+1,3,none⟩=some (.int .i64 0):=au.cell 3
       have f0:=au.frozen 0
       have f1:=au.frozen 1
       have f2:=au.frozen 2
       have f3:=au.frozen 3
       have nz:=au.lt
       have ny:=W.out.lt
       have ly:w.heap.size+1 ≠ d:=by omega
       rw [lj.out] at y3
       have lf:Hid ((redG G).start=toI (oldN G) st):=LH (by show toI (oldN G) G.start.toNat=_;rw [b4.out])
       have ga:redOK G=true:=fa.out
       have hH:=Gr.fits (red_right di.out (by have:=ga;unfold redOK at this;rw [Bool.and_eq_true] at this;exact this.2))
       have lb:=LH ga
       have fr:=m.out.off.row kq.out fun b a h=>by have:=d4.out b a;omega
       have fn:=m.out.off.row g0.out fun b a h=>by have:=(g0.out.lt b a).1;omega
       have br:∀ wF,Off (fun k=>k=d∨k=w.heap.size+1) wr wF→GrAt wF ⟨M,n1,O,N,(oldN G).length,P,A3,I,ae⟩ (redG G):=fun wF ch=>by
        obtain ⟨cs,h3,fy⟩:=m.out.rules
        refine ⟨own_trms (ch.row fr fun b a h=>by have h1:=d4.out b a;have h2:=(fr.lt b a).1;omega),?_,?_,fun r hr s hs=>?_⟩
        · have:=own_sl (ch.row fn fun b a h=>by have h1:=(fn.lt b a).1;omega)
          rw [show ((oldN G).map fun i=>Value.string (nameO G i))=((oldN G).map (nameO G)).map Value.string by rw [List.map_map];rfl] at this
          exact this
        · have:=own_ruls (ch.row h3 fun b a h=>by have h1:=(h3.lt b a).1;omega) (fy.keep ch.size fun k hk ha=>⟨ch.keep k hk fun h=>by have h1:=ha.1;omega,ha⟩)
          rw [dt] at this
          exact this
        · have h1:=hH.sym r hr s hs
          have h2:=hH.n2
          have h3:=hH.n1
          unfold InI64
          omega
       have kx:=LH br
       generalize toI (oldN G) st=ts at *
       clear js fr fn br ga hH
       go_wp2_with fail
       have dr:=Off.of_set wr d 3 (.int .i64 ts)
       have s0:=Off.of_set (wr.setCell ⟨d,3,none⟩ (.int .i64 ts)) (w.heap.size+1) 0 (.slice M n1 O)
       have s1:=s0.trans (Off.of_set _ (w.heap.size+1) 1 (.slice N (oldN G).length P)) fun _ _ h=>h
       have s2:=s1.trans (Off.of_set _ (w.heap.size+1) 2 (.slice A3 I ae)) fun _ _ h=>h
       have s3:=s2.trans (Off.of_set _ (w.heap.size+1) 3 (.int .i64 ts)) fun _ _ h=>h
       have bq:Below w.heap.size w (wr.setCell ⟨d,3,none⟩ (.int .i64 ts)):=al.out.trans (dr.is_below al.out.size fun k hk=>by omega)
       have lz:Blk (wr.setCell ⟨d,3,none⟩ (.int .i64 ts)) (w.heap.size+1) 26 #[.slice none 0 0, .slice none 0 0, .slice none 0 0, .int .i64 0]:=dr.blk (Blk.ext W.out R.out) ly
       refine bodyPost_ret (results_cell2 (p:=2) (u:=3) (v:=4) (by kernel_rfl) _ _ (w.heap.size+1) 26 #[.slice M n1 O, .slice N (oldN G).length P, .slice A3 I ae, .int .i64 ts] (0,0) _ rfl (Blk.set (Blk.set (Blk.set (Blk.set lz 0 (.slice M n1 O)) 1 (.slice N (oldN G).length P)) 2 (.slice A3 I ae)) 3 (.int .i64 ts)) Tryz.underlying26 rfl (by kernel_rfl)) rfl ?_
       refine ⟨bq.trans (s3.is_below bq.size fun k hk=>by omega), .inr ⟨lb.out,⟨M,n1,O,N,(oldN G).length,P,A3,I,ae⟩,Ak,I,T,?_,?_,j4,by simp only [];omega,by simp only [];omega,by rw [k6.out];exact own_sl (s3.row (dr.row d2.out fun b a h=>by have:=(d2.out.lt b a).1;omega) fun b a h=>by have:=(d2.out.lt b a).1;omega)⟩⟩
       · rw [lf.out];rfl
       · exact kx.out _ ((offX dr s3))
theorem tr_Reduce (h:GH) (G:Gr) (w:World) (c:GrAt w h G) (f:∀ t ∈ G.terms,t.name.size≤maxLen) (h1:h.n1≤100) (a:h.n2≤100) (b:h.n3≤100) :
 Calls Tryz.prog 57 #[GV h G.start] w (RetRed G w):=(tr_ReduceK h G w c f h1 a b).mono fun e w' d=>d.plain
end Go.Proofs.YtggbjdmpjidhgaaGreatDoor
