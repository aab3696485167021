/- reachable: the reference's, walked. -/
import Derived.Test.YtggbjdmpjidhgaaGreatDoorQGrN1
import Derived.Test.YtggbjdmpjidhgaaGreatDoorQGrP2
set_option linter.unusedVariables false
set_option linter.unusedSimpArgs false
set_option maxHeartbeats 8000000
set_option maxRecDepth 100000
namespace Go.Proofs.YtggbjdmpjidhgaaGreatDoor
open Go.RowKit
def nonsI (ss:List Int):List Int:=(ss.filter fun s=>decide (s < 0)).map fun s=>-1 - s
theorem nonsI_take {ss:List Int} {k:Nat} {s:Int} (h:ss[k]? = some s):nonsI (ss.take (k+1))=if s < 0 then nonsI (ss.take k)++[-1 - s] else nonsI (ss.take k):=by
 unfold nonsI
 rw [List.take_add_one,h]
 by_cases h0:s < 0
 · simp [h0,List.filter_append]
 · simp [h0,List.filter_append]
def goesP (P:List Bool) (r:Rul) (N:List Bool):Bool:=N.getD r.left.toNat false && allP true P r.right
def reachI (P:List Bool) (r:Rul) (N:List Bool):List Int:=if goesP P r N then nonsI r.right else []
def startN (G:Gr):List Bool:=(List.replicate G.nons.length false).set G.start.toNat true
def reachN (G:Gr):List Bool:=iter (passI (reachI (prodN G)) G.rules) G.nons.length (startN G)
theorem grownN_len (b:Bool) (G:Gr):(grownN b G).length=G.nons.length:=by unfold grownN;rw [iterN_len];simp
theorem prodN_len (G:Gr):(prodN G).length=G.nons.length:=grownN_len true G
theorem passI_len' (ids:Rul→List Bool→List Int) (rs:List Rul) (N:List Bool):(passI ids rs N).length=N.length:=(passI_grows ids rs).len N
theorem getD_set_true {N:List Bool} {i j:Nat} (h:N.getD i false=true):(N.set j true).getD i false=true:=by
 rw [List.getD_eq_getElem?_getD] at h ⊢
 cases hx:N[i]? with
 | none=>rw [hx] at h;simp at h
 | some x =>
   rw [hx] at h
   simp at h
   subst h
   have:=(LeB.set N j).2 i hx
   rw [this]
   rfl
theorem setI_getD {N:List Bool} (l:List Int) {i:Nat} (h:N.getD i false=true):(setI N l).getD i false=true:=by
 induction l generalizing N with
 | nil=>exact h
 | cons s l ih=>exact ih (getD_set_true h)
theorem rf_Reachable (h:GH) (G:Gr) (w:World) (hg:GrAt w h G) (h1:h.n1≤100) (h2:h.n2≤100) (h3:h.n3≤100) :
 Calls Tryz.prog 110 #[GV h G.start] w fun e w'=>Below w.heap.size w w' ∧
  ((G.right=false∧e = .returned (.slice none 0 0))∨(G.right=true∧∃ g,w.heap.size≤g∧e = .returned (.slice (some ⟨g,0,none⟩) h.n2 h.n2)∧BoolT w' g (reachN G))):=by
 obtain ⟨a1,n1,c1,a2,n2,c2,a3,n3,c3⟩:=h
 have e2:G.nons.length=n2:=hg.nons.len
 have e3:G.rules.length=n3:=hg.rules.len
 have k3:=hg.rules.cap
 have k2:=hg.nons.cap
 simp only [] at h1 h2 h3 k3 k2
 have Hg:=LH hg
 have hB0:=alloc_below w (.cells #[.slice a1 n1 c1, .slice a2 n2 c2, .slice a3 n3 c3, .int .i64 G.start] 26)
 have hbox:=GBox.new w 26 ⟨a1,n1,c1,a2,n2,c2,a3,n3,c3⟩ G.start
 have hmk:=make_bools n2 (by omega)
 clear hg
 go_enter Tryz.func110,Tryz.ntmps110
 have ⟨z5,z0,z1,z2,z3⟩:=hbox
 simp only [] at z0 z1 z2 z3
 go_wp2_with fail
 generalize w.alloc (.cells #[.slice a1 n1 c1, .slice a2 n2 c2, .slice a3 n3 c3, .int .i64 G.start] 26)=W0 at *
 (with_reducible refine (rf_right9 ⟨a1,n1,c1,a2,n2,c2,a3,n3,c3⟩ G W0 (Hg.out.below hB0) (by simp only [];omega) (by simp only [];omega) (by simp only [];omega)).mono ?_)
 rintro e W1 ⟨rfl,hb1⟩
 have hB1:=below_tail hB0 hb1
 have hbx1:=hbox.below hb1
 clear z0 z1 z2 z3 z5 hbox
 have ⟨y5,y0,y1,y2,y3⟩:=hbx1
 simp only [] at y0 y1 y2 y3
 rcases hrt:G.right with _ | _
 · go_wp2_with fail
   go_ret
   exact ⟨hB1, .inl ⟨hrt,rfl⟩⟩
 have hfit:=Gr.fits hrt
 have hst:=hfit.st
 have Hrt:=LH hrt
 have Hfit:=LH hfit
 obtain ⟨js,hjs⟩:∃ js:Nat,G.start=(js:Int):=⟨G.start.toNat,by omega⟩
 have hjs2:js < n2:=by omega
 have HJs:=LH hjs
 clear hjs
 have cP:=(rf_Productive ⟨a1,n1,c1,a2,n2,c2,a3,n3,c3⟩ G W1 (Hg.out.below hB1) (by simp only [];omega) (by simp only [];omega) (by simp only [];omega)).mono fun e w' hh=>And.intro hh.1 (hh.2.resolve_left fun hc=>by rw [Hrt.out] at hc;cases hc.1).2
 have CP:=LH cP
 clear hrt hfit cP
 go_wp2_with fail
 (with_reducible refine CP.out.mono ?_)
 rintro e W2 ⟨hb2,gp,hgp,rfl,hP⟩
 have hB2:=below_tail hB1 hb2
 have hbx2:=hbx1.below hb2
 clear y0 y1 y2 y3 y5 hbx1
 have hT0:=BoolT.new W2 (List.replicate n2 false)
 have hB20:=alloc_below W2 (.cells (bools (List.replicate n2 false)).toArray 4)
 have hP0:BoolT (W2.alloc (.cells (bools (List.replicate n2 false)).toArray 4)) gp (prodN G):=Blk.ext hP hB20
 have hbx3:=hbx2.below hB20
 have ⟨y5,y0,y1,y2,y3⟩:=hbx2
 simp only [] at y0 y1 y2 y3
 have hgp2:gp < W2.heap.size:=hP.lt
 go_upto_region 5 with fail
 generalize W2.alloc (.cells (bools (List.replicate n2 false)).toArray 4)=W3 at *
 clear y0 y1 y2 y3 y5
 have ⟨y5,y0,y1,y2,y3⟩:=hbx3
 simp only [] at y0 y1 y2 y3
 rw [HJs.out] at y3
 have hsz3:=hT0.lt
 have hfz:=Blk.frozen hT0 js
 have hat:=hT0.at (i:=js) (by simpa using hjs2)
 have hput:=hT0.put js true
 have hB3:=bD_set hB20 (Nat.le_refl _) W2.heap.size js (.bool true) (Nat.le_refl _)
 have hstart:startN G=(List.replicate n2 false).set js true:=by unfold startN;rw [e2,HJs.out];rfl
 rw [← hstart] at hput
 have Hput:=LH hput
 have HB3:=LH hB3
 have HP2:=LH hP
 have HB2:=LH hB2
 have Hbx2:=LH hbx2
 clear hput hB3 hP hP0 hB20 hB2 hbx2 hbx3 hstart hmk hT0
 have hsl:(startN G).length=n2:=by unfold startN;simp [e2]
 have Hsl:=LH hsl
 clear hsl
 go_wp2_with fail
 generalize W3.setCell ⟨W2.heap.size,js,none⟩ (.bool true)=W4 at *
 generalize hgi:W2.heap.size=gI at *
 have HgI:=LH hgi
 clear hgi y0 y1 y2 y3 y5 hfz hat
 have hlG:=Hput.out.lt
 go_loopw [5] (fun i wr=>∃ k:Nat,k≤n2∧i = .int .i64 (k:Int)∧Hid (Below gI W2 wr)∧Hid (BoolT wr gI (iter (passI (reachI (prodN G)) G.rules) k (startN G)))) (fun i _=>n2 - (intOf i).toNat)
 case atStart=>exact ⟨0,Nat.zero_le _,rfl,HB3,Hput⟩
 case round =>
  obtain ⟨k,hk,rfl,HB,HT⟩:=hrel
  have hbx:=Hbx2.out.below (by rw [HgI.out];exact HB.out)
  have ⟨y5,y0,y1,y2,y3⟩:=hbx
  simp only [] at y0 y1 y2 y3
  by_cases hkk:k < n2
  case neg =>
   obtain rfl:k=n2:=by omega
   have Hfin:Hid (reachN G=iter (passI (reachI (prodN G)) G.rules) k (startN G)):=LH (by unfold reachN;rw [e2])
   go_wp2_with fail
   go_ret
   exact ⟨HB2.out.trans (HB.out.mono (by rw [← HgI.out];exact HB2.out.size)), .inr ⟨Hrt.out,gI,by rw [← HgI.out];exact HB2.out.size,rfl,by rw [Hfin.out];exact HT.out⟩⟩
  case pos =>
   have hNl:(iter (passI (reachI (prodN G)) G.rules) k (startN G)).length=n2:=by rw [iterI_len];exact Hsl.out
   have Hit:Hid (passI (reachI (prodN G)) G.rules (iter (passI (reachI (prodN G)) G.rules) k (startN G))=iter (passI (reachI (prodN G)) G.rules) (k+1) (startN G)):=LH rfl
   generalize iter (passI (reachI (prodN G)) G.rules) k (startN G)=N at *
   have HNl:=LH hNl
   clear hNl
   go_wp2_with fail
   clear y0 y1 y2 y3 y5 hbx
   go_loopw [6] (fun i wz=>∃ j:Nat,j≤n3∧i = .int .i64 (j:Int)∧Hid (Below gI W2 wz)∧Hid (BoolT wz gI (passI (reachI (prodN G)) (G.rules.take j) N))) (fun i _=>n3 - (intOf i).toNat)
   case atStart=>exact ⟨0,Nat.zero_le _,rfl,HB,LH (by simpa [passI] using HT.out)⟩
   case round =>
    clear HB HT
    obtain ⟨j,hj,rfl,HB,HT⟩:=hrel
    have hbx:=Hbx2.out.below (by rw [HgI.out];exact HB.out)
    have ⟨y5,y0,y1,y2,y3⟩:=hbx
    simp only [] at y0 y1 y2 y3
    by_cases hjj:j < n3
    case neg =>
     obtain rfl:j=n3:=by omega
     have Hf:Hid (BoolT wr gI (iter (passI (reachI (prodN G)) G.rules) (k+1) (startN G))):=LH (by rw [← Hit.out];have:=HT.out;rw [List.take_of_length_le (by omega)] at this;exact this)
     go_wp2_with fail
     go_roundw
     case rel=>exact ⟨k+1,by omega,by go_num,HB,Hf⟩
     case measure=>simp [intOf];omega
    case pos =>
     have HBw:=LH (HB2.out.trans (HB.out.mono (by rw [← HgI.out];exact HB2.out.size)))
     obtain ⟨bb,off,r,Ar,cr,rfl,hb0,Hr,q0,q1,q2,hrrw⟩:=Hg.out.rules.get hjj
     rw [← HBw.out.cell (by exact hb0)] at q0 q1 q2
     have hb:bb < wr.heap.size:=Nat.lt_of_lt_of_le hb0 HBw.out.size
     have HrrW:=LH hrrw
     have hrr:=hrrw.below HBw.out
     clear hrrw
     have hmem:=List.mem_of_getElem? Hr.out
     have hcl:(passI (reachI (prodN G)) (G.rules.take j) N).length=n2:=by rw [passI_len'];exact HNl.out
     have Hnx:Hid (passI (reachI (prodN G)) (G.rules.take (j+1)) N=setI (passI (reachI (prodN G)) (G.rules.take j) N) (reachI (prodN G) r (passI (reachI (prodN G)) (G.rules.take j) N))):=LH (by rw [take_snoc' Hr.out,passI_snoc];rfl)
     generalize passI (reachI (prodN G)) (G.rules.take j) N=cur at *
     obtain ⟨l1,l2⟩:=Hfit.out.left r hmem
     obtain ⟨jl,hjl⟩:∃ jl:Nat,r.left=(jl:Int):=⟨r.left.toNat,by omega⟩
     have hjl2:jl < n2:=by omega
     have hlen:=Hfit.out.len r hmem
     have hsy:=Hfit.out.symB hmem
     rw [e2] at hsy
     rw [hjl] at q0
     have hgo:goesP (prodN G) r cur=(cur.getD jl false && allP true (prodN G) r.right):=by unfold goesP;rw [show r.left.toNat=jl by omega]
     have Hgo:=LH hgo
     have Hrr:=LH hrr
     have Hsy:=LH hsy
     have Hcl:=LH hcl
     have hbA:=alloc_below wr (.cells #[.int .i64 (jl:Int), .slice Ar r.right.length cr, .int .i64 r.prec] 52)
     have hRb:=Blk.new wr 52 #[.int .i64 (jl:Int), .slice Ar r.right.length cr, .int .i64 r.prec]
     have hgw:gI < wr.heap.size:=HT.out.lt
     clear hgo hrr hsy hcl l1 l2 hjl hmem
     go_wp2_with fail
     have HTA:Hid (BoolT (wr.alloc (.cells #[.int .i64 (jl:Int), .slice Ar r.right.length cr, .int .i64 r.prec] 52)) gI cur):=LH (Blk.ext HT.out hbA)
     have HBA:=LH (HB.out.trans (hbA.mono (Nat.le_of_lt hgw)))
     have HRb:=LH hRb
     have HrrA:=LH (Hrr.out.below hbA)
     have hszA:=alloc_size wr (.cells #[.int .i64 (jl:Int), .slice Ar r.right.length cr, .int .i64 r.prec] 52)
     generalize wr.alloc (.cells #[.int .i64 (jl:Int), .slice Ar r.right.length cr, .int .i64 r.prec] 52)=WA at *
     generalize wr.heap.size=gR at *
     clear hbA hRb y0 y1 y2 y3 y5 q0 q1 q2 hbx HT HB
     have hlA:gI < WA.heap.size:=HTA.out.lt
     have r0:WA.cell? ⟨gR,0,none⟩=some (.int .i64 (jl:Int)):=HRb.out.cell 0
     have r1:WA.cell? ⟨gR,1,none⟩=some (.slice Ar r.right.length cr):=HRb.out.cell 1
     have hcapr:=HrrA.out.cap
     have CA:=LH fun (W:World) (M:List Bool) (hW:Below gI W2 W) (hr:Ints .i64 W Ar r.right.length cr r.right)=>rf_all Ar r.right.length cr gp n2 r.right (prodN G) true W hr (HP2.out.below hW hgp2) (by rw [prodN_len];exact e2) (by omega) Hsy.out
     rcases hgo:goesP (prodN G) r cur with _ | _
     case false =>
      have Hnx2:Hid (passI (reachI (prodN G)) (G.rules.take (j+1)) N=cur):=LH (by rw [Hnx.out];unfold reachI;rw [hgo];rfl)
      have hat:=HTA.out.at (i:=jl) (by rw [Hcl.out];exact hjl2)
      have hgo2:=Hgo.out.symm.trans hgo
      have CA1:=CA.out WA cur HBA.out HrrA.out
      generalize cur.getD jl false=tl at *
      generalize allP true (prodN G) r.right=ta at *
      have CA2:=LH CA1
      clear hgo CA1
      go_loopw [8] (fun i wz=>i = .int .i64 0∧WA=wz) (fun i _=>0)
      case atStart=>exact ⟨rfl,rfl⟩
      case round =>
       obtain ⟨rfl,rfl⟩:=hrel
       by_cases hl0:r.right.length=0
       case' pos =>
        rw [hl0] at r1
        clear hgo2
        go_wp2_with fail
       case' neg =>
        have hl1:0 < r.right.length:=by omega
        rcases (by cases tl <;> cases ta <;> simp at hgo2 ⊢:tl=false∨(tl=true∧ta=false)) with rfl | ⟨rfl,rfl⟩
        case' inl =>
         clear hgo2
         go_wp2_with fail
        case' inr =>
         clear hgo2
         go_wp2_with (go_at_call 111;(with_reducible refine CA2.out.mono ?_);rintro e w' ⟨rfl,rfl⟩)
       all_goals
        go_roundw
        case rel=>exact ⟨j+1,by omega,by go_num,HBA,LH (by rw [Hnx2.out];exact HTA.out)⟩
        case measure=>simp [intOf];omega
     case true =>
      have hgo2:=Hgo.out.symm.trans hgo
      simp only [Bool.and_eq_true] at hgo2
      obtain ⟨hg1,hg2⟩:=hgo2
      have Hnx2:Hid (passI (reachI (prodN G)) (G.rules.take (j+1)) N=setI cur (nonsI r.right)):=LH (by rw [Hnx.out];unfold reachI;rw [hgo];rfl)
      have Hg1:=LH hg1
      have Hg2:=LH hg2
      clear hgo hg1 hg2
      go_loopw [8] (fun i wz=>∃ kk:Nat,kk≤r.right.length∧i = .int .i64 (kk:Int)∧Hid (BoolT wz gI (setI cur (nonsI (r.right.take kk))))∧Hid (WA.grownBy wz (some gI))) (fun i _=>r.right.length - (intOf i).toNat)
      case atStart=>exact ⟨0,Nat.zero_le _,rfl,HTA,LH (grown_refl _ _)⟩
      case round =>
       obtain ⟨kk,hkk,rfl,HT,Hgr⟩:=hrel
       have hgRI:gR ≠ gI:=by omega
       have hRz:=HRb.out.grown Hgr.out (by intro e;injection e with e;exact hgRI e)
       have r0:wr.cell? ⟨gR,0,none⟩=some (.int .i64 (jl:Int)):=hRz.cell 0
       have r1:wr.cell? ⟨gR,1,none⟩=some (.slice Ar r.right.length cr):=hRz.cell 1
       have HBz:=LH (HBA.out.trans (grown_is_below Hgr.out (Nat.le_of_lt hlA) (Nat.le_refl _)))
       have HBzw:=LH (HB2.out.trans (HBz.out.mono (by rw [← HgI.out];exact HB2.out.size)))
       have hcl3:(setI cur (nonsI (r.right.take kk))).length=n2:=by rw [setI_len];exact Hcl.out
       have hat:=HT.out.at (i:=jl) (by rw [hcl3];exact hjl2)
       rw [setI_getD _ Hg1.out] at hat
       have hrrz:Ints .i64 wr Ar r.right.length cr r.right:=HrrW.out.below HBzw.out
       by_cases hkl:kk < r.right.length
       case neg =>
        obtain rfl:kk=r.right.length:=by omega
        have Hf:Hid (BoolT wr gI (setI cur (nonsI r.right))):=LH (by have:=HT.out;rw [List.take_of_length_le (Nat.le_refl _)] at this;exact this)
        go_wp2_with fail
        go_roundw
        case rel=>exact ⟨j+1,by omega,by go_num,HBz,LH (by rw [Hnx2.out];exact Hf.out)⟩
        case measure=>simp [intOf];omega
       case pos =>
        have cA:=CA.out wr cur HBz.out hrrz
        rw [Hg2.out] at cA
        have CA2:=LH cA
        obtain ⟨sb,so,s,rfl,hsb,Hs,qs⟩:=hrrz.get hkl
        have hs1:=Hsy.out s (List.mem_of_getElem? Hs.out)
        have hnt:=nonsI_take Hs.out
        have HT2:=HT
        have hfz:=fun jn=>Blk.frozen HT.out jn
        clear cA hcl3 hrrz hRz
        by_cases h0:s < 0
        · obtain ⟨jn,hjn,hnj,hwj⟩:=non_place h0 hs1.1 (by omega)
          have hf0:=hfz jn
          have hat2:=HT.out.at (i:=jn) (by rw [setI_len];rw [Hcl.out];exact hjn)
          have Hput:Hid (BoolT (wr.setCell ⟨gI,jn,none⟩ (.bool true)) gI (setI cur (nonsI (r.right.take (kk+1))))):=LH (by
           rw [hnt,if_pos h0,setI_snoc,show (-1 - s).toNat=jn from hnj]
           exact HT.out.put jn true)
          clear hnt hfz
          go_wp2_with (go_at_call 111;(with_reducible refine CA2.out.mono ?_);rintro e w' ⟨rfl,rfl⟩)
          go_roundw
          case rel=>exact ⟨kk+1,by omega,by go_num,Hput,LH (grown_trans Hgr.out (grown_set _ _ _ _))⟩
          case measure=>simp [intOf];omega
        · have Hst:Hid (BoolT wr gI (setI cur (nonsI (r.right.take (kk+1))))):=LH (by rw [hnt,if_neg h0];exact HT.out)
          clear hnt hfz
          go_wp2_with (go_at_call 111;(with_reducible refine CA2.out.mono ?_);rintro e w' ⟨rfl,rfl⟩)
          go_roundw
          case rel=>exact ⟨kk+1,by omega,by go_num,Hst,Hgr⟩
          case measure=>simp [intOf];omega
def nulB (N:List Bool) (s:Int):Bool:=decide (s < 0) && N.getD (nonI s) false
def bareL (N:List Bool) (ss:List Int):List Int:=ss.filter fun s=>!nulB N s
def aloneP (N:List Bool) (ss:List Int) (k:Nat):Bool:=(ss.take k).all (nulB N) && (ss.drop (k+1)).all (nulB N)
def standsR (N P:List Bool) (ss:List Int) (k:Nat) (s:Int):Bool:=decide (s < 0) && aloneP N ss k && allP true P ss
def standsP (N P:List Bool) (ss:List Int) (s:Int):Bool:=(decide (s < 0) && P.getD (nonI s) false) && (decide ((bareL N ss).length=0) || (decide ((bareL N ss).length=1) && decide ((bareL N ss)[0]? = some s)))
theorem bareL_nil {N:List Bool} {ss:List Int}:bareL N ss=[] ↔ ss.all (nulB N)=true:=by
 unfold bareL
 rw [List.filter_eq_nil_iff,List.all_eq_true]
 constructor
 · intro h s hs
   have:=h s hs
   simpa using this
 · intro h s hs
   simp [h s hs]
theorem allP_split {P:List Bool} {ss:List Int} {k:Nat} {s:Int} (hk:ss[k]? = some s):allP true P ss=(allP true P (ss.take k) && (allP true P [s] && allP true P (ss.drop (k+1)))):=by
 have e:ss=ss.take k++([s]++ss.drop (k+1)):=by
  have hlt:=(List.getElem?_eq_some_iff.1 hk).1
  have h1:ss.drop k=s::ss.drop (k+1):=by
   rw [List.drop_eq_getElem_cons hlt]
   congr 1
   exact (List.getElem?_eq_some_iff.1 hk).2
  rw [List.singleton_append,← h1,List.take_append_drop]
 conv=>lhs;rw [e]
 unfold allP
 rw [List.all_append,List.all_append]
theorem null_made {N P:List Bool} (hNP:∀ i,N.getD i false=true→P.getD i false=true) {ss:List Int} (h:ss.all (nulB N)=true):allP true P ss=true:=by
 unfold allP
 rw [List.all_eq_true] at h ⊢
 intro s hs
 have:=h s hs
 unfold nulB at this
 rw [Bool.and_eq_true] at this
 split
 · rfl
 · exact hNP _ this.2
theorem stands_eq {N P:List Bool} (hNP:∀ i,N.getD i false=true→P.getD i false=true) {ss:List Int} {k:Nat} {s:Int} (hk:ss[k]? = some s):standsP N P ss s=standsR N P ss k s:=by
 by_cases h0:s < 0
 case neg=>unfold standsP standsR;simp [h0]
 have e:bareL N ss=bareL N (ss.take k)++(bareL N [s]++bareL N (ss.drop (k+1))):=by
  have hlt:=(List.getElem?_eq_some_iff.1 hk).1
  have h1:ss.drop k=s::ss.drop (k+1):=by
   rw [List.drop_eq_getElem_cons hlt]
   congr 1
   exact (List.getElem?_eq_some_iff.1 hk).2
  have e:ss=ss.take k++([s]++ss.drop (k+1)):=by rw [List.singleton_append,← h1,List.take_append_drop]
  conv=>lhs;rw [e]
  unfold bareL
  rw [List.filter_append,List.filter_append]
 have hps:allP true P [s]=P.getD (nonI s) false:=by unfold allP;simp <;> omega
 rw [Bool.eq_iff_iff]
 unfold standsP standsR aloneP
 rw [allP_split hk,hps]
 simp only [Bool.and_eq_true,Bool.or_eq_true,decide_eq_true_eq,h0,true_and]
 have hnil:=fun l=>@bareL_nil N l
 constructor
 · rintro ⟨hp,hb⟩
   have hboth:bareL N (ss.take k)=[]∧bareL N (ss.drop (k+1))=[]:=by
    rw [e] at hb
    by_cases hn:nulB N s=true
    · have hbs:bareL N [s]=[]:=by unfold bareL;simp [hn]
      rw [hbs,List.nil_append] at hb
      rcases hb with hb | ⟨hb,hb2⟩
      · rw [List.length_eq_zero_iff,List.append_eq_nil_iff] at hb
        exact hb
      · exfalso
        have hm:=List.mem_of_getElem? hb2
        rcases List.mem_append.1 hm with hm | hm
        all_goals
         unfold bareL at hm
         rw [List.mem_filter] at hm
         simp [hn] at hm
    · have hbs:bareL N [s]=[s]:=by unfold bareL;simp [hn]
      rw [hbs] at hb
      simp only [List.length_append,List.length_cons,List.length_nil] at hb
      rcases hb with hb | ⟨hb,hb2⟩
      · omega
      · exact ⟨List.length_eq_zero_iff.1 (by omega),List.length_eq_zero_iff.1 (by omega)⟩
   have h1:=(hnil _).1 hboth.1
   have h2:=(hnil _).1 hboth.2
   exact ⟨⟨h1,h2⟩,null_made hNP h1,hp,null_made hNP h2⟩
 · rintro ⟨⟨h1,h2⟩,h3,hp,h4⟩
   refine ⟨hp,?_⟩
   rw [e,(hnil _).2 h1,(hnil _).2 h2,List.nil_append,List.append_nil]
   by_cases hn:nulB N s=true
   · left
     unfold bareL
     simp [hn]
   · right
     unfold bareL
     simp [hn]
theorem allP_mono {N M:List Bool} (h:∀ i,N.getD i false=true→M.getD i false=true) {ss:List Int} (hs:allP false N ss=true):allP true M ss=true:=by
 unfold allP at hs ⊢
 rw [List.all_eq_true] at hs ⊢
 intro s hm
 have:=hs s hm
 split
 · rfl
 · rename_i h0
   rw [if_neg h0] at this
   exact h _ this
def Le' (N M:List Bool):Prop:=N.length=M.length∧∀ i,N.getD i false=true→M.getD i false=true
theorem set_getD (N:List Bool) (j i:Nat):(N.set j true).getD i false=true ↔ (N.getD i false=true∨(i=j∧j < N.length)):=by
 rw [List.getD_eq_getElem?_getD,List.getD_eq_getElem?_getD,List.getElem?_set]
 by_cases hij:j=i
 · subst hij
   by_cases hl:j < N.length
   · simp [hl]
   · simp [hl,List.getElem?_eq_none (show N.length≤j by omega)]
 · rw [if_neg hij]
   constructor
   · exact .inl
   · rintro (h | ⟨h,_⟩)
     · exact h
     · exact absurd h.symm hij
theorem growN_le {r:Rul} {N M:List Bool} (h:Le' N M):Le' (growN (bareP false) r N) (growN (bareP true) r M):=by
 refine ⟨by rw [(growN_grows _ r).len,(growN_grows _ r).len];exact h.1,fun i hi=>?_⟩
 unfold growN at hi ⊢
 by_cases hc:bareP false r N=true
 · rw [if_pos hc,set_getD] at hi
   have hc2:bareP true r M=true:=allP_mono h.2 hc
   rw [if_pos hc2,set_getD]
   rcases hi with hi | ⟨hi,hj⟩
   · exact .inl (h.2 i hi)
   · exact .inr ⟨hi,by rw [← h.1];exact hj⟩
 · rw [if_neg hc] at hi
   split
   · rw [set_getD];exact .inl (h.2 i hi)
   · exact h.2 i hi
theorem passN_le {rs:List Rul} {N M:List Bool} (h:Le' N M):Le' (passN (bareP false) rs N) (passN (bareP true) rs M):=by
 induction rs generalizing N M with
 | nil=>exact h
 | cons r rs ih=>exact ih (growN_le h)
theorem null_prod (G:Gr):∀ i,(nullN G).getD i false=true→(prodN G).getD i false=true:=by
 rw [nullN_grown]
 unfold prodN grownN
 generalize G.nons.length=n
 have:∀ k,Le' (iter (passN (bareP false) G.rules) k (List.replicate n false)) (iter (passN (bareP true) G.rules) k (List.replicate n false)):=fun k=>by
  induction k with
  | zero=>exact ⟨rfl,fun _ h=>h⟩
  | succ k ih=>exact passN_le ih
 exact (this n).2
def growSt (N P:List Bool) (r:Rul) (k:Nat) (F:List Nat):List Nat:=match r.right[k]? with
 | none=>F
 | some s=>if standsR N P r.right k s then addAt r.left.toNat (bitN (-1 - s)) F else F
def posSt (N P:List Bool) (r:Rul) (k:Nat) (F:List Nat):List Nat:=(List.range k).foldl (fun F p=>growSt N P r p F) F
theorem posSt_succ (N P:List Bool) (r:Rul) (k:Nat) (F:List Nat):posSt N P r (k+1) F=growSt N P r k (posSt N P r k F):=by
 unfold posSt
 rw [List.range_succ,List.foldl_append]
 rfl
def passSt (N P:List Bool) (rs:List Rul) (F:List Nat):List Nat:=rs.foldl (fun F r=>posSt N P r r.right.length F) F
theorem passSt_snoc (N P:List Bool) (rs:List Rul) (r:Rul) (F:List Nat):passSt N P (rs++[r]) F=posSt N P r r.right.length (passSt N P rs F):=by simp [passSt]
def stepsN (G:Gr):List Nat:=passSt (nullN G) (prodN G) G.rules (List.replicate G.nons.length 0)
theorem growSt_len (N P:List Bool) (r:Rul) (k:Nat) (F:List Nat):(growSt N P r k F).length=F.length:=by
 unfold growSt
 split
 · rfl
 · split
   · simp [addAt]
   · rfl
theorem posSt_len (N P:List Bool) (r:Rul) (F:List Nat):∀ k,(posSt N P r k F).length=F.length
 | 0=>rfl
 | k+1=>by rw [posSt_succ,growSt_len,posSt_len N P r F k]
theorem passSt_len (N P:List Bool) (rs:List Rul) (F:List Nat):(passSt N P rs F).length=F.length:=by
 induction rs generalizing F with
 | nil=>rfl
 | cons r rs ih=>show (passSt N P rs (posSt N P r r.right.length F)).length=_;rw [ih,posSt_len]
theorem stepsN_len (G:Gr):(stepsN G).length=G.nons.length:=by unfold stepsN;rw [passSt_len];simp
theorem growSt_small (N P:List Bool) (r:Rul) (k:Nat) {F:List Nat} (h:Small F):Small (growSt N P r k F):=by
 unfold growSt
 split
 · exact h
 · split
   · exact h.addAt _ (bitN_lt _)
   · exact h
theorem posSt_small (N P:List Bool) (r:Rul) {F:List Nat} (h:Small F):∀ k,Small (posSt N P r k F)
 | 0=>h
 | k+1=>by rw [posSt_succ];exact growSt_small N P r k (posSt_small N P r h k)
theorem passSt_small (N P:List Bool) (rs:List Rul) {F:List Nat} (h:Small F):Small (passSt N P rs F):=by
 induction rs generalizing F with
 | nil=>exact h
 | cons r rs ih=>exact ih (posSt_small N P r h _)
theorem stepsN_small (G:Gr):Small (stepsN G):=passSt_small _ _ _ (Small.zero _)
def setB (f:Nat→Bool) (n:Nat):Nat:=(List.range n).foldl (fun s i=>if f i then s ||| bitN (i:Int) else s) 0
theorem setB_succ (f:Nat→Bool) (n:Nat):setB f (n+1)=if f n then setB f n ||| bitN (n:Int) else setB f n:=by
 unfold setB
 rw [List.range_succ,List.foldl_append]
 rfl
theorem bitN_test (i t:Nat):(bitN (i:Int)).testBit t=(decide (i < 32) && decide (t=i)):=by
 unfold bitN
 by_cases h:i < 32
 · rw [if_pos (by omega),Int.toNat_natCast,Nat.testBit_two_pow]
   simp [h,eq_comm]
 · rw [if_neg (by omega)]
   simp [h]
theorem setB_bit (f:Nat→Bool) (n t:Nat):(setB f n).testBit t=(decide (t < 32) && (decide (t < n) && f t)):=by
 induction n with
 | zero=>simp [setB]
 | succ n ih =>
   rw [setB_succ]
   by_cases htn:t=n
   · subst htn
     cases hf:f t
     · simp [ih,hf]
     · rw [if_pos rfl,Nat.testBit_or,ih,bitN_test]
       simp
   · have e:decide (t < n+1)=decide (t < n):=by
      rw [Bool.eq_iff_iff,decide_eq_true_iff,decide_eq_true_iff];omega
     rw [e]
     split
     · rw [Nat.testBit_or,ih,bitN_test]
       simp [htn]
     · exact ih
theorem setB_lt (f:Nat→Bool):∀ n,setB f n < 4294967296
 | 0=>by simp [setB]
 | n+1=>by
   rw [setB_succ]
   split
   · exact or_lt32 (setB_lt f n) (bitN_lt _)
   · exact setB_lt f n
theorem bits_le {a b:Nat} (h:∀ t,a.testBit t=true→b.testBit t=true):a≤b:=by
 have:a &&& b=a:=by
  apply Nat.eq_of_testBit_eq
  intro t
  rw [Nat.testBit_and]
  cases ha:a.testBit t
  · rfl
  · rw [h t ha];rfl
 rw [← this]
 exact Nat.and_le_right
def fwK (i k:Nat) (F:List Nat):List Nat:=if (F.getD i 0).testBit k then addAt i (F.getD k 0) F else F
def fwR (i m:Nat) (F:List Nat):List Nat:=(List.range m).foldl (fun F k=>fwK i k F) F
def fwI (m q:Nat) (F:List Nat):List Nat:=(List.range q).foldl (fun F i=>fwR i m F) F
theorem fwR_succ (i m:Nat) (F:List Nat):fwR i (m+1) F=fwK i m (fwR i m F):=by
 unfold fwR
 rw [List.range_succ,List.foldl_append]
 rfl
theorem fwI_succ (m q:Nat) (F:List Nat):fwI m (q+1) F=fwR q m (fwI m q F):=by
 unfold fwI
 rw [List.range_succ,List.foldl_append]
 rfl
theorem fwK_len (i k:Nat) (F:List Nat):(fwK i k F).length=F.length:=by
 unfold fwK
 split
 · simp [addAt]
 · rfl
theorem fwR_len (i:Nat) (F:List Nat):∀ m,(fwR i m F).length=F.length
 | 0=>rfl
 | m+1=>by rw [fwR_succ,fwK_len,fwR_len i F m]
theorem fwI_len (m:Nat) (F:List Nat):∀ q,(fwI m q F).length=F.length
 | 0=>rfl
 | q+1=>by rw [fwI_succ,fwR_len,fwI_len m F q]
theorem fwK_small (i k:Nat) {F:List Nat} (h:Small F):Small (fwK i k F):=by
 unfold fwK
 split
 · exact h.addAt _ (h.get _)
 · exact h
theorem fwR_small (i:Nat) {F:List Nat} (h:Small F):∀ m,Small (fwR i m F)
 | 0=>h
 | m+1=>by rw [fwR_succ];exact fwK_small _ _ (fwR_small i h m)
theorem fwI_small (m:Nat) {F:List Nat} (h:Small F):∀ q,Small (fwI m q F)
 | 0=>h
 | q+1=>by rw [fwI_succ];exact fwR_small _ (fwI_small m h q) _
theorem iterFw_small (m q:Nat) {F:List Nat} (h:Small F):∀ p,Small (iter (fwI m q) p F)
 | 0=>h
 | p+1=>by rw [iter];exact fwI_small _ (iterFw_small m q h p) _
theorem iterFw_len (m q:Nat) (F:List Nat):∀ p,(iter (fwI m q) p F).length=F.length
 | 0=>rfl
 | p+1=>by rw [iter,fwI_len,iterFw_len m q F p]
theorem addAt_get (i x j:Nat) (F:List Nat):(addAt i x F).getD j 0=if j=i∧i < F.length then F.getD i 0 ||| x else F.getD j 0:=by
 unfold addAt
 rw [List.getD_eq_getElem?_getD,List.getElem?_set]
 by_cases hij:i=j
 · subst hij
   by_cases hl:i < F.length
   · simp [hl]
   · simp [hl,List.getD_eq_getElem?_getD,List.getElem?_eq_none (show F.length≤i by omega)]
 · rw [if_neg hij,if_neg (by rintro ⟨h,_⟩;exact hij h.symm),List.getD_eq_getElem?_getD]
theorem fwK_up (i k:Nat) (F:List Nat) {j t:Nat} (h:(F.getD j 0).testBit t=true):((fwK i k F).getD j 0).testBit t=true:=by
 unfold fwK
 split
 · rw [addAt_get]
   split
   · rename_i hc
     rw [Nat.testBit_or,← hc.1,h];rfl
   · exact h
 · exact h
theorem fwR_up (i:Nat) (F:List Nat) {j t:Nat} (h:(F.getD j 0).testBit t=true):∀ m,((fwR i m F).getD j 0).testBit t=true
 | 0=>h
 | m+1=>by rw [fwR_succ];exact fwK_up _ _ _ (fwR_up i F h m)
theorem fwI_up (m:Nat) (F:List Nat) {j t:Nat} (h:(F.getD j 0).testBit t=true):∀ q,((fwI m q F).getD j 0).testBit t=true
 | 0=>h
 | q+1=>by rw [fwI_succ];exact fwR_up _ _ (fwI_up m F h q) _
theorem iterFw_up (m q:Nat) (F:List Nat) {j t:Nat} (h:(F.getD j 0).testBit t=true):∀ p,((iter (fwI m q) p F).getD j 0).testBit t=true
 | 0=>h
 | p+1=>by rw [iter];exact fwI_up _ _ (iterFw_up m q F h p) _
theorem fwR_low (i:Nat) (F:List Nat) (hi:i < F.length) {k t:Nat} (h1:(F.getD i 0).testBit k=true) (h2:(F.getD k 0).testBit t=true):∀ m,k < m→((fwR i m F).getD i 0).testBit t=true
 | 0,h=>by omega
 | m+1,h=>by
   rw [fwR_succ]
   by_cases hk:k=m
   · subst hk
     unfold fwK
     rw [if_pos (fwR_up i F h1 k),addAt_get,if_pos ⟨rfl,by rw [fwR_len];exact hi⟩,Nat.testBit_or,fwR_up i F h2 k,Bool.or_true]
   · exact fwK_up _ _ _ (fwR_low i F hi h1 h2 m (by omega))
theorem fwI_low (m:Nat) (F:List Nat) {i k t:Nat} (hk:k < m) (h1:(F.getD i 0).testBit k=true) (h2:(F.getD k 0).testBit t=true):∀ q,i < q→i < F.length→((fwI m q F).getD i 0).testBit t=true
 | 0,h,_=>by omega
 | q+1,h,hl=>by
   rw [fwI_succ]
   by_cases hq:i=q
   · subst hq
     exact fwR_low i _ (by rw [fwI_len];exact hl) (fwI_up m F h1 i) (fwI_up m F h2 i) m hk
   · exact fwR_up _ _ (fwI_low m F hk h1 h2 q (by omega) hl) _
theorem floyd_low (S:List Nat):∀ (p:Nat) {i t:Nat},i < S.length→((iter (stepD S) p S).getD i 0).testBit t=true→((iter (fwI S.length S.length) p S).getD i 0).testBit t=true
 | 0,i,t,hi,h=>h
 | p+1,i,t,hi,h=>by
   rw [iter,stepD_get _ _ (by rw [iterD_len];exact hi),Nat.testBit_or,Bool.or_eq_true] at h
   rw [iter]
   rcases h with h | h
   · exact fwI_up _ _ (floyd_low S p hi h) _
   · obtain ⟨k,hk,h3,h4⟩:=joinS_mem.1 h
     rw [iterD_len] at hk
     exact fwI_low _ _ hk (iterFw_up _ _ S h3 p) (floyd_low S p hk h4) _ hi (by rw [iterFw_len];exact hi)
def UpF (S F:List Nat):Prop:=F.length=S.length∧∀ i t,i < S.length→(F.getD i 0).testBit t=true→comesTo S i t=true
theorem fwK_in {S F:List Nat} (h:UpF S F) (i:Nat) {k:Nat} (hk:k < S.length):UpF S (fwK i k F):=by
 refine ⟨by rw [fwK_len];exact h.1,fun j t hj hb=>?_⟩
 unfold fwK at hb
 split at hb
 · rename_i hc
   rw [addAt_get] at hb
   split at hb
   · rename_i he
     obtain ⟨rfl,_⟩:=he
     rw [Nat.testBit_or,Bool.or_eq_true] at hb
     rcases hb with hb | hb
     · exact h.2 _ _ hj hb
     · exact comes_trans hj hk (h.2 _ _ hj hc) (h.2 _ _ hk hb)
   · exact h.2 _ _ hj hb
 · exact h.2 _ _ hj hb
theorem fwR_in {S F:List Nat} (h:UpF S F) (i:Nat):∀ m,m≤S.length→UpF S (fwR i m F)
 | 0,_=>h
 | m+1,hm=>by rw [fwR_succ];exact fwK_in (fwR_in h i m (by omega)) i (by omega)
theorem fwI_in {S F:List Nat} (h:UpF S F) (q:Nat):UpF S (fwI S.length q F):=by
 induction q with
 | zero=>exact h
 | succ q ih=>rw [fwI_succ];exact fwR_in ih q _ (Nat.le_refl _)
theorem iterFw_in (S:List Nat) (q:Nat):∀ p,UpF S (iter (fwI S.length q) p S)
 | 0=>⟨rfl,fun i t hi h=>comes_once hi h⟩
 | p+1=>by rw [iter];exact fwI_in (iterFw_in S q p) q
theorem sets_ext {F F':List Nat} (hl:F.length=F'.length) (h:∀ i,i < F.length→∀ t,(F.getD i 0).testBit t=(F'.getD i 0).testBit t):F=F':=by
 refine List.ext_getElem hl fun i h1 h2=>?_
 have:=Nat.eq_of_testBit_eq (h i h1)
 rw [List.getD_eq_getElem?_getD,List.getD_eq_getElem?_getD,List.getElem?_eq_getElem h1,List.getElem?_eq_getElem h2] at this
 exact this
theorem floyd_eq (S:List Nat):iter (fwI S.length S.length) S.length S=closeS S:=by
 refine sets_ext (by rw [iterFw_len,closeS_len]) fun i hi t=>?_
 rw [iterFw_len] at hi
 rw [Bool.eq_iff_iff]
 exact ⟨fun h=>(iterFw_in S _ _).2 i t hi h,fun h=>floyd_low S _ hi h⟩
theorem closeS_small {S:List Nat} (h:Small S):Small (closeS S):=by rw [← floyd_eq];exact iterFw_small _ _ h _
def moreN (S:List Nat) (R:Nat) (l:List Nat):Nat:=l.foldl (fun m k=>m ||| S.getD k 0) R
theorem moreN_snoc (S:List Nat) (R:Nat) (l:List Nat) (k:Nat):moreN S R (l++[k])=moreN S R l ||| S.getD k 0:=by simp [moreN]
theorem moreN_bit (S:List Nat) (t:Nat):∀ (l:List Nat) (R:Nat),(moreN S R l).testBit t=(R.testBit t || l.any fun k=>(S.getD k 0).testBit t)
 | [],R=>by simp [moreN]
 | k::l,R=>by
   show (moreN S (R ||| S.getD k 0) l).testBit t=_
   rw [moreN_bit S t l,Nat.testBit_or,List.any_cons,Bool.or_assoc]
theorem moreN_lt {S:List Nat} (hS:Small S):∀ (l:List Nat) {R:Nat},R < 4294967296→moreN S R l < 4294967296
 | [],R,h=>h
 | k::l,R,h=>moreN_lt hS l (or_lt32 h (hS.get k))
theorem moreN_le (S:List Nat) (l:List Nat) (R:Nat):R≤moreN S R l:=bits_le fun t h=>by rw [moreN_bit,h];rfl
theorem bit_lt {s t:Nat} (hs:s < 4294967296) (h:s.testBit t=true):t < 32:=by
 rcases Nat.lt_or_ge t 32 with h' | h'
 · exact h'
 · rw [test_big s hs t h'] at h;cases h
def InS (S:List Nat):Prop:=∀ i t,(S.getD i 0).testBit t=true→t < S.length
def ReachI (S:List Nat) (i R:Nat):Prop:=R < 4294967296∧(∀ t,(S.getD i 0).testBit t=true→R.testBit t=true)∧∀ t,R.testBit t=true→t < S.length∧comesTo S i t=true
theorem ReachI.start {S:List Nat} (hs:Small S) (hI:InS S) {i:Nat} (hi:i < S.length):ReachI S i (S.getD i 0) :=
 ⟨hs.get i,fun _ h=>h,fun t h=>⟨hI i t h,comes_once hi h⟩⟩
theorem ReachI.next {S:List Nat} (hs:Small S) (hI:InS S) {i:Nat} (hi:i < S.length) {R:Nat} (h:ReachI S i R):ReachI S i (moreN S R (memsN R)):=by
 refine ⟨moreN_lt hs _ h.1,fun t ht=>by rw [moreN_bit,h.2.1 t ht];rfl,fun t ht=>?_⟩
 rw [moreN_bit,Bool.or_eq_true] at ht
 rcases ht with ht | ht
 · exact h.2.2 t ht
 · rw [List.any_eq_true] at ht
   obtain ⟨k,hk,hkt⟩:=ht
   have hkR:=((mems_mem R k).1 hk).2
   obtain ⟨hkl,hc⟩:=h.2.2 k hkR
   exact ⟨hI k t hkt,comes_trans hi hkl hc (comes_once hkl hkt)⟩
theorem ReachI.done {S:List Nat} (hI:InS S) {i:Nat} (hi:i < S.length) {R:Nat} (h:ReachI S i R) (he:moreN S R (memsN R)=R):R=(closeS S).getD i 0:=by
 apply Nat.eq_of_testBit_eq
 intro t
 rw [Bool.eq_iff_iff]
 refine ⟨fun ht=>(h.2.2 t ht).2,fun ht=>?_⟩
 refine comes_in (S:=S) (fun t=>R.testBit t=true) (fun k hk hR t hkt=>?_) hI hi (fun t ht=>h.2.1 t ht) ht
 have:=moreN_bit S t (memsN R) R
 rw [he] at this
 rw [this,Bool.or_eq_true]
 right
 rw [List.any_eq_true]
 exact ⟨k,(mems_mem R k).2 ⟨bit_lt h.1 hR,hR⟩,hkt⟩
def cycS (S:List Nat):Nat:=setB (fun i=>comesTo S i i) S.length
theorem stepsN_in (G:Gr) (hG:G.Fits):InS (stepsN G):=by
 have hgrow:∀ (r:Rul),r ∈ G.rules→∀ (k:Nat) (F:List Nat),(∀ i t,(F.getD i 0).testBit t=true→t < G.nons.length)→∀ i t,((growSt (nullN G) (prodN G) r k F).getD i 0).testBit t=true→t < G.nons.length:=by
  intro r hr k F hF i t h
  unfold growSt at h
  split at h
  · exact hF i t h
  · rename_i s hs
    split at h
    · rename_i hst
      rw [addAt_get] at h
      split at h
      · rw [Nat.testBit_or,Bool.or_eq_true] at h
        rcases h with h | h
        · exact hF _ t h
        · have h2:=hG.sym r hr s (List.mem_of_getElem? hs)
          unfold standsR at hst
          simp only [Bool.and_eq_true,decide_eq_true_eq] at hst
          obtain ⟨j,hj⟩:∃ j:Nat,-1 - s=(j:Int):=⟨(-1 - s).toNat,by omega⟩
          rw [hj,bitN_test,Bool.and_eq_true,decide_eq_true_iff,decide_eq_true_iff] at h
          omega
      · exact hF i t h
    · exact hF i t h
 have hpos:∀ (r:Rul),r ∈ G.rules→∀ (k:Nat) (F:List Nat),(∀ i t,(F.getD i 0).testBit t=true→t < G.nons.length)→∀ i t,((posSt (nullN G) (prodN G) r k F).getD i 0).testBit t=true→t < G.nons.length:=by
  intro r hr k F hF
  induction k with
  | zero=>exact hF
  | succ k ih=>rw [posSt_succ];exact hgrow r hr k _ ih
 have hpass:∀ (rs:List Rul),(∀ r ∈ rs,r ∈ G.rules)→∀ (F:List Nat),(∀ i t,(F.getD i 0).testBit t=true→t < G.nons.length)→∀ i t,((passSt (nullN G) (prodN G) rs F).getD i 0).testBit t=true→t < G.nons.length:=by
  intro rs
  induction rs with
  | nil=>exact fun _ F hF=>hF
  | cons r rs ih=>exact fun h F hF=>ih (fun r' hr'=>h r' (List.mem_cons_of_mem _ hr')) _ (hpos r (h r (List.mem_cons_self ..)) _ F hF)
 intro i t h
 rw [stepsN_len]
 refine hpass G.rules (fun _ h=>h) _ (fun i t h=>?_) i t h
 rw [List.getD_eq_getElem?_getD] at h
 rcases Nat.lt_or_ge i G.nons.length with hl | hl
 · simp [hl] at h
 · simp [List.getElem?_eq_none,hl] at h
def andN (a b:Nat):Nat:=a ^^^ (a &&& b)
theorem andN_bit (a b t:Nat):(andN a b).testBit t=(a.testBit t && !b.testBit t):=by
 unfold andN
 rw [Nat.testBit_xor,Nat.testBit_and]
 cases a.testBit t <;> cases b.testBit t <;> rfl
theorem andN_le (a b:Nat):andN a b≤a:=bits_le fun t h=>by
 rw [andN_bit,Bool.and_eq_true] at h
 exact h.1
theorem andn32 (a b:Nat) (ha:a < 4294967296) (hb:b < 4294967296):bits .andNot .u32 (a:Int) (b:Int)=((andN a b:Nat):Int):=by
 have hx:andN a b < 4294967296:=Nat.lt_of_le_of_lt (andN_le a b) ha
 have h1:(BitVec.ofInt 32 (a:Int)).toNat=a:=by rw [BitVec.ofInt_natCast,BitVec.toNat_ofNat];exact Nat.mod_eq_of_lt (by omega)
 have h2:(BitVec.ofInt 32 (b:Int)).toNat=b:=by rw [BitVec.ofInt_natCast,BitVec.toNat_ofNat];exact Nat.mod_eq_of_lt (by omega)
 show IntKind.u32.wrap ((BitVec.ofInt 32 (a:Int) &&& ~~~ BitVec.ofInt 32 (b:Int)).toNat:Int)=_
 have h3:(BitVec.ofInt 32 (a:Int) &&& ~~~ BitVec.ofInt 32 (b:Int)).toNat=andN a b:=by
  apply Nat.eq_of_testBit_eq
  intro t
  rw [BitVec.testBit_toNat,BitVec.getLsbD_and,BitVec.getLsbD_not,← BitVec.testBit_toNat,← BitVec.testBit_toNat,h1,h2,andN_bit]
  rcases Nat.lt_or_ge t 32 with h | h
  · simp [h]
  · rw [test_big a ha t h];rfl
 rw [h3,IntKind.wrap_u32]
 omega
theorem bit_of_ne {x:Nat} (h:x ≠ 0):∃ t,x.testBit t=true:=by
 apply Classical.byContradiction
 intro hc
 apply h
 apply Nat.eq_of_testBit_eq
 intro t
 rw [Nat.zero_testBit]
 cases hx:x.testBit t
 · rfl
 · exact absurd ⟨t,hx⟩ hc
def pickB (S:List Nat) (use there i:Nat):Bool:=use.testBit i && !there.testBit i && (andN (S.getD i 0) there == 0)
def findB (f:Nat→Bool) (n:Nat):Option Nat:=(List.range n).find? f
theorem findB_some {f:Nat→Bool} {n i:Nat} (hi:i < n) (h:f i=true) (hb:∀ j,j < i→f j=false):findB f n=some i:=by
 unfold findB
 rw [List.find?_range_eq_some]
 exact ⟨h,List.mem_range.2 hi,fun j hj=>by rw [hb j hj];rfl⟩
theorem findB_none {f:Nat→Bool} {n:Nat} (h:∀ j,j < n→f j=false):findB f n=none:=by
 unfold findB
 rw [List.find?_eq_none]
 intro j hj
 rw [h j (List.mem_range.1 hj)]
 decide
theorem findB_none' {f:Nat→Bool} {n:Nat} (h:findB f n=none):∀ j,j < n→f j=false:=by
 unfold findB at h
 rw [List.find?_eq_none] at h
 intro j hj
 have:=h j (List.mem_range.2 hj)
 simpa using this
theorem findB_at {f:Nat→Bool} {n i:Nat} (h:findB f n=some i):i < n∧f i=true:=by
 unfold findB at h
 exact ⟨List.mem_range.1 (List.mem_of_find?_eq_some h),List.find?_some h⟩
def stepO (S:List Nat) (use n:Nat) (st:List Nat × Nat):List Nat × Nat:=match findB (pickB S use st.2) n with
 | none=>st
 | some i=>(st.1++[i],st.2 ||| bitN (i:Int))
def orderS (S:List Nat) (use n k:Nat):List Nat × Nat:=iter (stepO S use n) k ([],0)
theorem orderS_succ (S:List Nat) (use n k:Nat):orderS S use n (k+1)=stepO S use n (orderS S use n k):=rfl
theorem stepO_some {S:List Nat} {use n:Nat} {st:List Nat × Nat} {i:Nat} (h:findB (pickB S use st.2) n=some i):stepO S use n st=(st.1++[i],st.2 ||| bitN (i:Int)):=by
 unfold stepO;rw [h]
theorem stepO_none {S:List Nat} {use n:Nat} {st:List Nat × Nat} (h:findB (pickB S use st.2) n=none):stepO S use n st=st:=by
 unfold stepO;rw [h]
structure OrdI (S:List Nat) (use n:Nat) (st:List Nat × Nat):Prop where
 lt:st.2 < 4294967296
 mem:∀ t,st.2.testBit t=true ↔ t ∈ st.1
 use:∀ t ∈ st.1,use.testBit t=true∧t < n
theorem OrdI.step {S:List Nat} {use n:Nat} {st:List Nat × Nat} (hu:use < 4294967296) (h:OrdI S use n st):OrdI S use n (stepO S use n st):=by
 cases hf:findB (pickB S use st.2) n with
 | none=>rw [stepO_none hf];exact h
 | some i =>
   rw [stepO_some hf]
   obtain ⟨hi,hp⟩:=findB_at hf
   unfold pickB at hp
   simp only [Bool.and_eq_true] at hp
   have h32:=bit_lt hu hp.1.1
   refine ⟨or_lt32 h.lt (bitN_lt _),fun t=>?_,fun t ht=>?_⟩
   · rw [Nat.testBit_or,bitN_test,Bool.or_eq_true,h.mem t,List.mem_append,List.mem_singleton]
     simp [h32]
   · rcases List.mem_append.1 ht with ht | ht
     · exact h.use t ht
     · rw [List.mem_singleton] at ht
       subst ht
       exact ⟨hp.1.1,hi⟩
theorem orderS_inv (S:List Nat) {use:Nat} (n:Nat) (hu:use < 4294967296):∀ k,OrdI S use n (orderS S use n k)
 | 0=>⟨by show 0 < 4294967296;decide,fun t=>by simp [orderS,iter],fun t h=>by simp [orderS,iter] at h⟩
 | k+1=>by rw [orderS_succ];exact (orderS_inv S n hu k).step hu
def thereOf (b:List Bool):Nat:=setB (fun i=>b.getD i false) b.length
theorem thereOf_set {b:List Bool} {i:Nat} (hi:i < b.length):thereOf (b.set i true)=thereOf b ||| bitN (i:Int):=by
 apply Nat.eq_of_testBit_eq
 intro t
 unfold thereOf
 rw [Nat.testBit_or,setB_bit,setB_bit,bitN_test,List.length_set,Bool.eq_iff_iff]
 simp only [Bool.and_eq_true,Bool.or_eq_true,decide_eq_true_eq,set_getD]
 constructor
 · rintro ⟨h1,h2,h3 | ⟨h3,_⟩⟩
   · exact .inl ⟨h1,h2,h3⟩
   · exact .inr ⟨by omega,h3⟩
 · rintro (⟨h1,h2,h3⟩ | ⟨h1,h2⟩)
   · exact ⟨h1,h2, .inl h3⟩
   · exact ⟨by omega,by omega, .inr ⟨h2,hi⟩⟩
def stepT (S:List Nat) (use n:Nat) (b:List Bool):List Bool:=match findB (pickB S use (thereOf b)) n with
 | none=>b
 | some i=>b.set i true
theorem stepT_grows (S:List Nat) (use n:Nat):Grows (stepT S use n):=by
 refine ⟨fun b=>?_,fun b i h=>?_⟩
 · unfold stepT;split <;> simp
 · unfold stepT
   split
   · exact h
   · have hl:=(List.getElem?_eq_some_iff.1 h).1
     rw [List.getElem?_set]
     split
     · rename_i he;subst he;simp [hl]
     · exact h
theorem iterT_len (S:List Nat) (use n:Nat) (b:List Bool):∀ k,(iter (stepT S use n) k b).length=b.length
 | 0=>rfl
 | k+1=>by rw [iter,(stepT_grows S use n).len,iterT_len S use n b k]
theorem orderS_there (S:List Nat) (use n:Nat):∀ k,(orderS S use n k).2=thereOf (iter (stepT S use n) k (List.replicate n false))
 | 0=>by
   apply Nat.eq_of_testBit_eq
   intro t
   unfold thereOf
   rw [setB_bit]
   simp only [orderS,iter,Nat.zero_testBit,List.length_replicate]
   by_cases h:t < n
   · simp [h]
   · simp [h]
 | k+1=>by
   have ih:=orderS_there S use n k
   have hl:=iterT_len S use n (List.replicate n false) k
   rw [List.length_replicate] at hl
   rw [orderS_succ,iter]
   generalize iter (stepT S use n) k (List.replicate n false)=b at *
   cases hf:findB (pickB S use (orderS S use n k).2) n with
   | none =>
     rw [stepO_none hf]
     unfold stepT
     rw [← ih,hf]
     exact ih
   | some i =>
     rw [stepO_some hf]
     have hi:=(findB_at hf).1
     unfold stepT
     rw [← ih,hf]
     rw [thereOf_set (by omega),ih]
theorem orderS_end (S:List Nat) {use:Nat} (n:Nat) (hu:use < 4294967296):findB (pickB S use (orderS S use n n).2) n=none:=by
 cases hf:findB (pickB S use (orderS S use n n).2) n with
 | none=>rfl
 | some i =>
   exfalso
   have hfix:=(stepT_grows S use n).fix (List.replicate n false)
   rw [List.length_replicate] at hfix
   have hl:=iterT_len S use n (List.replicate n false) n
   rw [List.length_replicate] at hl
   rw [orderS_there] at hf
   generalize iter (stepT S use n) n (List.replicate n false)=b at *
   unfold stepT at hfix
   rw [hf] at hfix
   simp only [] at hfix
   obtain ⟨hi,hp⟩:=findB_at hf
   unfold pickB at hp
   simp only [Bool.and_eq_true] at hp
   have h32:=bit_lt hu hp.1.1
   have hb:b.getD i false=true:=by
    rw [← hfix]
    exact (set_getD b i i).2 (.inr ⟨rfl,by omega⟩)
   have ht:(thereOf b).testBit i=true:=by
    unfold thereOf
    rw [setB_bit,hb]
    simp [h32,hl,hi]
   rw [ht] at hp
   exact absurd hp.1.2 (by decide)
theorem order_goes {S:List Nat} {use there:Nat} (hc:∀ i t,use.testBit i=true→(S.getD i 0).testBit t=true→use.testBit t=true) (hl:∀ i,use.testBit i=true→i < S.length)
 (hno:∀ i,use.testBit i=true→comesTo S i i=false) (hn:findB (pickB S use there) S.length=none):andN use there=0:=by
 have key:∀ (m i:Nat),(andN use there).testBit i=true→(closeS S).getD i 0=m→False:=by
  intro m
  induction m using Nat.strongRecOn with
  | ind m ih =>
    intro i hi hm
    rw [andN_bit,Bool.and_eq_true] at hi
    have hil:=hl i hi.1
    have hp:=findB_none' hn i hil
    unfold pickB at hp
    rw [hi.1,hi.2,Bool.true_and,Bool.true_and] at hp
    have hne:andN (S.getD i 0) there ≠ 0:=by simpa using hp
    obtain ⟨t,ht⟩:=bit_of_ne hne
    rw [andN_bit,Bool.and_eq_true] at ht
    have hut:=hc i t hi.1 ht.1
    have htl:=hl t hut
    have h1:comesTo S i t=true:=comes_once hil ht.1
    have h2:=hno t hut
    have hle:(closeS S).getD t 0≤(closeS S).getD i 0:=bits_le fun q hq=>comes_step hil htl ht.1 hq
    have hne2:(closeS S).getD t 0 ≠ (closeS S).getD i 0:=fun he=>by
     unfold comesTo at h1 h2
     rw [he,h1] at h2
     cases h2
    exact ih _ (by omega) t (by rw [andN_bit,hut,ht.2];rfl) rfl
 apply Classical.byContradiction
 intro h
 obtain ⟨i,hi⟩:=bit_of_ne h
 exact key _ i hi rfl
end Go.Proofs.YtggbjdmpjidhgaaGreatDoor
