/- the reference's reading: a grammar is built: its nonterminals. -/
import Derived.Test.YtggbjdmpjidhgaaGreatDoorQPs10
set_option linter.unusedVariables false
set_option linter.unusedSimpArgs false
set_option maxHeartbeats 8000000
set_option maxRecDepth 100000
namespace Go.Proofs.YtggbjdmpjidhgaaGreatDoor
open Go.RowKit
theorem wk_decls (p:Nat) {B:Nat} (h:GH) (G:Gr) (w:World) (k:Wk w p B h G) :
 Calls Tryz.prog 138 #[.pointer (some ⟨p,0,none⟩), .slice none 0 0] w fun e w'=>e = .returned (.tuple #[])∧w=w':=by
 clear k
 go_enter Tryz.func138,Tryz.ntmps138
 go_wp2_with fail
 go_loopw [4] (fun i wr=>i = .int .i64 0∧wr=w) (fun _ _=>0)
 case atStart=>exact ⟨rfl,rfl⟩
 case round =>
  obtain ⟨rfl,rfl⟩:=hrel
  go_wp2_with fail
  (try simp only [Exit.inBlock,Exit.then])
  refine bodyPost_end (results_none rfl _ _ _) rfl ?_
  exact ⟨rfl,rfl⟩
theorem leftsP_step {ns ns':List ByteArray} {l:List Prd} {k:Nat} {q:Prd} (h:leftsP ns (l.drop k)=some ns') (hq:l[k]? = some q) :
 nameB (bytesOf q.left)=true∧((0≤findI (fun t=>decide (t=q.left)) ns∧leftsP ns (l.drop (k+1))=some ns')∨(findI (fun t=>decide (t=q.left)) ns=-1∧ns.length ≠ 16∧leftsP (ns++[q.left]) (l.drop (k+1))=some ns')):=by
 rw [drop_get hq] at h
 unfold leftsP at h
 by_cases h1:nameB (bytesOf q.left)=true
 · rw [if_neg (by simp [h1])] at h
   refine ⟨h1,?_⟩
   by_cases h2:0≤findI (fun t=>decide (t=q.left)) ns
   · rw [if_pos h2] at h
     exact .inl ⟨h2,h⟩
   · rw [if_neg h2] at h
     split at h
     · cases h
     · rename_i h3
       have:=(findI_lo (fun t=>decide (t=q.left)) ns).1
       exact .inr ⟨by omega,h3,h⟩
 · rw [if_pos (by simpa using h1)] at h
   cases h
theorem wk_lefts (p:Nat) {B:Nat} (h:GH) (G:Gr) (ns':List ByteArray) (A:Option Addr) (n c:Nat) (l:List Prd) (w:World) (k:Wk w p B h G) (hP:∀ w',Below p w w'→Prds w' A n c l) (hn:n≤4000) (ht:G.terms=[]) (hl:leftsP G.nons l=some ns') :
 Calls Tryz.prog 139 #[.pointer (some ⟨p,0,none⟩), .slice A n c] w fun e w'=>e = .returned (.tuple #[])∧∃ h',Wk w' p B h' { G with nons:=ns' }∧Turn w w' p h h':=by
 have hP0:=hP w (Below.refl _ _)
 have hln:l.length=n:=hP0.1
 have hcap:=hP0.2.1
 have hcap2:=hP0.2.2.1
 have HP:=LH hP
 have Hk:=LH k
 have Ht:=LH ht
 have Hl:=LH hl
 have Hln:=LH hln
 have hiS:(Tryz.prog.info? 9).map (fun i=>(i.zero,i.size,i.bytes))=some (some (.string ByteArray.empty),1,16):=by kernel_rfl
 have ksc:∀ (w:World) (a:Addr) (k:FloatKind) (x y:Nat) (m:Mode),(store a (.complex k x y) m).run Tryz.prog w=stored Tryz.prog w a (.complex k x y) m:=fun w a k x y m=>run_store Tryz.prog w a _ m rfl
 have Hi:=LH hiS
 clear k hP hP0 ht hl hln hiS
 go_enter Tryz.func139,Tryz.ntmps139
 go_wp2_with fail
 go_loopw [4] (fun v wr=>∃ (j:Nat) (h':GH) (ns2:List ByteArray),v = .int .i64 (j:Int)∧j≤n∧Hid (Wk wr p B h' { G with nons:=ns2 })∧Hid (leftsP ns2 (l.drop j)=some ns')∧Hid (Turn w wr p h h')) (fun v _=>n - (intOf v).toNat)
 case atStart=>exact ⟨0,h,G.nons,rfl,Nat.zero_le _,Hk,Hl,LH (Turn.refl _ _ _)⟩
 case round =>
  obtain ⟨j,h',ns2,rfl,hj,Hkr,Hlr,HT⟩:=hrel
  obtain ⟨a1,n1,c1,a2,n2,c2,a3,n3,c3⟩:=h'
  obtain ⟨hp,z0,z1,z2,z3,z7,z10,v0,v1,v2⟩:=Hkr.out.cells
  simp only [] at z0 z1 z2
  by_cases hjn:j < n
  case neg =>
   obtain rfl:j=n:=by omega
   go_wp2_with fail
   (try simp only [Exit.inBlock,Exit.then])
   refine bodyPost_end (results_none rfl _ _ _) rfl ?_
   have hl:=Hlr.out
   rw [List.drop_eq_nil_of_le (by rw [Hln.out];exact Nat.le_refl _)] at hl
   have hl2:ns2=ns':=by
    unfold leftsP at hl
    injection hl
   exact ⟨rfl,_,by rw [← hl2];exact Hkr.out,HT.out⟩
  case pos =>
   obtain ⟨b,off,q,Ar,cr,x,y,x',y',rfl,hb,Hq,q0,q1,q2,q3,q4,hrfs⟩:=(HP.out wr (HT.out.below Hk.out)).get hjn
   obtain ⟨hnm,hways⟩:=leftsP_step Hlr.out Hq.out
   have Hways:=LH hways
   have hB1:=alloc_below wr (.cells #[.string q.left, .complex .f64 x y] 191)
   have hbx:=Blk.new wr 191 #[.string q.left, .complex .f64 x y]
   have hk1:=Hkr.out.below hB1
   have cN:=fun w=>ref_name q.left w
   rw [hnm] at cN
   have CN:=LH cN
   obtain ⟨l1,l2,l3⟩:=Hkr.out.lens
   simp only [] at l1 l2 l3
   have hn1:n1≤24:=Hkr.out.b1
   have hn2:n2≤16:=Hkr.out.b2
   have hst:G.start=0:=Hkr.out.st
   clear hnm hways cN hrfs
   generalize q.left=L at *
   go_wp2_with (go_at_call 119;(with_reducible refine (CN.out _).mono ?_);rintro e w2 ⟨rfl,rfl⟩)
   generalize hW1:wr.alloc (.cells #[.string L, .complex .f64 x y] 191)=W1 at *
   have hlb:wr.heap.size < W1.heap.size:=hbx.lt
   obtain ⟨hp1,u0,u1,u2,u3,u7,u10,v0',v1',v2'⟩:=hk1.cells
   have y0:W1.cell? ⟨wr.heap.size,0,none⟩=some (.string L):=hbx.cell 0
   simp only [] at u0 u1 u2
   have cT:=fun (x:Ext W1)=>rf_term ⟨a1,n1,c1,a2,n2,c2,a3,n3,c3⟩ { G with nons:=ns2 } L (bl W1 x) (hk1.grAt.below (bl_below W1 x)) (by simp only [];omega)
   rw [show ({ G with nons:=ns2 }:Gr).term L=-1 by unfold Gr.term;show findI _ G.terms=-1;rw [Ht.out];rfl] at cT
   rw [show ({ G with nons:=ns2 }:Gr).start=0 from hst] at cT
   have CT:=LH cT
   have Hk1:=LH hk1
   have Hbx:=LH hbx
   have bc:=bl_cell W1
   clear cT hk1 hbx hW1 hst l1
   go_wp2_with fail
   refine wp_region_below (by kernel_rfl) (by kernel_rfl) ?_
   repeat (go_big_quiet_step ((go_at_call 117;with_reducible exact bl_of (CT.out _))))
   refine wpQuiet_nil ?_
   rintro _ ⟨x2,rfl⟩
   have hB2:=bl_below W1 x2
   have hk2:=Hk1.out.below hB2
   have hbx2:=Hbx.out.ext hB2
   generalize bl W1 x2=W2 at *
   have HB2:=LH (below_tail hB1 hB2)
   obtain ⟨hp2,t0,t1,t2,t3,t7,t10,f0,f1,f2⟩:=hk2.cells
   have e0:W2.cell? ⟨wr.heap.size,0,none⟩=some (.string L):=hbx2.cell 0
   have hlb2:wr.heap.size < W2.heap.size:=hbx2.lt
   simp only [] at t0 t1 t2
   have cM:=fun (x:Ext W2)=>rf_non ⟨a1,n1,c1,a2,n2,c2,a3,n3,c3⟩ { G with nons:=ns2 } L (bl W2 x) (hk2.grAt.below (bl_below W2 x)) (by simp only [];omega)
   rw [show ({ G with nons:=ns2 }:Gr).non L=findI (fun t=>decide (t=L)) ns2 from rfl,show ({ G with nons:=ns2 }:Gr).start=0 from Hk1.out.st] at cM
   have Hk2:=LH hk2
   have Hbx2:=LH hbx2
   have bc2:=bl_cell W2
   clear hk2 hbx2 bc CT y0 u0 u1 u2 u3 u7 u10 v0' v1' v2' hB2 hB1
   rcases Hways.out with ⟨hn0,hl2⟩ | ⟨hn0,hne,hl2⟩
   · have Hl2:=LH hl2
     generalize findI (fun t=>decide (t=L)) ns2=nv at *
     have CM:=LH cM
     clear cM hl2
     go_wp2_with fail
     refine wp_region_below (by kernel_rfl) (by kernel_rfl) ?_
     repeat (go_big_quiet_step ((go_at_call 120;with_reducible exact bl_of (CM.out _))))
     refine wpQuiet_nil ?_
     rintro _ ⟨x3,rfl⟩
     have hB3:=bl_below W2 x3
     have Hk3:=LH (Hk2.out.below hB3)
     have HB3:=LH (below_tail HB2.out hB3)
     generalize bl W2 x3=W3 at *
     go_wp2_with fail
     go_roundw
     case rel=>exact ⟨j+1,_,ns2,by go_num,by omega,Hk3,Hl2,LH (HT.out.trans (Turn.of_below HB3.out _ _))⟩
     case measure=>simp [intOf];omega
   · have Hl2:=LH hl2
     rw [hn0] at cM
     rw [l2] at hne
     have CM:=LH cM
     have e16:((n2:Int) == 16)=false:=by rw [beq_eq_false_iff_ne];omega
     clear cM hl2 hn0
     go_wp2_with fail
     refine wp_region_below (by kernel_rfl) (by kernel_rfl) ?_
     repeat (go_big_quiet_step ((go_at_call 120;with_reducible exact bl_of (CM.out _))))
     refine wpQuiet_nil ?_
     rintro _ ⟨x3,rfl⟩
     have hB3:=bl_below W2 x3
     have hk3:=Hk2.out.below hB3
     have hbx3:=Hbx2.out.ext hB3
     have HB3:=LH (below_tail HB2.out hB3)
     generalize bl W2 x3=W3 at *
     obtain ⟨hp3,m0,m1,m2,m3,m7,m10,g0,g1,g2⟩:=hk3.cells
     have d0:W3.cell? ⟨wr.heap.size,0,none⟩=some (.string L):=hbx3.cell 0
     have hlb3:wr.heap.size < W3.heap.size:=hbx3.lt
     simp only [] at m0 m1 m2
     have Hk3:=LH hk3
     have HoA:Hid ((W3.drew.alloc (.cells #[.string L] 9)).ownsRow (p+1) 9 1 (.slice a2 n2 c2) n2 (ns2.map Value.string)):=LH (own_keepB hk3.r2 ((Below.refl W3.heap.size W3).drew.alloc (Nat.le_refl _) _))
     have hBA:Below W3.heap.size W3 (W3.drew.alloc (.cells #[.string L] 9)):=(Below.refl W3.heap.size W3).drew.alloc (Nat.le_refl _) _
     have HbA:=LH (hk3.blk.ext hBA)
     have HBA:=LH hBA
     have hle:p+1≤(W3.drew.alloc (.cells #[.string L] 9)).heap.size:=by have:=hBA.size;omega
     clear hBA hk3 hbx3 hB3 t0 t1 t2 t3 t7 t10 f0 f1 f2 bc2 CM
     go_wp2_with fail
     go_region_law (first
      | (refine step_appendM rfl _ _ 23 rfl (p+1) 9 _ 1 16 Tryz.underlying23 Hi.out (by decide) (by decide) a2 n2 c2 (ns2.map Value.string) (by simp [Act.eval,Act.put]) (by exact HoA.out) ⟨W3.heap.size,0,none⟩ 1 1 [.string L] rfl (by simp [Act.eval,Act.put]) (by exact laid_cells W3.drew [.string L] _) (by simp [Value.oneCell']) (by omega) (by omega) (by exact hle) ?_;intro A4 c4 w4 ho hgr ha
         have b4:=HbA.out.grown hgr (by intro e;have:=(HoA.out.lt p e.symm).1;omega)
         have k1:w4.cell? ⟨p,1,none⟩=some (.slice a2 n2 c2):=b4.cell 1
         have k2:=b4.frozen 1
         have Hpt:=LH (Hk3.out.put2 L (by simp only [];omega) A4 c4 ho (grown_trans (grown_below _ HBA.out) hgr) (fun b hb hlt=>ha b hb (Nat.lt_of_lt_of_le hlt HBA.out.size)))
         clear b4 ho hgr ha))
     all_goals
      go_wp2_with fail
      go_roundw
      case rel=>exact ⟨j+1,_,ns2++[L],by go_num,by omega,LH Hpt.out.1,Hl2,LH ((HT.out.trans (Turn.of_below HB3.out _ _)).trans Hpt.out.2)⟩
      case measure=>simp [intOf];omega
end Go.Proofs.YtggbjdmpjidhgaaGreatDoor
