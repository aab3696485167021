/- steps: the program's, walked. -/
import Derived.Test.YtggbjdmpjidhgaaGreatDoorQCtS2
import Derived.Test.YtggbjdmpjidhgaaGreatDoorQCtP4
set_option linter.unusedVariables false
set_option linter.unusedSimpArgs false
set_option maxHeartbeats 8000000
set_option maxRecDepth 100000
namespace Go.Proofs.YtggbjdmpjidhgaaGreatDoor
open Go.RowKit
theorem tr_Steps (h:GH) (G:Gr) (w:World) (hg:GrAt w h G) (hs:∀ t ∈ G.terms,t.name.size≤maxLen) (h1:h.n1≤100) (h2:h.n2≤100) (h3:h.n3≤100) :
 Calls Tryz.prog 88 #[GV h G.start] w fun e w'=>Below w.heap.size w w' ∧
  ((G.right=false∧e = .returned (.slice none 0 0))∨(G.right=true∧∃ g,w.heap.size≤g∧e = .returned (.slice (some ⟨g,0,none⟩) h.n2 h.n2)∧SetT w' g (stepsN G))):=by
 obtain ⟨a1,n1,c1,a2,n2,c2,a3,n3,c3⟩:=h
 have e2:G.nons.length=n2:=hg.nons.len
 have e3:G.rules.length=n3:=hg.rules.len
 have k3:=hg.rules.cap
 have k2:=hg.nons.cap
 simp only [] at h1 h2 h3 k3 k2
 have Hg:=LH hg
 have Hs:=LH hs
 have hB0:=alloc_below w (.cells #[.slice a1 n1 c1, .slice a2 n2 c2, .slice a3 n3 c3, .int .i64 G.start] 26)
 have hbox:=GBox.new w 26 ⟨a1,n1,c1,a2,n2,c2,a3,n3,c3⟩ G.start
 have hmk:=make_sets n2 (by omega)
 clear hg hs
 go_enter Tryz.func88,Tryz.ntmps88
 have ⟨z5,z0,z1,z2,z3⟩:=hbox
 simp only [] at z0 z1 z2 z3
 go_wp2_with fail
 generalize w.alloc (.cells #[.slice a1 n1 c1, .slice a2 n2 c2, .slice a3 n3 c3, .int .i64 G.start] 26)=W0 at *
 (with_reducible refine (cf_Right ⟨a1,n1,c1,a2,n2,c2,a3,n3,c3⟩ G W0 (Hg.out.below hB0) Hs.out (by simp only [];omega) (by simp only [];omega)).mono ?_)
 rintro e W1 ⟨rfl,hb1⟩
 have hB1:=below_tail hB0 hb1
 have hbx1:=hbox.below hb1
 clear z0 z1 z2 z3 z5 hbox
 have ⟨y5,y0,y1,y2,y3⟩:=hbx1
 simp only [] at y0 y1 y2 y3
 rcases hrt:G.right with _ | _
 · go_wp2_with fail
   go_ret
   exact ⟨hB1, .inl ⟨hrt,rfl⟩⟩
 have hfit:=Gr.fits hrt
 have Hrt:=LH hrt
 have Hfit:=LH hfit
 have CN:=LH fun X (hb:Below W1.heap.size W1 X)=>(tr_Nullable ⟨a1,n1,c1,a2,n2,c2,a3,n3,c3⟩ G X ((Hg.out.below hB1).below hb) Hs.out (by simp only [];omega) (by simp only [];omega) (by simp only [];omega)).mono fun e w' hh=>And.intro (below_tail hb hh.1) (And.intro (LH hh.1) (hh.2.resolve_left fun hc=>by rw [Hrt.out] at hc;cases hc.1).2)
 have CP:=LH fun X (hb:Below W1.heap.size W1 X)=>(tr_Productive ⟨a1,n1,c1,a2,n2,c2,a3,n3,c3⟩ G X ((Hg.out.below hB1).below hb) Hs.out (by simp only [];omega) (by simp only [];omega) (by simp only [];omega)).mono fun e w' hh=>And.intro (below_tail hb hh.1) (And.intro (LH hh.1) (hh.2.resolve_left fun hc=>by rw [Hrt.out] at hc;cases hc.1).2)
 have HS:Hid (∀ W',Below W1.heap.size W1 W'→W'.cell? ⟨w.heap.size,0,none⟩=some (.slice a1 n1 c1)∧W'.cell? ⟨w.heap.size,1,none⟩=some (.slice a2 n2 c2)∧W'.cell? ⟨w.heap.size,2,none⟩=some (.slice a3 n3 c3)∧W'.cell? ⟨w.heap.size,3,none⟩=some (.int .i64 G.start)∧Below W1.heap.size W1 W'):=LH fun W' hb=>⟨by rw [hb.cell (by exact y5)];exact y0,by rw [hb.cell (by exact y5)];exact y1,by rw [hb.cell (by exact y5)];exact y2,by rw [hb.cell (by exact y5)];exact y3,hb⟩
 have HB1:=LH hB1
 have Hbx1:=LH hbx1
 clear hrt hfit hB1 hbx1 hB0 hb1
 go_upto_region 3 with fail
 refine wp_region_inv (fun listed a X=>∃ b0 b1 b2 b3 b4 b5 b6:Bool,∃ u3 u4 u14 u15 u16 u17:Value,listed=#[b0,b1,b2,b3,b4,b5,b6]∧a=(⟨(GV ⟨a1,n1,c1,a2,n2,c2,a3,n3,c3⟩ G.start::Value.pointer (some ⟨w.heap.size,0,none⟩)::Value.slice none 0 0::u3::u4::undef::undef::undef::undef::undef::undef::Value.agg #[Value.slice a1 n1 c1,Value.slice a2 n2 c2,Value.slice a3 n3 c3,Value.int .i64 G.start]::Value.bool true::Value.bool false::u14::u15::u16::u17::undef::undef::undef::undef::undef::undef::undef::undef::undef::undef::undef::undef::undef::undef::undef::undef::undef::undef::undef::undef::undef::undef::undef::undef::undef::undef::undef::undef::undef::undef::undef::undef::undef::undef::undef::undef::undef::undef::undef::undef::undef::undef::undef::undef::undef::undef::undef::undef::undef::undef::undef::undef::undef::undef::undef::undef::undef::undef::undef::undef::undef::undef::[]).toArray,[]⟩:Act)∧Below W1.heap.size W1 X ∧
  (b0=true→u14=Value.agg #[Value.slice a1 n1 c1,Value.slice a2 n2 c2,Value.slice a3 n3 c3,Value.int .i64 G.start])∧(b2=true→u16=Value.agg #[Value.slice a1 n1 c1,Value.slice a2 n2 c2,Value.slice a3 n3 c3,Value.int .i64 G.start]) ∧
  (b1=true→∃ gN,W1.heap.size≤gN∧u15=Value.slice (some ⟨gN,0,none⟩) n2 n2∧BoolT X gN (nullN G)) ∧
  (b3=true→∃ gP,W1.heap.size≤gP∧u17=Value.slice (some ⟨gP,0,none⟩) n2 n2∧BoolT X gP (prodN G)) ∧
  (b4=true→∃ pb v,W1.heap.size≤pb∧u3=Value.pointer (some ⟨pb,0,none⟩)∧Blk X pb 97 #[v]∧(b5=true→v=u15))∧(b5=true→b1=true∧b4=true)∧(b6=true→u4=u17∧b3=true)) (by kernel_rfl) (by kernel_rfl) ?_ ?_ ?_
 · exact ⟨false,false,false,false,false,false,false,undef,undef,undef,undef,undef,undef,rfl,rfl,(Below.refl _ _).drew,nofun,nofun,nofun,nofun,nofun,nofun,nofun⟩
 · refine InvSteps.cons (fun listed a X hJ hun hpre K hK=>?_) ?_
   · obtain ⟨b0,b1,b2,b3,b4,b5,b6,u3,u4,u14,u15,u16,u17,rfl,rfl,hBX,f0,f2,f1,f3,f4,f5,f6⟩:=hJ
     obtain ⟨q0,q1,q2,q3,_⟩:=HS.out X hBX
     clear hun hpre
     go_simp
     exact hK _ _ ⟨true,b1,b2,b3,b4,b5,b6,u3,u4,_,u15,u16,u17,rfl,rfl,hBX,fun _=>rfl,f2,f1,f3,f4,f5,f6⟩
   refine InvSteps.cons (fun listed a X hJ hun hpre K hK=>?_) ?_
   · obtain ⟨b0,b1,b2,b3,b4,b5,b6,u3,u4,u14,u15,u16,u17,rfl,rfl,hBX,f0,f2,f1,f3,f4,f5,f6⟩:=hJ
     have p0:b0=true:=hpre ⟨0, .data⟩ (by simp) rfl
     obtain rfl:=f0 p0
     have n1:b1=false:=hun
     have n5:b5=true→False:=fun h=>by have:=(f5 h).1;rw [n1] at this;cases this
     clear hun hpre
     go_simp
     (with_reducible refine (CN.out _ hBX).mono ?_)
     rintro e w2 ⟨hB2,Hb2,gN,hgN,rfl,HTN⟩
     go_simp
     exact hK _ _ ⟨b0,true,b2,b3,b4,b5,b6,u3,u4,_,_,u16,u17,rfl,rfl,hB2,fun _=>rfl,f2,fun _=>⟨gN,Nat.le_trans hBX.size hgN,rfl,HTN⟩,fun h=>(f3 h).imp fun gP hh=>⟨hh.1,hh.2.1,Blk.ext hh.2.2 Hb2.out⟩,fun h=>(f4 h).imp fun pb hh=>hh.imp fun v hv=>⟨hv.1,hv.2.1,Blk.ext hv.2.2.1 Hb2.out,fun h5=>absurd h5 n5⟩,fun h=>absurd h n5,f6⟩
   refine InvSteps.cons (fun listed a X hJ hun hpre K hK=>?_) ?_
   · obtain ⟨b0,b1,b2,b3,b4,b5,b6,u3,u4,u14,u15,u16,u17,rfl,rfl,hBX,f0,f2,f1,f3,f4,f5,f6⟩:=hJ
     obtain ⟨q0,q1,q2,q3,_⟩:=HS.out X hBX
     clear hun hpre
     go_simp
     exact hK _ _ ⟨b0,b1,true,b3,b4,b5,b6,u3,u4,u14,u15,_,u17,rfl,rfl,hBX,f0,fun _=>rfl,f1,f3,f4,f5,f6⟩
   refine InvSteps.cons (fun listed a X hJ hun hpre K hK=>?_) ?_
   · obtain ⟨b0,b1,b2,b3,b4,b5,b6,u3,u4,u14,u15,u16,u17,rfl,rfl,hBX,f0,f2,f1,f3,f4,f5,f6⟩:=hJ
     have p2:b2=true:=hpre ⟨2, .data⟩ (by simp) rfl
     obtain rfl:=f2 p2
     have n3':b3=false:=hun
     have n6:b6=true→False:=fun h=>by have:=(f6 h).2;rw [n3'] at this;cases this
     clear hun hpre
     go_simp
     (with_reducible refine (CP.out _ hBX).mono ?_)
     rintro e w2 ⟨hB2,Hb2,gP,hgP,rfl,HTP⟩
     go_simp
     exact hK _ _ ⟨b0,b1,b2,true,b4,b5,b6,u3,u4,u14,u15,_,_,rfl,rfl,hB2,f0,fun _=>rfl,fun h=>(f1 h).imp fun gN hh=>⟨hh.1,hh.2.1,Blk.ext hh.2.2 Hb2.out⟩,fun _=>⟨gP,Nat.le_trans hBX.size hgP,rfl,HTP⟩,fun h=>(f4 h).imp fun pb hh=>hh.imp fun v hv=>⟨hv.1,hv.2.1,Blk.ext hv.2.2.1 Hb2.out,hv.2.2.2⟩,f5,fun h=>absurd h n6⟩
   refine InvSteps.cons (fun listed a X hJ hun hpre K hK=>?_) ?_
   · obtain ⟨b0,b1,b2,b3,b4,b5,b6,u3,u4,u14,u15,u16,u17,rfl,rfl,hBX,f0,f2,f1,f3,f4,f5,f6⟩:=hJ
     have n4:b4=false:=hun
     have n5:b5=true→False:=fun h=>by have:=(f5 h).2;rw [n4] at this;cases this
     clear hun hpre
     go_simp
     exact hK _ _ ⟨b0,b1,b2,b3,true,b5,b6,_,u4,u14,u15,u16,u17,rfl,rfl,below_alloc hBX _,f0,f2,fun h=>(f1 h).imp fun gN hh=>⟨hh.1,hh.2.1,Blk.ext hh.2.2 (alloc_below _ _)⟩,fun h=>(f3 h).imp fun gP hh=>⟨hh.1,hh.2.1,Blk.ext hh.2.2 (alloc_below _ _)⟩,fun _=>⟨_,_,hBX.size,rfl,Blk.new _ _ _,fun h5=>absurd h5 n5⟩,fun h=>absurd h n5,f6⟩
   refine InvSteps.cons (fun listed a X hJ hun hpre K hK=>?_) ?_
   · obtain ⟨b0,b1,b2,b3,b4,b5,b6,u3,u4,u14,u15,u16,u17,rfl,rfl,hBX,f0,f2,f1,f3,f4,f5,f6⟩:=hJ
     have p1:b1=true:=hpre ⟨1, .data⟩ (by simp) rfl
     have p4:b4=true:=hpre ⟨4, .data⟩ (by simp) rfl
     obtain ⟨gN,hgN,rfl,HTN⟩:=f1 p1
     obtain ⟨pb,v,hpb,rfl,HK,_⟩:=f4 p4
     have hne:gN ≠ pb:=by
      rintro rfl
      have h4:=HTN.symm.trans HK
      simp at h4
     have hne2:∀ gP,BoolT X gP (prodN G)→gP ≠ pb:=by
      rintro gP HTP rfl
      have h4:=HTP.symm.trans HK
      simp at h4
     have hcell:X.cell? ⟨pb,0,none⟩=some v:=HK.cell 0
     have hfz:=HK.frozen 0
     have hpl:=HK.lt
     clear hun hpre
     go_simp
     exact hK _ _ ⟨b0,b1,b2,b3,b4,true,b6,_,u4,u14,_,u16,u17,rfl,rfl,below_set hBX pb 0 _ hpb,f0,f2,fun _=>⟨gN,hgN,rfl,Blk.other HTN pb 0 _ hne⟩,fun h=>(f3 h).imp fun gP hh=>⟨hh.1,hh.2.1,Blk.other hh.2.2 pb 0 _ (hne2 gP hh.2.2)⟩,fun _=>⟨pb,_,hpb,rfl,Blk.set HK 0 _,fun _=>rfl⟩,fun _=>⟨p1,p4⟩,f6⟩
   refine InvSteps.cons (fun listed a X hJ hun hpre K hK=>?_) ?_
   · obtain ⟨b0,b1,b2,b3,b4,b5,b6,u3,u4,u14,u15,u16,u17,rfl,rfl,hBX,f0,f2,f1,f3,f4,f5,f6⟩:=hJ
     have p3:b3=true:=hpre ⟨3, .data⟩ (by simp) rfl
     clear hun hpre
     go_simp
     exact hK _ _ ⟨b0,b1,b2,b3,b4,b5,true,u3,_,u14,u15,u16,u17,rfl,rfl,hBX,f0,f2,f1,f3,f4,f5,fun _=>⟨rfl,p3⟩⟩
   exact InvSteps.nil
 rintro listed a w3 ⟨b0,b1,b2,b3,b4,b5,b6,u3,u4,u14,u15,u16,u17,rfl,rfl,hB3,f0,f2,f1,f3,f4,f5,f6⟩ hall
 obtain ⟨gN,hgN,rfl,HTN⟩:=f1 (hall 1 (by decide))
 obtain ⟨gP,hgP,rfl,HTP⟩:=f3 (hall 3 (by decide))
 obtain ⟨pb,v,hpb,rfl,HTK,hv⟩:=f4 (hall 4 (by decide))
 obtain rfl:=hv (hall 5 (by decide))
 obtain ⟨rfl,_⟩:=f6 (hall 6 (by decide))
 obtain rfl:=f0 (hall 0 (by decide))
 obtain rfl:=f2 (hall 2 (by decide))
 have HN3:Hid (BoolT w3 gN (nullN G)):=LH HTN
 have HP3:Hid (BoolT w3 gP (prodN G)):=LH HTP
 have HK3:Hid (Blk w3 pb 97 #[Value.slice (some ⟨gN,0,none⟩) n2 n2]):=LH HTK
 have HB3:=LH (below_tail HB1.out hB3)
 have Hbx3:=LH (Hbx1.out.below hB3)
 clear f0 f2 f1 f3 f4 f5 f6 hall hgN hgP hpb HTN HTP HTK hv hB3 CN CP HS y0 y1 y2 y3 y5
 have ⟨y5,y0,y1,y2,y3⟩:=Hbx3.out
 simp only [] at y0 y1 y2 y3
 go_upto_region 5 with fail
 have hT0:=SetT.new w3 (List.replicate n2 0)
 have hB40:=alloc_below w3 (.cells (nums .u32 (List.replicate n2 0)).toArray 49)
 generalize w3.alloc (.cells (nums .u32 (List.replicate n2 0)).toArray 49)=W4 at *
 generalize hgS:w3.heap.size=gS at *
 have HgS:=LH hgS
 have HT0:=LH hT0
 have HB40:=LH hB40
 have hbx4:=Hbx3.out.below (by rw [HgS.out];exact hB40)
 clear hgS hT0 hB40 y0 y1 y2 y3 y5 hmk
 have ⟨y5,y0,y1,y2,y3⟩:=hbx4
 simp only [] at y0 y1 y2 y3
 clear hbx4
 go_wp2_with fail
 clear y0 y1 y2 y3 y5
 go_loopw [25] (fun i wr=>∃ j:Nat,j≤n3∧i = .int .i64 (j:Int)∧Hid (Below gS w3 wr)∧Hid (SetT wr gS (passSt (nullN G) (prodN G) (G.rules.take j) (List.replicate n2 0)))) (fun i _=>n3 - (intOf i).toNat)
 case atStart=>exact ⟨0,Nat.zero_le _,rfl,HB40,LH (by simpa [passSt] using HT0.out)⟩
 case round =>
  obtain ⟨j,hj,rfl,HB,HT⟩:=hrel
  have hgs3:w3.heap.size=gS:=HgS.out
  have HBw:=LH (HB3.out.trans (HB.out.mono (by rw [← hgs3];exact HB3.out.size)))
  have hbx:=Hbx3.out.below (by rw [hgs3];exact HB.out)
  clear hgs3 hbx
  by_cases hjj:j < n3
  case neg =>
   obtain rfl:j=n3:=by omega
   have Hf:Hid (SetT wr gS (stepsN G)):=LH (by have:=HT.out;rw [List.take_of_length_le (by omega)] at this;unfold stepsN;rw [e2];exact this)
   go_wp2_with fail
   go_ret
   exact ⟨HBw.out, .inr ⟨Hrt.out,gS,by rw [← HgS.out];exact HB3.out.size,rfl,Hf.out⟩⟩
  case pos =>
   obtain ⟨bb,off,r,Ar,cr,rfl,hb0,Hr,q0,q1,q2,hrrw⟩:=Hg.out.rules.get hjj
   rw [← HBw.out.cell (by exact hb0)] at q0 q1 q2
   have hb:bb < wr.heap.size:=Nat.lt_of_lt_of_le hb0 HBw.out.size
   have HrrW:=LH hrrw
   have hmem:=List.mem_of_getElem? Hr.out
   have Hnx:Hid (passSt (nullN G) (prodN G) (G.rules.take (j+1)) (List.replicate n2 0)=posSt (nullN G) (prodN G) r r.right.length (passSt (nullN G) (prodN G) (G.rules.take j) (List.replicate n2 0))):=LH (by rw [take_snoc' Hr.out,passSt_snoc])
   have hcl:(passSt (nullN G) (prodN G) (G.rules.take j) (List.replicate n2 0)).length=n2:=by rw [passSt_len];simp
   have hcs:=passSt_small (nullN G) (prodN G) (G.rules.take j) (Small.zero n2)
   generalize passSt (nullN G) (prodN G) (G.rules.take j) (List.replicate n2 0)=cur at *
   obtain ⟨l1,l2⟩:=Hfit.out.left r hmem
   obtain ⟨jl,hjl⟩:∃ jl:Nat,r.left=(jl:Int):=⟨r.left.toNat,by omega⟩
   have hjl2:jl < n2:=by omega
   have Hjl:Hid (r.left.toNat=jl):=LH (by omega)
   have hlen:=Hfit.out.len r hmem
   have hsy:=Hfit.out.symB hmem
   rw [e2] at hsy
   rw [hjl] at q0
   have Hsy:=LH hsy
   have Hcl:=LH hcl
   have Hcs:=LH hcs
   have hbA:=alloc_below wr (.cells #[.int .i64 (jl:Int), .slice Ar r.right.length cr, .int .i64 r.prec] 52)
   have hRb:=Blk.new wr 52 #[.int .i64 (jl:Int), .slice Ar r.right.length cr, .int .i64 r.prec]
   have hgw:gS < wr.heap.size:=HT.out.lt
   clear hrrw hsy hcl hcs l1 l2 hjl hmem
   go_upto_region 8 with fail
   have HTA:Hid (SetT (wr.alloc (.cells #[.int .i64 (jl:Int), .slice Ar r.right.length cr, .int .i64 r.prec] 52)) gS cur):=LH (Blk.ext HT.out hbA)
   have HBA:=LH (HB.out.trans (hbA.mono (Nat.le_of_lt hgw)))
   have HRb:=LH hRb
   have hgRS:gS < wr.heap.size:=hgw
   generalize wr.alloc (.cells #[.int .i64 (jl:Int), .slice Ar r.right.length cr, .int .i64 r.prec] 52)=WA at *
   generalize wr.heap.size=gR at *
   clear hbA hRb q0 q1 q2 HT HB HBw hb
   have hlA:gS < WA.heap.size:=HTA.out.lt
   have hRA:=HRb.out.lt
   have r0:WA.cell? ⟨gR,0,none⟩=some (.int .i64 (jl:Int)):=HRb.out.cell 0
   have r1:WA.cell? ⟨gR,1,none⟩=some (.slice Ar r.right.length cr):=HRb.out.cell 1
   have HBAw:=LH (HB3.out.trans (HBA.out.mono (by rw [← HgS.out];exact HB3.out.size)))
   have hgN:gN < gS:=by have:=HN3.out.lt;rw [HgS.out] at this;exact this
   have hgP:gP < gS:=by have:=HP3.out.lt;rw [HgS.out] at this;exact this
   have hgK:pb < gS:=by have:=HK3.out.lt;rw [HgS.out] at this;exact this
   have CC:=LH (tr_Clone Ar r.right.length cr r.right WA (HrrW.out.below HBAw.out) (by omega))
   have HNL:Hid ((nullN G).length=n2):=LH (by rw [nullN_grown,grownN_len];exact e2)
   have CD:=LH fun X v' (hB:Below WA.heap.size WA X) (hown:X.ownsRow WA.heap.size 3 1 v' r.right.length (ints .i64 r.right))=>(tr_Del WA.heap.size pb gN n2 r.right.length (nullN G) r.right v' X hown
    ⟨by rw [(hB.cell (p:=⟨pb,0,none⟩) (by show pb < _;omega)).trans ((HBA.out.cell (p:=⟨pb,0,none⟩) hgK))];exact HK3.out.cell 0,fun i hi=>by rw [(hB.cell (p:=⟨gN,i,none⟩) (by show gN < _;omega)).trans ((HBA.out.cell (p:=⟨gN,i,none⟩) hgN))];exact HN3.out.at (by rw [HNL.out];exact hi)⟩ (by omega) (by omega) hB.size (by omega) Hsy.out).mono fun e w' hh=>And.intro hh.1 (hB.trans hh.2)
   go_wp2_with (first
    | (go_at_call 70;(with_reducible refine CC.out.mono ?_);rintro e wc ⟨v',rfl,hown,hBc⟩)
    | (go_at_call 146;(with_reducible refine (CD.out _ _ hBc hown).mono ?_);rintro e wd ⟨⟨Ab,cb,rfl,hbare⟩,hBd⟩;have r1d:=(hBd.cell (p:=⟨gR,1,none⟩) hRA).trans r1))
   have HBd:=LH (HBA.out.trans (hBd.mono (Nat.le_of_lt hlA)))
   have HRd:=LH (Blk.ext HRb.out hBd)
   have HTd:Hid (SetT wd gS cur):=LH (Blk.ext HTA.out hBd)
   have Hbare:=LH hbare
   have hld:gS < wd.heap.size:=HTd.out.lt
   have hcapr:=HrrW.out.cap
   clear hown hBc hBd hbare r1d r0 r1 CC CD
   go_loopw [37] (fun i wz=>∃ kk:Nat,kk≤r.right.length∧i = .int .i64 (kk:Int)∧Hid (SetT wz gS (posSt (nullN G) (prodN G) r kk cur))∧Hid (wd.grownBy wz (some gS))) (fun i _=>r.right.length - (intOf i).toNat)
   case atStart=>exact ⟨0,Nat.zero_le _,rfl,HTd,LH (grown_refl _ _)⟩
   case round =>
    obtain ⟨kk,hkk,rfl,HT,Hgr⟩:=hrel
    have hRS:gR ≠ gS:=by omega
    have hRz:=HRd.out.grown Hgr.out (by intro e;injection e with e;exact hRS e)
    have r0:wr.cell? ⟨gR,0,none⟩=some (.int .i64 (jl:Int)):=hRz.cell 0
    have hRl:gR < wr.heap.size:=hRz.lt
    have HBz:=LH (HBd.out.trans (grown_is_below Hgr.out (Nat.le_of_lt hld) (Nat.le_refl _)))
    have HBzw:=LH (HB3.out.trans (HBz.out.mono (by rw [← HgS.out];exact HB3.out.size)))
    have hcl3:(posSt (nullN G) (prodN G) r kk cur).length=n2:=by rw [posSt_len];exact Hcl.out
    have hsm3:=posSt_small (nullN G) (prodN G) r Hcs.out kk
    have Hrrz:=LH (HrrW.out.below HBzw.out)
    have hgw:gS < wr.heap.size:=HT.out.lt
    by_cases hkl:kk < r.right.length
    case neg =>
     obtain rfl:kk=r.right.length:=by omega
     clear hcl3 hsm3 hRz
     go_wp2_with fail
     go_roundw
     case rel=>exact ⟨j+1,by omega,by go_num,HBz,LH (by rw [Hnx.out];exact HT.out)⟩
     case measure=>simp [intOf];omega
    case pos =>
     obtain ⟨sb,so,s,rfl,hsb,Hs,qs⟩:=Hrrz.out.get hkl
     have hs1:=Hsy.out s (List.mem_of_getElem? Hs.out)
     have hnx:=posSt_succ (nullN G) (prodN G) r kk cur
     have hgs:growSt (nullN G) (prodN G) r kk (posSt (nullN G) (prodN G) r kk cur)=if standsR (nullN G) (prodN G) r.right kk s then addAt jl (bitN (-1 - s)) (posSt (nullN G) (prodN G) r kk cur) else posSt (nullN G) (prodN G) r kk cur:=by unfold growSt;rw [Hs.out];simp only [Hjl.out]
     have Hnx2:=LH (hnx.trans hgs)
     have hat:=HT.out.at (i:=jl) (by rw [hcl3];exact hjl2)
     have hPw:BoolT wr gP (prodN G):=Blk.below HP3.out HBz.out hgP
     have HPL:Hid ((prodN G).length=n2):=LH (by rw [prodN_len];exact e2)
     have hst:=(stands_eq (null_prod G) Hs.out).symm
     unfold standsP at hst
     have hbget:∀ k,k < (bareL (nullN G) r.right).length→∃ b o x,Ab=some ⟨b,o,none⟩∧b < wr.heap.size∧Hid ((bareL (nullN G) r.right)[k]? = some x)∧wr.cell? ⟨b,o+k,none⟩=some (.int .i64 x):=fun k hk=>by
      obtain ⟨b,o,x,e,hb,Hx,hc⟩:=Hbare.out.get hk
      have hne:b ≠ gS:=by
       rintro rfl
       have h2:=HTd.out.cell (o+k)
       rw [hc] at h2
       have h3:((nums .u32 cur).toArray)[o+k]? = some (Value.int .i64 x):=h2.symm
       simp [nums] at h3
      exact ⟨b,o,x,e,Nat.lt_of_lt_of_le hb Hgr.out.size,Hx,(grown_frozen Hgr.out hb hne).trans hc⟩
     have hcapb:=Hbare.out.cap
     have Hst:=LH hst
     have HbG:=LH hbget
     clear hnx hgs hst hRz hbget Hbare
     generalize bareL (nullN G) r.right=lb at *
     have Hskip:Hid (standsR (nullN G) (prodN G) r.right kk s=false→Hid (SetT wr gS (posSt (nullN G) (prodN G) r (kk+1) cur))):=LH fun hf=>LH (by rw [Hnx2.out,hf];exact HT.out)
     by_cases h0:0≤s
     · have Hf:=Hskip.out (by rw [Hst.out,show decide (s < 0)=false by rw [decide_eq_false_iff_not];omega];rfl)
       clear hcl3 hsm3
       go_wp2_with fail
       go_roundw
       case rel=>exact ⟨kk+1,by omega,by go_num,Hf,Hgr⟩
       case measure=>simp [intOf];omega
     have hneg:decide (s < 0)=true:=by rw [decide_eq_true_iff];omega
     obtain ⟨jp,hjp,hnj,hw⟩:=non_place (s:=s) (n:=n2) (by omega) hs1.1 (by omega)
     have c0:=BoolT.at hPw (i:=jp) (by rw [HPL.out];exact hjp)
     have Hnj:=LH hnj
     have Hst2:Hid (standsR (nullN G) (prodN G) r.right kk s=((true && (prodN G).getD jp false) && (decide (lb.length=0) || (decide (lb.length=1) && decide (lb[0]? = some s))))):=LH (by rw [Hst.out,hneg,Hnj.out])
     clear hnj hPw Hst
     have Hst:=Hst2
     clear Hst2
     generalize (prodN G).getD jp false=pv at *
     rcases pv with _ | _
     · have Hf:=Hskip.out (by rw [Hst.out];rfl)
       clear hcl3 hsm3
       go_wp2_with fail
       go_roundw
       case rel=>exact ⟨kk+1,by omega,by go_num,Hf,Hgr⟩
       case measure=>simp [intOf];omega
     rcases (by omega:lb.length=0∨lb.length=1∨2≤lb.length) with hm | hm | hm
     · have Hm:=LH hm
       rw [hm] at Hst
       generalize lb.length=m at *
       subst hm
       have hstt:standsR (nullN G) (prodN G) r.right kk s=true:=by rw [Hst.out];rfl
       have Hnx3:Hid (posSt (nullN G) (prodN G) r (kk+1) cur=addAt jl (bitN (-1 - s)) (posSt (nullN G) (prodN G) r kk cur)):=LH (by rw [Hnx2.out,hstt];rfl)
       have hsj:-1 - s=(jp:Int):=by have:=Hnj.out;unfold nonI at this;omega
       rw [hsj] at Hnx3
       have hlo:=hsm3.get jl
       have hhi:=bitN_lt (jp:Int)
       have hor:=or32 ((posSt (nullN G) (prodN G) r kk cur).getD jl 0) (bitN (jp:Int)) hlo hhi
       have Hput:=LH fun x:Ext wr=>SetT.put (Blk.ext HT.out (bl_below wr x):SetT (bl wr x) gS (posSt (nullN G) (prodN G) r kk cur)) jl ((posSt (nullN G) (prodN G) r kk cur).getD jl 0 ||| bitN (jp:Int))
       have hfz:=Blk.frozen HT.out jl
       have CB:=LH fun x:Ext wr=>tr_one (jp:Int) (bl wr x)
       unfold addAt at Hnx3
       generalize (posSt (nullN G) (prodN G) r kk cur).getD jl 0 ||| bitN (jp:Int)=z at *
       generalize (posSt (nullN G) (prodN G) r kk cur).getD jl 0=old at *
       generalize bitN (jp:Int)=bv at *
       have bc:=bl_cell wr
       have bf:=bl_frozen wr
       clear hstt hcl3 hsm3
       go_upto_region 13 with fail
       refine wp_region_below_tail 10 (by kernel_rfl) (by kernel_rfl) ?_
       simp only [List.take_succ_cons,List.take_zero,List.drop_succ_cons,List.drop_zero]
       repeat (go_big_quiet_step ((go_at_call 90;with_reducible exact bl_of (CB.out _))))
       refine wpQuiet_nil ?_
       rintro _ ⟨x,rfl⟩
       have hcx:=(bc x gS jl hgw).trans hat
       have hfx:=(bf x gS jl hgw).trans hfz
       have hsx:=bl_size wr x
       go_wp2_with fail
       go_roundw
       case rel=>exact ⟨kk+1,by omega,by go_num,LH (by rw [Hnx3.out];exact Hput.out x),LH (grown_trans (grown_trans Hgr.out (grown_below _ (bl_below wr x))) (grown_set _ _ _ _))⟩
       case measure=>simp [intOf];omega
     · obtain ⟨xb,xo,x,rfl,hxb,Hx,qx⟩:=HbG.out 0 (by omega)
       have Hx0:Hid (decide (lb[0]? = some s)=decide (x=s)):=LH (by rw [Hx.out];simp)
       rw [hm,Hx0.out] at Hst
       have hx0:wr.cell? ⟨xb,xo,none⟩=some (.int .i64 x):=qx
       generalize lb.length=m at *
       subst hm
       clear qx
       by_cases hxs:x=s
       · subst hxs
         have hstt:standsR (nullN G) (prodN G) r.right kk x=true:=by rw [Hst.out];simp
         have Hnx3:Hid (posSt (nullN G) (prodN G) r (kk+1) cur=addAt jl (bitN (-1 - x)) (posSt (nullN G) (prodN G) r kk cur)):=LH (by rw [Hnx2.out,hstt];rfl)
         have hsj:-1 - x=(jp:Int):=by have:=Hnj.out;unfold nonI at this;omega
         rw [hsj] at Hnx3
         have hlo:=hsm3.get jl
         have hhi:=bitN_lt (jp:Int)
         have hor:=or32 ((posSt (nullN G) (prodN G) r kk cur).getD jl 0) (bitN (jp:Int)) hlo hhi
         have Hput:=LH fun x:Ext wr=>SetT.put (Blk.ext HT.out (bl_below wr x):SetT (bl wr x) gS (posSt (nullN G) (prodN G) r kk cur)) jl ((posSt (nullN G) (prodN G) r kk cur).getD jl 0 ||| bitN (jp:Int))
         have hfz:=Blk.frozen HT.out jl
         have CB:=LH fun x:Ext wr=>tr_one (jp:Int) (bl wr x)
         unfold addAt at Hnx3
         generalize (posSt (nullN G) (prodN G) r kk cur).getD jl 0 ||| bitN (jp:Int)=z at *
         generalize (posSt (nullN G) (prodN G) r kk cur).getD jl 0=old at *
         generalize bitN (jp:Int)=bv at *
         have bc:=bl_cell wr
         have bf:=bl_frozen wr
         clear hstt hcl3 hsm3
         go_upto_region 13 with fail
         refine wp_region_below_tail 10 (by kernel_rfl) (by kernel_rfl) ?_
         simp only [List.take_succ_cons,List.take_zero,List.drop_succ_cons,List.drop_zero]
         repeat (go_big_quiet_step ((go_at_call 90;with_reducible exact bl_of (CB.out _))))
         refine wpQuiet_nil ?_
         rintro _ ⟨x,rfl⟩
         have hcx:=(bc x gS jl hgw).trans hat
         have hfx:=(bf x gS jl hgw).trans hfz
         have hsx:=bl_size wr x
         go_wp2_with fail
         go_roundw
         case rel=>exact ⟨kk+1,by omega,by go_num,LH (by rw [Hnx3.out];exact Hput.out x),LH (grown_trans (grown_trans Hgr.out (grown_below _ (bl_below wr x))) (grown_set _ _ _ _))⟩
         case measure=>simp [intOf];omega
       · have Hf:=Hskip.out (by rw [Hst.out,show decide (x=s)=false by rw [decide_eq_false_iff_not];exact hxs];rfl)
         clear hcl3 hsm3
         go_wp2_with fail
         go_roundw
         case rel=>exact ⟨kk+1,by omega,by go_num,Hf,Hgr⟩
         case measure=>simp [intOf];omega
     · have Hf:=Hskip.out (by rw [Hst.out,show decide (lb.length=0)=false by rw [decide_eq_false_iff_not];omega,show decide (lb.length=1)=false by rw [decide_eq_false_iff_not];omega];rfl)
       have g0:¬ ((lb.length:Int)=0):=by omega
       have g1:¬ ((lb.length:Int)=1):=by omega
       generalize lb.length=m at *
       clear hcl3 hsm3
       go_wp2_with fail
       go_roundw
       case rel=>exact ⟨kk+1,by omega,by go_num,Hf,Hgr⟩
       case measure=>simp [intOf];omega
theorem stepsSaid:StepsSaid:=tr_Steps
end Go.Proofs.YtggbjdmpjidhgaaGreatDoor
