/- the reference's reading: a grammar is built: a rule. -/
import Derived.Test.YtggbjdmpjidhgaaGreatDoorQPs13
set_option linter.unusedVariables false
set_option linter.unusedSimpArgs false
set_option maxHeartbeats 8000000
set_option maxRecDepth 100000
namespace Go.Proofs.YtggbjdmpjidhgaaGreatDoor
open Go.RowKit
theorem termP_keep {G G':Gr} {s:ByteArray} {i:Int} (h:termP G s=some (i,G')) (h1:G.terms.length≤24):G'.nons=G.nons∧G'.rules=G.rules∧G'.start=G.start∧-17≤i∧i≤24:=by
 unfold termP at h
 by_cases h0:0≤G.term s
 · rw [if_pos h0] at h
   simp only [Option.some.injEq,Prod.mk.injEq] at h
   obtain ⟨rfl,rfl⟩:=h
   have h2:=(findI_lo (fun t=>decide (t.name=s)) G.terms).2
   have h3:G.term s=findI (fun t=>decide (t.name=s)) G.terms:=rfl
   exact ⟨rfl,rfl,rfl,by omega,by omega⟩
 · rw [if_neg h0] at h
   split at h
   · cases h
   · simp only [Option.some.injEq,Prod.mk.injEq] at h
     obtain ⟨rfl,rfl⟩:=h
     exact ⟨rfl,rfl,rfl,by omega,by omega⟩
theorem symbolP_keep {may:Bool} {G G':Gr} {s:ByteArray} {i:Int} (h:symbolP may G s=some (i,G')) (h1:G.terms.length≤24) (h2:G.nons.length≤16):G'.nons=G.nons∧G'.rules=G.rules∧G'.start=G.start∧-17≤i∧i≤24:=by
 rcases symbolP_ways h with ⟨h0,_,rfl,rfl⟩ | ⟨_,h0,_⟩
 · have h3:=(findI_lo (fun t=>decide (t=s)) G'.nons).2
   have h4:G'.non s=findI (fun t=>decide (t=s)) G'.nons:=rfl
   exact ⟨rfl,rfl,rfl,by omega,by omega⟩
 · exact termP_keep h0 h1
theorem rightsP_step {G:Gr} {l:List ByteArray} {k:Nat} {acc:List Int} {pr:Int} {R:Gr × List Int × Int} {s:ByteArray} (h:rightsP G (l.drop k) acc pr=some R) (hs:l[k]? = some s) :
 namedB s=true∧acc.length ≠ 6∧∃ x G2,symbolP true G s=some (x,G2)∧rightsP G2 (l.drop (k+1)) (acc++[x]) (if 0≤x then x else pr)=some R:=by
 rw [drop_get hs] at h
 unfold rightsP at h
 by_cases h1:namedB s=true
 · rw [if_neg (by simp [h1])] at h
   split at h
   · cases h
   · rename_i h2
     refine ⟨h1,h2,?_⟩
     split at h
     · cases h
     · rename_i x G2 h3
       exact ⟨x,G2,h3,h⟩
 · rw [if_pos (by simpa using h1)] at h
   cases h
theorem own_unique {w:World} {base base' e e' size:Nat} {v:Value} {n:Nat} {xs ys:List Value} (h:w.ownsRow base e size v n xs) (h':w.ownsRow base' e' size v n ys):xs=ys:=by
 have l1:=h.1
 have l2:=h'.1
 rcases h.2 with ⟨_,rfl⟩ | ⟨g,cap,cur,hv,_,hg,_,_,_,ht⟩
 · simp at l1 l2
   rw [l1,l2]
 · rcases h'.2 with ⟨hv',rfl⟩ | ⟨g',cap',cur',hv',_,hg',_,_,_,ht'⟩
   · simp at l1 l2
     rw [l1,l2]
   · rw [hv] at hv'
     injection hv' with h1 h2 h3
     injection h1 with h1
     injection h1 with h1
     subst h1
     rw [hg] at hg'
     injection hg' with hg'
     injection hg' with hg1 hg2 hg3
     rw [← ht,← ht',hg1]
theorem right_more {w w3 w4 w6:World} {p gR j c4 cx Bc:Nat} {h h3:GH} {G3:Gr} {Ax A4:Option Addr} {acc:List Int} {xv:Int} {P:Array Value} (hk3:Wk w3 p w.heap.size h3 G3) (hT:Turn w w3 p h h3)
 (ho3:w3.ownsRow Bc 3 1 (.slice Ax j cx) j (ints .i64 acc)) (hnx:∀ b,(Value.slice Ax j cx).ownBlock=some b→¬ foot p h3 b) (hgR:¬ foot p h3 gR) (hgR2:w.heap.size < gR) (hgB:gR < Bc) (hBc:Bc≤w3.heap.size)
 (hP:Blk w3 w.heap.size 199 P) (ho4:w4.ownsRow Bc 3 1 (.slice A4 (j+1) c4) (j+1) (ints .i64 acc++[.int .i64 xv])) (hgr:w3.grownBy w4 (Value.slice Ax j cx).ownBlock)
 (ha:∀ b,(Value.slice A4 (j+1) c4).ownBlock=some b→b < w3.heap.size→(Value.slice Ax j cx).ownBlock=some b) (hg6:w4.grownBy w6 (some gR)) :
 Wk w6 p w.heap.size h3 G3∧Turn w w6 p h h3∧w6.ownsRow Bc 3 1 (.slice A4 (j+1) c4) (j+1) (ints .i64 (acc++[xv]))∧(∀ b,(Value.slice A4 (j+1) c4).ownBlock=some b→¬ foot p h3 b)∧Blk w6 w.heap.size 199 P∧w3.heap.size≤w6.heap.size:=by
 have s4:=hgr.size
 have s6:=hg6.size
 have sT:=hT.size
 have hown:∀ b,(Value.slice Ax j cx).ownBlock=some b→Bc≤b∧b < w3.heap.size:=fun b hb=>ho3.lt b hb
 have key:∀ b,b < w3.heap.size→b ≠ gR→(Value.slice Ax j cx).ownBlock ≠ some b→w6.heap[b]? = w3.heap[b]? := fun b hb h1 h2 =>
  (hg6.block b (by omega) (by intro e;injection e with e;exact h1 e)).trans (hgr.block b hb fun e=>h2 e.symm)
 have low:∀ b,b≤w.heap.size→(Value.slice Ax j cx).ownBlock ≠ some b:=fun b hb e=>by have:=(hown b e).1;omega
 refine ⟨hk3.away (by omega) fun b hb hf=>key b hb ?_ ?_,⟨hg6.os.trans (hgr.os.trans hT.os),hg6.tape.trans (hgr.tape.trans hT.tape),hg6.output.trans (hgr.output.trans hT.output),by omega,fun b hb hn=>?_,hT.back⟩,?_,fun b hb hf=>?_,?_,by omega⟩
 · rcases hf with hf | hf
   · intro e;rw [e] at hf;exact hgR hf
   · omega
 · rcases hf with hf | hf
   · intro e;exact hnx b e hf
   · exact low b (by omega)
 · rw [key b (by omega) (by omega) (low b (by omega)),hT.keep b hb hn]
 · rw [ints_snoc]
   exact own_kept ho4 fun b hb _ hlt=>hg6.block b hlt (by intro e;injection e with e;omega)
 · have:=hk3.foot_lt hf
   exact hnx b (ha b hb this) hf
 · exact (key _ hP.lt (by omega) (low _ (Nat.le_refl _))).trans hP
structure Begun (W wx:World) (g:Nat) (n:Int):Prop where
 lo:W.heap.size≤g
 blk:Blk wx g 52 #[.int .i64 n, .slice none 0 0, .int .i64 (-1)]
 bel:Below W.heap.size W wx
theorem Begun.late {W w2:World} {n:Int} (hb:Below W.heap.size W w2):Begun W (w2.alloc (.cells #[.int .i64 n, .slice none 0 0, .int .i64 (-1)] 52)) w2.heap.size n :=
 ⟨hb.size,Blk.new _ _ _,below_alloc hb _⟩
theorem Begun.early {W w2:World} {n:Int} {o:Obj} (hb:Below (W.alloc o).drew.heap.size (W.alloc o).drew w2) (hB:Blk w2 W.heap.size 52 #[.int .i64 0, .slice none 0 0, .int .i64 0]) :
 Begun W (((w2.setCell ⟨W.heap.size,0,none⟩ (.int .i64 n)).setCell ⟨W.heap.size,1,none⟩ (.slice none 0 0)).setCell ⟨W.heap.size,2,none⟩ (.int .i64 (-1))) W.heap.size n:=by
 have h1:Below W.heap.size W w2:=below_tail ((alloc_below W o).drew) hb
 exact ⟨Nat.le_refl _,((hB.set 0 (.int .i64 n)).set 1 (.slice none 0 0)).set 2 (.int .i64 (-1)),below_set (below_set (below_set h1 _ _ _ (Nat.le_refl _)) _ _ _ (Nat.le_refl _)) _ _ _ (Nat.le_refl _)⟩
theorem wk_prod (p:Nat) {B:Nat} (h:GH) (G G':Gr) (q:Prd) (Ar:Option Addr) (cr x y x' y':Nat) (w:World) (k:Wk w p B h G) (hB:B≤w.heap.size) (hR:∀ w',Below p w w'→Rfs w' Ar q.right.length cr q.right) (hn:q.right.length≤4000) (hq:prodP G q=some G') :
 Calls Tryz.prog 140 #[.pointer (some ⟨p,0,none⟩), .agg #[.string q.left, .complex .f64 x y, .slice Ar q.right.length cr, .string q.prec, .complex .f64 x' y']] w fun e w'=>e = .returned (.tuple #[])∧∃ h',Wk w' p w'.heap.size h' G'∧Turn w w' p h h':=by
 have hln:=(hR w (Below.refl _ _)).1
 have hcap:=(hR w (Below.refl _ _)).2.1
 have hcap2:=(hR w (Below.refl _ _)).2.2.1
 obtain ⟨q40,G1,l,pr1,qr,qG⟩:G.rules.length ≠ 40∧∃ G1 l pr1,rightsP G q.right [] (-1)=some (G1,l,pr1) ∧
  ((q.prec=⟨#[]⟩∧G'={ G1 with rules:=G1.rules++[⟨G.non q.left,l,pr1⟩] })∨(q.prec ≠ ⟨#[]⟩∧namedB q.prec=true∧∃ xv G2,symbolP false G1 q.prec=some (xv,G2)∧G'={ G2 with rules:=G2.rules++[⟨G.non q.left,l,xv⟩] })):=by
  unfold prodP at hq
  split at hq
  · cases hq
  · rename_i h40
    split at hq
    · cases hq
    · rename_i G1 l pr hr
      refine ⟨h40,G1,l,pr,hr,?_⟩
      split at hq
      · rename_i hp
        injection hq with hq
        exact .inl ⟨hp,hq.symm⟩
      · rename_i hp
        split at hq
        · cases hq
        · rename_i hnm
          split at hq
          · cases hq
          · rename_i xv G2 hsy
            injection hq with hq
            exact .inr ⟨hp,by simpa using hnm,xv,G2,hsy,hq.symm⟩
 obtain ⟨a1,n1,c1,a2,n2,c2,a3,n3,c3⟩:=h
 obtain ⟨l1,l2,l3⟩:=k.lens
 simp only [] at l1 l2 l3
 have hn1:n1≤24:=k.b1
 have hn2:n2≤16:=k.b2
 have hst:=k.st
 have hlo:=findI_lo (fun t=>decide (t=q.left)) G.nons
 have hni:-1≤G.non q.left∧G.non q.left < (n2:Int):=by rw [← l2];exact hlo
 have hB1:=alloc_below w (.cells #[.string q.left, .complex .f64 x y, .slice Ar q.right.length cr, .string q.prec, .complex .f64 x' y'] 199)
 have hbx:=Blk.new w 199 #[.string q.left, .complex .f64 x y, .slice Ar q.right.length cr, .string q.prec, .complex .f64 x' y']
 have hk1:=(k.mono hB).below hB1
 have HR:=LH hR
 have Hk:=LH k
 have Hqr:=LH qr
 have HqG:=LH qG
 have e40:((n3:Int) == 40)=false:=by rw [beq_eq_false_iff_ne];rw [l3] at q40;omega
 have hn3:n3 < 40:=by have:n3≤40:=k.b3;rw [l3] at q40;omega
 have hR0:Hid (rightsP G (q.right.drop 0) [] (-1)=some (G1,l,pr1)):=LH qr
 have hiI:(Tryz.prog.info? 3).map (fun i=>(i.zero,i.size,i.bytes))=some (some (.int .i64 0),1,8):=by kernel_rfl
 have hi3:(Tryz.prog.info? 52).map (fun i=>(i.zero,i.size,i.bytes))=some (some (.agg #[.int .i64 0, .slice none 0 0, .int .i64 0]),3,40):=by kernel_rfl
 have HiI:=LH hiI
 have Hi3:=LH hi3
 have ksc:∀ (w:World) (a:Addr) (k:FloatKind) (x y:Nat) (m:Mode),(store a (.complex k x y) m).run Tryz.prog w=stored Tryz.prog w a (.complex k x y) m:=fun w a k x y m=>run_store Tryz.prog w a _ m rfl
 clear k hR qr qG hq q40 hiI hi3 hlo hln
 generalize hN:q.right.length=N at *
 generalize q.left=L at *
 generalize q.prec=PR at *
 go_enter Tryz.func140,Tryz.ntmps140
 go_wp2_with fail
 generalize hW1:w.alloc (.cells #[.string L, .complex .f64 x y, .slice Ar N cr, .string PR, .complex .f64 x' y'] 199)=W1 at *
 have hlb:w.heap.size < W1.heap.size:=hbx.lt
 obtain ⟨hp,z0,z1,z2,z3,z7,z10,v0,v1,v2⟩:=hk1.cells
 have y0:W1.cell? ⟨w.heap.size,0,none⟩=some (.string L):=hbx.cell 0
 simp only [] at z0 z1 z2
 have cN:=fun (W:World) (hW:Below W1.heap.size W1 W)=>rf_non ⟨a1,n1,c1,a2,n2,c2,a3,n3,c3⟩ G L W (hk1.grAt.below hW) (by simp only [];omega)
 rw [hst] at cN
 have CN:=LH cN
 have Hk1:=LH hk1
 have Hbx:=LH hbx
 have HB1:=LH hB1
 generalize hnl:G.non L=ni at *
 have hst:=LH hst
 have hl1:=LH l1
 have hl2:=LH l2
 have hl3:=LH l3
 clear cN hk1 hbx hW1 hB1 l1 l2 l3
 go_upto_region 1 with fail
 go_cut [4] (fun v wx=>∃ gR,v = .pointer (some ⟨gR,0,none⟩)∧Begun W1 wx gR ni)
 case first =>
  have hA:=LH ((Below.refl W1.heap.size W1).drew)
  have hBb:=LH ((alloc_below W1 (.cells #[.int .i64 0, .slice none 0 0, .int .i64 0] 52)).drew)
  go_region_with (first
   | (go_at_call 120;refine (CN.out _ (by exact hA.out)).mono ?_;rintro e w2 ⟨rfl,hB2⟩)
   | (go_at_call 120;refine (CN.out _ (by exact hBb.out)).mono ?_;rintro e w2 ⟨rfl,hB2⟩
      have hbB:Blk w2 W1.heap.size 52 #[.int .i64 0, .slice none 0 0, .int .i64 0]:=Blk.ext (Blk.drew (Blk.new W1 _ _)) hB2
      have r0:=hbB.frozen 0
      have r1:=hbB.frozen 1
      have r2:=hbB.frozen 2
      have s0:w2.cell? ⟨W1.heap.size,0,none⟩=some (.int .i64 0):=hbB.cell 0
      have s1:w2.cell? ⟨W1.heap.size,1,none⟩=some (.slice none 0 0):=hbB.cell 1
      have s2:w2.cell? ⟨W1.heap.size,2,none⟩=some (.int .i64 0):=hbB.cell 2
      have HbB:=LH hbB
      clear hbB))
  all_goals
   go_wp2_with fail
   go_meet
   first
    | exact ⟨_,rfl,Begun.late (below_tail ((Below.refl W1.heap.size W1).drew) hB2)⟩
    | exact ⟨_,rfl,Begun.early hB2 HbB.out⟩
 case rest =>
  obtain ⟨gR,rfl,hM⟩:=hcut
  have hkc:=Hk1.out.below hM.bel
  have hbxc:=Hbx.out.ext hM.bel
  have hbR:=hM.blk
  have hlo:=hM.lo
  have nfR:¬ foot p ⟨a1,n1,c1,a2,n2,c2,a3,n3,c3⟩ gR:=fun hf=>by have:=Hk1.out.foot_lt hf;omega
  have nfP:¬ foot p ⟨a1,n1,c1,a2,n2,c2,a3,n3,c3⟩ w.heap.size:=fun hf=>by have:=Hk.out.foot_lt hf;omega
  have hTc:=Turn.of_below (below_tail HB1.out hM.bel) p ⟨a1,n1,c1,a2,n2,c2,a3,n3,c3⟩
  have hgRc:gR < wc.heap.size:=hbR.lt
  have hgPc:w.heap.size < wc.heap.size:=hbxc.lt
  obtain ⟨hpc,kk0,kk1,kk2,kk3,kk7,kk10,_,_,_⟩:=hkc.cells
  simp only [] at kk0 kk1 kk2
  have Hkc:=LH hkc
  have Hbxc:=LH hbxc
  have HbR:=LH hbR
  have HnfR:=LH nfR
  have HnfP:=LH nfP
  have HTc:=LH hTc
  have hpw:p < w.heap.size:=Hk.out.lt
  clear hkc hbxc hbR nfR nfP hTc hM z0 z1 z2 z3 z7 z10 v0 v1 v2 y0 CN
  go_wp2_with fail
  go_loopw [5] (fun v wr=>∃ (j:Nat) (h2:GH) (G2:Gr) (acc:List Int) (pr:Int) (Ax:Option Addr) (cx:Nat),v = .int .i64 (j:Int)∧j≤N∧wc.heap.size≤wr.heap.size∧Hid (Wk wr p w.heap.size h2 G2)∧Hid (rightsP G2 (q.right.drop j) acc pr=some (G1,l,pr1))∧Hid (Turn w wr p ⟨a1,n1,c1,a2,n2,c2,a3,n3,c3⟩ h2) ∧
   Hid (Blk wr gR 52 #[.int .i64 ni, .slice Ax j cx, .int .i64 pr])∧Hid (wr.ownsRow wc.heap.size 3 1 (.slice Ax j cx) j (ints .i64 acc))∧Hid (∀ b,(Value.slice Ax j cx).ownBlock=some b→¬ foot p h2 b)∧Hid (acc.length=j)∧Hid (∀ s ∈ acc,-17≤s∧s≤24) ∧
   Hid (G2.rules=G.rules)∧Hid (¬ foot p h2 gR)∧Hid (¬ foot p h2 w.heap.size)∧Hid (Blk wr w.heap.size 199 #[.string L, .complex .f64 x y, .slice Ar N cr, .string PR, .complex .f64 x' y'])) (fun v _=>N - (intOf v).toNat)
  case atStart=>exact ⟨0,_,G,[],-1,none,0,rfl,Nat.zero_le _,Nat.le_refl _,Hkc,hR0,HTc,HbR,LH (World.ownsRow_nil _ _ _ _),LH (fun b hb=>by cases hb),LH rfl,LH (fun s hs=>by cases hs),LH rfl,HnfR,HnfP,Hbxc⟩
  case round =>
   clear kk0 kk1 kk2 kk3 kk7 kk10
   obtain ⟨j,h2,G2,acc,pr,Ax,cx,rfl,hj,hsz,Hkr,Hrr,HT,HbRr,Ho,Hnx,Hal,Hab,Hru,HnR,HnP,HbP⟩:=hrel
   obtain ⟨b1,b2,b3⟩:∃ d1 d2 d3:Nat,h2.n1=d1∧h2.n2=d2∧h2.n3=d3:=⟨_,_,_,rfl,rfl,rfl⟩
   obtain ⟨hpr,t0,t1,t2,t3,t7,t10,f0,f1,f2⟩:=Hkr.out.cells
   have r0:wr.cell? ⟨gR,0,none⟩=some (.int .i64 ni):=HbRr.out.cell 0
   have r1:wr.cell? ⟨gR,1,none⟩=some (.slice Ax j cx):=HbRr.out.cell 1
   have r2:wr.cell? ⟨gR,2,none⟩=some (.int .i64 pr):=HbRr.out.cell 2
   have o2:wr.cell? ⟨w.heap.size,2,none⟩=some (.slice Ar N cr):=HbP.out.cell 2
   have o3:wr.cell? ⟨w.heap.size,3,none⟩=some (.string PR):=HbP.out.cell 3
   have o4:wr.cell? ⟨w.heap.size,4,none⟩=some (.complex .f64 x' y'):=HbP.out.cell 4
   have o5:=HbP.out.lt
   have o6:=HbRr.out.lt
   have o7:=HbRr.out.frozen 2
   by_cases hjN:j < N
   case neg =>
    have hjN':j=N:=by omega
    subst hjN'
    have hend:G1=G2∧l=acc∧pr1=pr:=by
     have:=Hrr.out
     rw [List.drop_eq_nil_of_le (by omega)] at this
     unfold rightsP at this
     injection this with this
     simp only [Prod.mk.injEq] at this
     exact ⟨this.1.symm,this.2.1.symm,this.2.2.symm⟩
    have HqE:=HqG.out
    rw [hend.1,hend.2.1,hend.2.2] at HqE
    clear hend
    have hfin:∃ (wz:World) (h3:GH) (G3:Gr) (pv:Int),True:=⟨wr,h2,G2,pr,trivial⟩
    rcases HqE with ⟨rfl,HqE⟩ | ⟨hne,hnm,xv,G3,hsy,HqE⟩
    case' inl =>
     have HqG2:=LH HqE
     have HruZ:=Hru
     have HTz:=HT
     have HkZ:=Hkr
     have HbZ:=HbRr
     have HoZ:=Ho
     have HnxZ:=Hnx
     have HszZ:Hid (wc.heap.size≤wr.heap.size):=LH hsz
     clear HqE hfin
     go_upto_region 20 with fail
     clear r0 r1 r2 o2 o3 o4 o5 o6 o7 t0 t1 t2 t3 t7 t10 f0 f1 f2 hsz
     clear HT Hkr HbRr Ho Hnx Hru HbP HnP HnR
     generalize h2=h9 at *
     generalize G2=G9 at *
     generalize pr=pv at *
     generalize wr=wz at *
    case' inr =>
     have cN:=fun W=>rf_named PR W
     rw [hnm] at cN
     have CN:=LH cN
     have CS:=LH (wk_symbol p h2 G2 G3 xv PR false x' y' wr Hkr.out hsy)
     have hkp:=symbolP_keep hsy (by rw [Hkr.out.lens.1];exact Hkr.out.b1) (by rw [Hkr.out.lens.2.1];exact Hkr.out.b2)
     have HruZ:Hid (G3.rules=G.rules):=LH (hkp.2.1.trans Hru.out)
     have HqG2:=LH HqE
     have hsne:(PR.toList == [])=false:=by
      have h0:(⟨#[]⟩:ByteArray).toList=[]:=by
       unfold ByteArray.toList ByteArray.toList.loop;rfl
      have h1:=toList_beq PR ⟨#[]⟩
      rw [h0,decide_eq_false hne] at h1
      exact h1
     clear HqE hfin hne hnm hsy cN hkp
     go_upto_region 20 with (first
      | (go_at_call 116;(with_reducible refine (CN.out _).mono ?_);rintro e w2 ⟨rfl,rfl⟩)
      | (go_at_call 194;(with_reducible refine CS.out.mono ?_);rintro e w3 ⟨rfl,h3,hk3,hT3⟩
         have hb3:=hT3.blk HbRr.out HnR.out
         have i2:w3.cell? ⟨gR,2,none⟩=some (.int .i64 pr):=hb3.cell 2
         have i3:=hb3.frozen 2
         have i4:=hb3.lt
         have Hk3:=LH hk3
         have HT3:=LH hT3
         have Hb3:=LH hb3
         clear hb3 hk3 hT3))
     have hgR3:¬ foot p h3 gR:=HT3.out.nf HbRr.out.lt HnR.out
     have hs3:=HT3.out.size
     have hgl:w.heap.size < gR:=by omega
     have hst:∀ b,b ≠ gR→(w3.setCell ⟨gR,2,none⟩ (.int .i64 xv)).heap[b]? = w3.heap[b]? := fun b hb=>Below.heap_setCell w3 ⟨gR,2,none⟩ _ b hb
     have hss:w3.heap.size=(w3.setCell ⟨gR,2,none⟩ (.int .i64 xv)).heap.size:=by simp
     have HkZ:Hid (Wk (w3.setCell ⟨gR,2,none⟩ (.int .i64 xv)) p w.heap.size h3 G3):=LH (Hk3.out.away (by omega) fun b hb hf=>hst b fun e=>by
      rcases hf with hf | hf
      · rw [e] at hf;exact hgR3 hf
      · omega)
     have HTz:Hid (Turn w (w3.setCell ⟨gR,2,none⟩ (.int .i64 xv)) p ⟨a1,n1,c1,a2,n2,c2,a3,n3,c3⟩ h3):=LH (by
      have hT:=HT.out.trans HT3.out
      exact ⟨hT.os,hT.tape,hT.output,Nat.le_trans hT.size (Nat.le_of_eq hss),fun b hb hn=>(hst b (by omega)).trans (hT.keep b hb hn),hT.back⟩)
     have HbZ:Hid (Blk (w3.setCell ⟨gR,2,none⟩ (.int .i64 xv)) gR 52 #[.int .i64 ni, .slice Ax j cx, .int .i64 xv]):=LH (Hb3.out.set 2 _)
     have HoZ:Hid ((w3.setCell ⟨gR,2,none⟩ (.int .i64 xv)).ownsRow wc.heap.size 3 1 (.slice Ax j cx) j (ints .i64 acc)):=LH (own_keep (own_keep Ho.out fun b hb hlt=>HT3.out.keep b hlt (Hnx.out b hb)) fun b hb hlt=>hst b (by have:=(Ho.out.lt b hb).1;omega))
     have HnxZ:Hid (∀ b,(Value.slice Ax j cx).ownBlock=some b→¬ foot p h3 b):=LH fun b hb=>HT3.out.nf (Ho.out.lt b hb).2 (Hnx.out b hb)
     have HszZ:Hid (wc.heap.size≤(w3.setCell ⟨gR,2,none⟩ (.int .i64 xv)).heap.size):=LH (by omega)
     clear r0 r1 r2 o2 o3 o4 o5 o6 o7 t0 t1 t2 t3 t7 t10 f0 f1 f2 hsz i2 i3 i4 hgR3 hs3 hst hss CN CS Hk3 HT3 Hb3
     clear HT Hkr HbRr Ho Hnx Hru HbP HnP HnR hsne
     generalize w3.setCell ⟨gR,2,none⟩ (.int .i64 xv)=wz at *
     generalize h3=h9 at *
     generalize G3=G9 at *
     generalize xv=pv at *
    all_goals
     have Hkr:=HkZ
     have HT:=HTz
     have HbRr:=HbZ
     have Ho:=HoZ
     have Hnx:=HnxZ
     have Hru:=HruZ
     have hsz:=HszZ.out
     clear HkZ HTz HbZ HoZ HnxZ HruZ HszZ
     obtain ⟨hpr,t0,t1,t2,t3,t7,t10,f0,f1,f2⟩:=Hkr.out.cells
     have r0:wz.cell? ⟨gR,0,none⟩=some (.int .i64 ni):=HbRr.out.cell 0
     have r1:wz.cell? ⟨gR,1,none⟩=some (.slice Ax j cx):=HbRr.out.cell 1
     have r2:wz.cell? ⟨gR,2,none⟩=some (.int .i64 pv):=HbRr.out.cell 2
     have r3:=HbRr.out.lt
     obtain ⟨A1',m1,k1',A2',m2,k2',A3',m3,k3'⟩:=h9
     obtain ⟨cs,h3r,hcr⟩:=Hkr.out.r3
     have hm3:m3 < 40:=by
      have h1:=Hkr.out.lens.2.2
      have h2:=Hru.out
      have h3:=hl3.out
      simp only [] at h1
      rw [h2] at h1
      omega
     have Hcr:=LH hcr
     have H3r:=LH h3r
     have HoA:Hid ((wz.drew.alloc (.cells #[.int .i64 ni, .slice Ax j cx, .int .i64 pv] 52)).ownsRow (p+1) 52 3 (.slice A3' m3 k3') m3 cs):=LH (own_keepB h3r ((Below.refl wz.heap.size wz).drew.alloc (Nat.le_refl _) _))
     have hBA:Below wz.heap.size wz (wz.drew.alloc (.cells #[.int .i64 ni, .slice Ax j cx, .int .i64 pv] 52)):=(Below.refl wz.heap.size wz).drew.alloc (Nat.le_refl _) _
     have HbA:=LH (Hkr.out.blk.ext hBA)
     have HBA:=LH hBA
     have hle:p+1≤(wz.drew.alloc (.cells #[.int .i64 ni, .slice Ax j cx, .int .i64 pv] 52)).heap.size:=by have:=hBA.size;omega
     simp only [] at t0 t1 t2
     clear hBA h3r hcr
     go_wp2_with fail
     go_region_law (first
      | (refine step_appendM rfl _ _ 24 rfl (p+1) 52 _ 3 40 Tryz.underlying24 Hi3.out (by decide) (by decide) A3' m3 k3' cs (by simp [Act.eval,Act.put]) (by exact HoA.out) ⟨wz.heap.size,0,none⟩ 1 1 [.int .i64 ni, .slice Ax j cx, .int .i64 pv] rfl (by simp [Act.eval,Act.put]) (by exact laid_cells wz.drew [.int .i64 ni, .slice Ax j cx, .int .i64 pv] _) (by simp [Value.oneCell']) (by omega) (by omega) (by exact hle) ?_;intro A4 c4 w4 ho hgr ha
         have b4:=HbA.out.grown hgr (by intro e;have:=(HoA.out.lt p e.symm).1;omega)
         have i1:w4.cell? ⟨p,2,none⟩=some (.slice A3' m3 k3'):=b4.cell 2
         have i2:=b4.frozen 2
         have Hpt:=LH (Hkr.out.put3 wz.heap.size (Nat.le_trans (Nat.le_of_lt hgPc) hsz) ⟨ni,acc,pv⟩ (fun s hs=>by have:=Hab.out s hs;unfold InI64;omega) hm3 A4 c4 Ax cx
          (by show Ints .i64 wz Ax acc.length cx acc;rw [Hal.out];exact own_sl Ho.out)
          (fun b off hb=>by have h1:=Ho.out.lt b (by rw [hb];rfl);exact ⟨h1.2,Hnx.out b (by rw [hb];rfl),h1.2,by omega⟩)
          (fun cs' h1 _=>by rw [own_unique h1 H3r.out];show w4.ownsRow _ _ _ _ _ (cs++[.int .i64 ni, .slice Ax acc.length cx, .int .i64 pv]);rw [Hal.out];exact ho)
          (grown_trans (grown_below _ HBA.out) hgr) (fun b hb hlt=>ha b hb (Nat.lt_of_lt_of_le hlt HBA.out.size)))
         clear b4 ho hgr ha))
     all_goals
      go_wp2_with fail
      (try simp only [Exit.inBlock,Exit.then])
      refine bodyPost_end (results_none rfl _ _ _) rfl ?_
      exact ⟨rfl,_,by rw [HqG2.out];exact Hpt.out.1.mono Hpt.out.2.size,HT.out.trans Hpt.out.2⟩
   case pos =>
    obtain ⟨b,off,s,xs,ys,rfl,hb,Hs,q0,q1⟩:=(HR.out wr (HT.out.below Hk.out)).get hjN
    obtain ⟨hnm,h6,xv,G3,hsym,hr3⟩:=rightsP_step Hrr.out Hs.out
    have hB2:=alloc_below wr (.cells #[.string s, .complex .f64 xs ys] 191)
    have CS:=LH (wk_symbol p h2 G2 G3 xv s true xs ys _ (Hkr.out.below hB2) hsym)
    have cN:=fun w=>rf_named s w
    rw [hnm] at cN
    have CN:=LH cN
    have h6':((j:Int) == 6)=false:=by rw [beq_eq_false_iff_ne];rw [Hal.out] at h6;omega
    have hkp:=symbolP_keep hsym (by rw [Hkr.out.lens.1];exact Hkr.out.b1) (by rw [Hkr.out.lens.2.1];exact Hkr.out.b2)
    have Hkp:=LH hkp
    have Hr3:=LH hr3
    have HB2:=LH hB2
    have hx1:=hkp.2.2.2.1
    have hx2:=hkp.2.2.2.2
    have hxv:(0≤xv∧(if 0≤xv then xv else pr)=xv)∨(¬ 0≤xv∧(if 0≤xv then xv else pr)=pr):=by
     by_cases h0:0≤xv
     · exact .inl ⟨h0,if_pos h0⟩
     · exact .inr ⟨h0,if_neg h0⟩
    clear hnm h6 hsym hr3 cN hkp hB2
    rcases hxv with ⟨hx0,hpv⟩ | ⟨hx0,hpv⟩
    all_goals
     have Hpv:=LH hpv
     clear hpv
     go_wp2_with (first
      | (go_at_call 116;(with_reducible refine (CN.out _).mono ?_);rintro e w2 ⟨rfl,rfl⟩)
      | (go_at_call 194;(with_reducible refine CS.out.mono ?_);rintro e w3 ⟨rfl,h3,hk3,hT3⟩
         have hb3:=hT3.blk (HbRr.out.ext HB2.out) HnR.out
         have i1:w3.cell? ⟨gR,1,none⟩=some (.slice Ax j cx):=hb3.cell 1
         have hs3:wr.heap.size≤w3.heap.size:=Nat.le_trans HB2.out.size hT3.size
         have hs4:wc.heap.size≤w3.heap.size:=Nat.le_trans hsz hs3
         have Ho3:Hid (w3.ownsRow wc.heap.size 3 1 (.slice Ax j cx) j (ints .i64 acc)):=LH (own_keep Ho.out fun b hb hlt=>(hT3.keep b (Nat.lt_of_lt_of_le hlt HB2.out.size) (Hnx.out b hb)).trans (HB2.out.block b hlt))
         have Hb3:=LH hb3
         have Hk3:=LH hk3
         have HT3:=LH hT3
         clear hb3 hk3 hT3)
      | (at_builtin;refine wpl_appendT rfl _ _ 27 rfl wc.heap.size 3 _ 1 8 Tryz.underlying27 HiI.out (by decide) (by decide) Ax j cx (ints .i64 acc) rfl Ho3.out [.int .i64 xv] rfl rfl (by simp [Value.oneCell']) (by omega) (by omega) (by omega) ?_;intro A4 c4 w4 ho hgr ha
         have b4:=Hb3.out.grown hgr (by intro e;have:=(Ho3.out.lt gR e.symm).1;omega)
         have i2:w4.cell? ⟨gR,1,none⟩=some (.slice Ax j cx):=b4.cell 1
         have i3:w4.cell? ⟨gR,2,none⟩=some (.int .i64 pr):=b4.cell 2
         have j1:=b4.frozen 1
         have j2:=b4.frozen 2
         have Hb4:=LH b4
         have Ho4:=LH ho
         have Hgr:=LH hgr
         have Ha4:=LH ha
         clear b4 ho hgr ha))
     have hT13:=(HT.out.trans (Turn.of_below HB2.out p h2)).trans HT3.out
     have hnx3:∀ b,(Value.slice Ax j cx).ownBlock=some b→¬ foot p h3 b:=fun b hb=>HT3.out.nf (Nat.lt_of_lt_of_le (Ho.out.lt b hb).2 HB2.out.size) (Hnx.out b hb)
     have hgR3:¬ foot p h3 gR:=HT3.out.nf (Nat.lt_of_lt_of_le HbRr.out.lt HB2.out.size) HnR.out
     have hgP3:¬ foot p h3 w.heap.size:=HT3.out.nf (Nat.lt_of_lt_of_le HbP.out.lt HB2.out.size) HnP.out
     have hP3:=HT3.out.blk (HbP.out.ext HB2.out) HnP.out
     have hmore:∀ w6,w4.grownBy w6 (some gR)→_:=fun w6 hg6=>right_more Hk3.out hT13 Ho3.out hnx3 hgR3 (by omega) hgRc hs4 hP3 Ho4.out Hgr.out Ha4.out hg6
     have hr9:=Hr3.out
     rw [Hpv.out] at hr9
     first
      | (have hm:=hmore _ (grown_set w4 gR 1 (.slice A4 (j+1) c4))
         have hbl:Blk (w4.setCell ⟨gR,1,none⟩ (.slice A4 (j+1) c4)) gR 52 #[.int .i64 ni, .slice A4 (j+1) c4, .int .i64 pr]:=Hb4.out.set 1 _
         refine ⟨⟨j+1,h3,G3,acc++[xv],pr,A4,c4,by go_num,by omega,by omega,LH hm.1,LH hr9,LH hm.2.1,LH hbl,LH hm.2.2.1,LH hm.2.2.2.1,LH (by rw [List.length_append,Hal.out];rfl),LH ?_,LH (Hkp.out.2.1.trans Hru.out),LH hgR3,LH hgP3,LH hm.2.2.2.2.1⟩,?_⟩)
      | (have hm:=hmore _ (grown_trans (grown_set w4 gR 1 (.slice A4 (j+1) c4)) (grown_set _ gR 2 (.int .i64 xv)))
         have hbl:Blk ((w4.setCell ⟨gR,1,none⟩ (.slice A4 (j+1) c4)).setCell ⟨gR,2,none⟩ (.int .i64 xv)) gR 52 #[.int .i64 ni, .slice A4 (j+1) c4, .int .i64 xv]:=(Hb4.out.set 1 (.slice A4 (j+1) c4)).set 2 (.int .i64 xv)
         refine ⟨⟨j+1,h3,G3,acc++[xv],xv,A4,c4,by go_num,by omega,by omega,LH hm.1,LH hr9,LH hm.2.1,LH hbl,LH hm.2.2.1,LH hm.2.2.2.1,LH (by rw [List.length_append,Hal.out];rfl),LH ?_,LH (Hkp.out.2.1.trans Hru.out),LH hgR3,LH hgP3,LH hm.2.2.2.2.1⟩,?_⟩)
     · intro u hu
       rcases List.mem_append.1 hu with hu | hu
       · exact Hab.out u hu
       · rw [List.mem_singleton.1 hu];exact ⟨hx1,hx2⟩
     · simp [intOf];omega
end Go.Proofs.YtggbjdmpjidhgaaGreatDoor
