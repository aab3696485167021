/- the reference's reading: a text's source. -/
import Derived.Test.YtggbjdmpjidhgaaGreatDoorQPs9
set_option linter.unusedVariables false
set_option linter.unusedSimpArgs false
set_option maxHeartbeats 8000000
set_option maxRecDepth 100000
namespace Go.Proofs.YtggbjdmpjidhgaaGreatDoor
open Go.RowKit
theorem rf_Parse (A:Option Addr) (n c q q2:Nat) (xs:List Nat) (w:World) (h:Nums .u8 w A n c xs) (hb:∀ x ∈ xs,x < 256) (hn:n≤4000) (ts:List TokP) (hts:toksP xs q 0=some ts) (hc:cuts ts < 2) (hl:ts.length≤4000) (ps:List Prd) (hs:srcP q2 (ts.map tkOf)=some ps) :
 Calls Tryz.prog 83 #[.slice A n c] w fun e w'=>∃ A' c' cs,e = .returned (.tuple #[.agg #[.slice none 0 0, .slice A' ps.length c'], .complex .f64 0 0, .int .i64 0])∧w'.ownsRow w.heap.size 199 5 (.slice A' ps.length c') ps.length cs∧PrdCs w' (fun b=>w.heap.size≤b) cs ps∧Below w.heap.size w w':=by
 have hB0:=alloc_below w (.cells #[.slice none 0 0, .slice none 0 0] 130)
 have hb0:=Blk.new w 130 #[.slice none 0 0, .slice none 0 0]
 have CT:=LH (rf_Tokens A n c q xs _ (h.below hB0) hb hn ts hts hc)
 have hml:(ts.map tkOf).length=ts.length:=by simp
 have CO:=LH fun (W:World) (A':Option Addr) (c' x y:Nat) (hT:Toks W W.heap.size A' ts.length c' (ts.map tkOf))=>rd_Of A' ts.length c' q2 x y (ts.map tkOf) ps W hT hl hs
 have ksc:∀ (w:World) (a:Addr) (k:FloatKind) (x y:Nat) (m:Mode),(store a (.complex k x y) m).run Tryz.prog w=stored Tryz.prog w a (.complex k x y) m:=fun w a k x y m=>run_store Tryz.prog w a _ m rfl
 clear h hb hts hc hs hml
 go_enter Tryz.func83,Tryz.ntmps83
 go_wp2_with fail
 generalize w.alloc (.cells #[.slice none 0 0, .slice none 0 0] 130)=W0 at *
 (with_reducible refine CT.out.mono ?_)
 rintro e w1 ⟨A1,c1,x,y,rfl,hT,hB1⟩
 have hb1:=hb0.ext hB1
 have HB1:=LH (below_tail hB0 hB1)
 go_wp2_with fail
 (with_reducible refine (CO.out w1 A1 c1 x y hT).mono ?_)
 rintro e w2 ⟨A2,c2,cs,rfl,hO,hP,hB2⟩
 have hb2:=hb1.ext hB2
 have HB2:=LH (below_tail HB1.out hB2)
 have v0:=hb2.frozen 0
 have v1:=hb2.frozen 1
 have z0:w2.cell? ⟨w.heap.size,0,none⟩=some (.slice none 0 0):=hb2.cell 0
 have z1:w2.cell? ⟨w.heap.size,1,none⟩=some (.slice none 0 0):=hb2.cell 1
 go_wp2_with fail
 have hs1:w.heap.size < w1.heap.size:=hb1.lt
 have hF:Blk ((w2.setCell ⟨w.heap.size,0,none⟩ (.slice none 0 0)).setCell ⟨w.heap.size,1,none⟩ (.slice A2 ps.length c2)) w.heap.size 130 #[.slice none 0 0, .slice A2 ps.length c2]:=(hb2.set 0 (.slice none 0 0)).set 1 (.slice A2 ps.length c2)
 have hgF:w2.grownBy ((w2.setCell ⟨w.heap.size,0,none⟩ (.slice none 0 0)).setCell ⟨w.heap.size,1,none⟩ (.slice A2 ps.length c2)) (some w.heap.size):=grown_trans (grown_set _ _ _ _) (grown_set _ _ _ _)
 refine bodyPost_ret (results_cell2 (p:=2) (u:=3) (v:=4) (by kernel_rfl) _ _ w.heap.size 130 #[.slice none 0 0, .slice A2 ps.length c2] (0,0) _ rfl hF Tryz.underlying130 rfl (by kernel_rfl)) rfl ?_
 exact ⟨A2,c2,cs,rfl,own_monoS (own_grown hO hgF hs1) (Nat.le_of_lt hs1),hP.keep hgF.size fun k hk hav=>⟨hgF.block k hk (by intro e;injection e with e;have:w1.heap.size≤k:=hav;omega),Nat.le_trans (Nat.le_of_lt hs1) hav⟩,below_set (below_set HB2.out _ _ _ (Nat.le_refl _)) _ _ _ (Nat.le_refl _)⟩
theorem Wk.cells {w:World} {p B:Nat} {h:GH} {G:Gr} (k:Wk w p B h G):p < w.heap.size∧w.cell? ⟨p,0,none⟩=some (.slice h.a1 h.n1 h.c1)∧w.cell? ⟨p,1,none⟩=some (.slice h.a2 h.n2 h.c2)∧w.cell? ⟨p,2,none⟩=some (.slice h.a3 h.n3 h.c3)∧w.cell? ⟨p,3,none⟩=some (.int .i64 0) ∧
 w.cell? ⟨p,7,none⟩=some (.bool false)∧w.cell? ⟨p,10,none⟩=some (.int .i64 0)∧w.frozen? ⟨p,0,none⟩=false∧w.frozen? ⟨p,1,none⟩=false∧w.frozen? ⟨p,2,none⟩=false :=
 ⟨k.blk.lt,k.blk.cell 0,k.blk.cell 1,k.blk.cell 2,k.blk.cell 3,k.blk.cell 7,k.blk.cell 10,k.blk.frozen 0,k.blk.frozen 1,k.blk.frozen 2⟩
theorem Wk.lens {w:World} {p B:Nat} {h:GH} {G:Gr} (k:Wk w p B h G):G.terms.length=h.n1∧G.nons.length=h.n2∧G.rules.length=h.n3:=⟨k.grAt.terms.len,k.grAt.nons.len,k.grAt.rules.len⟩
theorem laid_cells (W:World) (news:List Value) (e:TypeId):∀ j u,news[j]? = some u→(W.alloc (.cells news.toArray e)).cell? ((⟨W.heap.size,0,none⟩:Addr).add j)=some u:=by
 intro j u hu
 have e1:(⟨W.heap.size,0,none⟩:Addr).add j=⟨W.heap.size,j,none⟩:=by
  unfold Addr.add
  split
  · rename_i h0;subst h0;rfl
  · simp
 rw [e1,World.cell?_alloc_mark]
 simpa using hu
theorem wk_terminal (p:Nat) {B:Nat} (h:GH) (G G':Gr) (i:Int) (s:ByteArray) (x y:Nat) (w:World) (k:Wk w p B h G) (ht:termP G s=some (i,G')) :
 Calls Tryz.prog 227 #[.pointer (some ⟨p,0,none⟩), .agg #[.string s, .complex .f64 x y]] w fun e w'=>e = .returned (.int .i64 i)∧∃ h',Wk w' p B h' G'∧Turn w w' p h h':=by
 obtain ⟨a1,n1,c1,a2,n2,c2,a3,n3,c3⟩:=h
 obtain ⟨l1,l2,l3⟩:=k.lens
 have hst:=k.st
 have hn1:n1≤24:=k.b1
 have hB1:=alloc_below w (.cells #[.string s, .complex .f64 x y] 191)
 have hbx:=Blk.new w 191 #[.string s, .complex .f64 x y]
 have hk1:=k.below hB1
 have hi3:(Tryz.prog.info? 91).map (fun i=>(i.zero,i.size,i.bytes))=some (some (.agg #[.string ⟨#[]⟩, .int .i64 0, .int .i64 0]),3,32):=by kernel_rfl
 have Hi:=LH hi3
 have Ht:=LH ht
 simp only [] at l1 l2 l3
 clear ht hi3 k
 go_enter Tryz.func227,Tryz.ntmps227
 go_wp2_with fail
 generalize hW1:w.alloc (.cells #[.string s, .complex .f64 x y] 191)=W1 at *
 have hlb:w.heap.size < W1.heap.size:=hbx.lt
 obtain ⟨hp,z0,z1,z2,z3,z7,z10,v0,v1,v2⟩:=hk1.cells
 have y0:W1.cell? ⟨w.heap.size,0,none⟩=some (.string s):=hbx.cell 0
 have y1:W1.cell? ⟨w.heap.size,1,none⟩=some (.complex .f64 x y):=hbx.cell 1
 simp only [] at z0 z1 z2
 have cT:=fun (x:Ext W1)=>rf_term ⟨a1,n1,c1,a2,n2,c2,a3,n3,c3⟩ G s (bl W1 x) (hk1.grAt.below (bl_below W1 x)) (by simp only [];omega)
 rw [hst] at cT
 have CT:=LH cT
 have Hk1:=LH hk1
 have Hbx:=LH hbx
 have bc:=bl_cell W1
 clear cT hk1 hbx hW1 hst
 refine wp_region_below (by kernel_rfl) (by kernel_rfl) ?_
 repeat (go_big_quiet_step ((go_at_call 117;with_reducible exact bl_of (CT.out _))))
 refine wpQuiet_nil ?_
 rintro _ ⟨x,rfl⟩
 have hB2:=bl_below W1 x
 generalize bl W1 x=W2 at *
 have hk2:=Hk1.out.below hB2
 have hbx2:=Hbx.out.ext hB2
 have Hk2:=LH hk2
 have HB2:=LH (below_tail hB1 hB2)
 obtain ⟨hp2,u0,u1,u2,u3,u7,u10,v0',v1',v2'⟩:=hk2.cells
 have y0':W2.cell? ⟨w.heap.size,0,none⟩=some (.string s):=hbx2.cell 0
 have hlb2:w.heap.size < W2.heap.size:=hbx2.lt
 simp only [] at u0 u1 u2
 clear hk2 hbx2 bc CT y0 y1 z0 z1 z2 z3 z7 z10 v0 v1 v2 hB2
 by_cases h0:0≤G.term s
 · have Hr:Hid (i=G.term s∧G'=G):=LH (by
    have:=Ht.out
    unfold termP at this
    rw [if_pos h0] at this
    simp only [Option.some.injEq,Prod.mk.injEq] at this
    exact ⟨this.1.symm,this.2.symm⟩)
   generalize G.term s=ti at *
   go_wp2_with fail
   go_ret
   exact ⟨by rw [Hr.out.1];rfl,_,by rw [Hr.out.2];exact Hk2.out,Turn.of_below HB2.out _ _⟩
 · have h24:¬ n1=24∧i=(n1:Int)∧G'={ G with terms:=G.terms++[⟨s,0,0⟩] }:=by
    have:=Ht.out
    unfold termP at this
    rw [if_neg h0] at this
    split at this
    · cases this
    · rename_i hne
      simp only [Option.some.injEq,Prod.mk.injEq] at this
      rw [l1] at hne this
      exact ⟨hne,this.1.symm,this.2.symm⟩
   obtain ⟨hne,rfl,rfl⟩:=h24
   have e24:((n1:Int) == 24)=false:=by rw [beq_eq_false_iff_ne];omega
   generalize G.term s=ti at *
   have Ho:=LH (Hk2.out.r1)
   clear Ht
   go_wp2_with fail
   have HoA:Hid ((W2.drew.alloc (.cells #[.string s, .int .i64 0, .int .i64 0] 91)).ownsRow (p+1) 91 3 (.slice a1 n1 c1) n1 (trmCs G.terms)):=LH (own_keepB Ho.out ((Below.refl W2.heap.size W2).drew.alloc (Nat.le_refl _) _))
   have hBA:Below W2.heap.size W2 (W2.drew.alloc (.cells #[.string s, .int .i64 0, .int .i64 0] 91)):=(Below.refl W2.heap.size W2).drew.alloc (Nat.le_refl _) _
   have HbA:=LH (Hk2.out.blk.ext hBA)
   have HBA:=LH hBA
   have hle:p+1≤(W2.drew.alloc (.cells #[.string s, .int .i64 0, .int .i64 0] 91)).heap.size:=by have:=hBA.size;omega
   clear hBA
   go_region_law (first
    | (refine step_appendM rfl _ _ 22 rfl (p+1) 91 _ 3 32 Tryz.underlying22 Hi.out (by decide) (by decide) a1 n1 c1 (trmCs G.terms) (by simp [Act.eval,Act.put]) (by exact HoA.out) ⟨W2.heap.size,0,none⟩ 1 1 [.string s, .int .i64 0, .int .i64 0] rfl (by simp [Act.eval,Act.put]) (by exact laid_cells W2.drew [.string s, .int .i64 0, .int .i64 0] _) (by simp [Value.oneCell']) (by omega) (by omega) (by exact hle) ?_;intro A4 c4 w4 ho hgr ha
       have b4:=HbA.out.grown hgr (by intro e;have:=(HoA.out.lt p e.symm).1;omega)
       have q0:w4.cell? ⟨p,0,none⟩=some (.slice a1 n1 c1):=b4.cell 0
       have f0:=b4.frozen 0
       have Hpt:=LH (Hk2.out.put1 ⟨s,0,0⟩ (by simp only [];omega) A4 c4 ho (grown_trans (grown_below _ HBA.out) hgr) (fun b hb hlt=>ha b hb (Nat.lt_of_lt_of_le hlt HBA.out.size)))
       clear b4 ho hgr ha))
   all_goals
    go_wp2_with fail
    go_ret
    refine ⟨by congr 2 <;> omega,_,Hpt.out.1,(Turn.of_below HB2.out p _).trans Hpt.out.2⟩
theorem symbolP_ways {may:Bool} {G G':Gr} {s:ByteArray} {i:Int} (h:symbolP may G s=some (i,G')) :
 (0≤G.non s∧may=true∧i=-1 - G.non s∧G'=G)∨(¬ 0≤G.non s∧termP G s=some (i,G')∧(0≤G.term s∨(¬ 0≤G.term s∧litB (bytesOf s)=true)∨(¬ 0≤G.term s∧litB (bytesOf s)=false∧s=errS))):=by
 unfold symbolP at h
 by_cases h0:0≤G.non s
 · rw [if_pos h0] at h
   split at h
   · rename_i hm
     simp only [Option.some.injEq,Prod.mk.injEq] at h
     exact .inl ⟨h0,hm,h.1.symm,h.2.symm⟩
   · cases h
 · rw [if_neg h0] at h
   split at h
   · rename_i hc
     refine .inr ⟨h0,h,?_⟩
     simp only [Bool.or_eq_true,decide_eq_true_eq] at hc
     by_cases h1:0≤G.term s
     · exact .inl h1
     · by_cases h2:litB (bytesOf s)=true
       · exact .inr (.inl ⟨h1,h2⟩)
       · rcases hc with (hc | hc) | hc
         · exact absurd hc h1
         · exact absurd hc h2
         · exact .inr (.inr ⟨h1,by simpa using h2,hc⟩)
   · cases h
theorem wk_symbol (p:Nat) {B:Nat} (h:GH) (G G':Gr) (i:Int) (s:ByteArray) (may:Bool) (x y:Nat) (w:World) (k:Wk w p B h G) (hs:symbolP may G s=some (i,G')) :
 Calls Tryz.prog 194 #[.pointer (some ⟨p,0,none⟩), .agg #[.string s, .complex .f64 x y], .bool may] w fun e w'=>e = .returned (.int .i64 i)∧∃ h',Wk w' p B h' G'∧Turn w w' p h h':=by
 have hws:=symbolP_ways hs
 have cTm:=fun (W:World) (hW:Wk W p B h G) (htm:termP G s=some (i,G'))=>wk_terminal p h G G' i s x y W hW htm
 obtain ⟨a1,n1,c1,a2,n2,c2,a3,n3,c3⟩:=h
 obtain ⟨l1,l2,l3⟩:=k.lens
 have hst:=k.st
 have hn1:n1≤24:=k.b1
 have hn2:n2≤16:=k.b2
 have hB1:=alloc_below w (.cells #[.string s, .complex .f64 x y] 191)
 have hbx:=Blk.new w 191 #[.string s, .complex .f64 x y]
 have hk1:=k.below hB1
 have CTm:=LH cTm
 simp only [] at l1 l2 l3
 have hlo:=findI_lo (fun t=>decide (t=s)) G.nons
 have hlo2:-1≤G.non s∧G.non s < (n2:Int):=by rw [← l2];exact hlo
 clear k hs cTm hlo
 go_enter Tryz.func194,Tryz.ntmps194
 go_wp2_with fail
 generalize hW1:w.alloc (.cells #[.string s, .complex .f64 x y] 191)=W1 at *
 have hlb:w.heap.size < W1.heap.size:=hbx.lt
 obtain ⟨hp,z0,z1,z2,z3,z7,z10,v0,v1,v2⟩:=hk1.cells
 have y0:W1.cell? ⟨w.heap.size,0,none⟩=some (.string s):=hbx.cell 0
 simp only [] at z0 z1 z2
 have cN:=fun (x:Ext W1)=>rf_non ⟨a1,n1,c1,a2,n2,c2,a3,n3,c3⟩ G s (bl W1 x) (hk1.grAt.below (bl_below W1 x)) (by simp only [];omega)
 rw [hst] at cN
 have CN:=LH cN
 have Hk1:=LH hk1
 have Hbx:=LH hbx
 have Hst:=LH hst
 have bc:=bl_cell W1
 clear cN hk1 hbx hW1 hst
 refine wp_region_below (by kernel_rfl) (by kernel_rfl) ?_
 repeat (go_big_quiet_step ((go_at_call 120;with_reducible exact bl_of (CN.out _))))
 refine wpQuiet_nil ?_
 rintro _ ⟨x0,rfl⟩
 have hB2:=bl_below W1 x0
 generalize bl W1 x0=W2 at *
 have hk2:=Hk1.out.below hB2
 have hbx2:=Hbx.out.ext hB2
 have Hk2:=LH hk2
 have Hbx2:=LH hbx2
 have HB2:=LH (below_tail hB1 hB2)
 obtain ⟨hp2,u0,u1,u2,u3,u7,u10,v0',v1',v2'⟩:=hk2.cells
 have y0':W2.cell? ⟨w.heap.size,0,none⟩=some (.string s):=hbx2.cell 0
 have y1':W2.cell? ⟨w.heap.size,1,none⟩=some (.complex .f64 x y):=hbx2.cell 1
 have hlb2:w.heap.size < W2.heap.size:=hbx2.lt
 simp only [] at u0 u1 u2
 have cT:=fun (x:Ext W2)=>rf_term ⟨a1,n1,c1,a2,n2,c2,a3,n3,c3⟩ G s (bl W2 x) (hk2.grAt.below (bl_below W2 x)) (by simp only [];omega)
 rw [Hst.out] at cT
 have CT:=LH cT
 have CL:=LH fun (x:Ext W2)=>ref_Literal s (bl W2 x)
 have bc2:=bl_cell W2
 clear hk2 hbx2 bc CN y0 z0 z1 z2 z3 z7 z10 v0 v1 v2 hB2 cT
 rcases hws with ⟨hn0,rfl,rfl,rfl⟩ | ⟨hn0,htm,hways⟩
 · generalize hni:G'.non s=ni at *
   have hw1:IntKind.i64.wrap (-1 - ni)=-1 - ni:=IntWalk.i64_in _ (by omega)
   go_wp2_with fail
   go_ret
   exact ⟨by rw [hni];rfl,_,Hk2.out,Turn.of_below HB2.out _ _⟩
 · have Htm:=LH htm
   clear htm
   generalize G.non s=ni at *
   rcases hways with h1 | ⟨h1,h2⟩ | ⟨h1,h2,h3⟩
   case' inr.inl=>generalize G.term s=ti at *
   case' inr.inr.inl =>
    rw [show G.term s=-1 by have h5:=(findI_lo (fun t=>decide (t.name=s)) G.terms).1;have h6:G.term s=findI (fun t=>decide (t.name=s)) G.terms:=rfl;omega] at CT
    clear h1
    have e2:litB (bytesOf s)=true:=h2
    rw [h2] at CL
   case' inr.inr.inr =>
    rw [show G.term s=-1 by have h5:=(findI_lo (fun t=>decide (t.name=s)) G.terms).1;have h6:G.term s=findI (fun t=>decide (t.name=s)) G.terms:=rfl;omega] at CT
    clear h1
    have e2:(s.toList == [101,114,114,111,114])=true:=by rw [h3,ByteArray.toList_eq];rfl
    rw [h2] at CL
   all_goals
    try have Hx2:=LH h2
    try have Hx3:=LH h3
    try clear h2
    try clear h3
    go_wp2_with fail
    refine wp_region_below (by kernel_rfl) (by kernel_rfl) ?_
    repeat (go_big_quiet_step (first | (go_at_call 117;with_reducible exact bl_of (CT.out _)) | (go_at_call 172;with_reducible exact bl_of_same (CL.out _))))
    refine wpQuiet_nil ?_
    rintro _ ⟨x3,rfl⟩
    have hB3:=bl_below W2 x3
    have Hk3:=LH (Hk2.out.below hB3)
    have hb3:=Hbx2.out.ext hB3
    generalize bl W2 x3=W3 at *
    have HB3:=LH (below_tail HB2.out hB3)
    have t0:W3.cell? ⟨w.heap.size,0,none⟩=some (.string s):=hb3.cell 0
    have t1:W3.cell? ⟨w.heap.size,1,none⟩=some (.complex .f64 x y):=hb3.cell 1
    go_wp2_with (go_at_call 227;(with_reducible refine (CTm.out _ Hk3.out Htm.out).mono ?_);rintro e w5 ⟨rfl,h5,hk5,ht5⟩)
    go_ret
    exact ⟨rfl,h5,hk5,(Turn.of_below HB3.out _ _).trans ht5⟩
end Go.Proofs.YtggbjdmpjidhgaaGreatDoor
