/- the reference's reading: a source, of tokens. -/
import Derived.Test.YtggbjdmpjidhgaaGreatDoorQPs8
set_option linter.unusedVariables false
set_option linter.unusedSimpArgs false
set_option maxHeartbeats 8000000
set_option maxRecDepth 100000
namespace Go.Proofs.YtggbjdmpjidhgaaGreatDoor
open Go.RowKit
theorem rd_Of (A:Option Addr) (n c q x y:Nat) (ts:List Tk) (ps:List Prd) (w:World) (h:Toks w w.heap.size A n c ts) (hl:n≤4000) (hs:srcP q ts=some ps) :
 Calls Tryz.prog 137 #[.slice A n c, .complex .f64 x y] w fun e w'=>∃ A' c' cs,e = .returned (.tuple #[.agg #[.slice none 0 0, .slice A' ps.length c'], .complex .f64 0 0, .int .i64 0])∧w'.ownsRow w.heap.size 199 5 (.slice A' ps.length c') ps.length cs∧PrdCs w' (fun b=>w.heap.size≤b) cs ps∧Below w.heap.size w w':=by
 obtain rfl:=h.1
 obtain ⟨m,us0,ps0,rest0,more0,rfl,hm9,hg0,hgs0,rfl⟩:∃ m us0 ps0 rest0 more0,ts=m::us0∧m.1=9∧groupP q us0=some (ps0,rest0)∧groupsP q rest0=some more0∧ps=ps0++more0:=by
  cases ts with
  | nil=>cases hs
  | cons m us =>
    have hs:(if m.1=9 then (match groupP q us with | none=>none | some (ps,r)=>(groupsP q r).map (ps++·)) else none)=some ps:=hs
    split at hs
    · rename_i h9
      split at hs
      · cases hs
      · rename_i p0 r0 hg
        rw [Option.map_eq_some_iff] at hs
        obtain ⟨m2,h1,h2⟩:=hs
        exact ⟨m,us,p0,r0,m2,rfl,h9,hg,h1,h2.symm⟩
    · cases hs
 have hcap:=h.2.1
 have hcap2:=h.2.2.1
 have ksc:∀ (w:World) (a:Addr) (k:FloatKind) (x y:Nat) (m:Mode),(store a (.complex k x y) m).run Tryz.prog w=stored Tryz.prog w a (.complex k x y) m:=fun w a k x y m=>run_store Tryz.prog w a _ m rfl
 have hi5:(Tryz.prog.info? 199).map (fun i=>(i.zero,i.size,i.bytes))=some (some (.agg #[.string ⟨#[]⟩, .complex .f64 0 0, .slice none 0 0, .string ⟨#[]⟩, .complex .f64 0 0]),5,88):=by kernel_rfl
 have Hi:=LH hi5
 have CD:=LH fun (W:World) (p:Nat) (hW:RdAt W p (m::us0))=>rd_decls p (m::us0) W hW hm9
 have CT:=LH fun (W:World) (p:Nat) (hW:RdAt W p (m::us0))=>rd_take p 9 9 m us0 W hW (by simp [isP,hm9])
 have CG:=LH fun (W:World) (p:Nat) (hW:RdAt W p us0)=>rd_group p q us0 ps0 rest0 W hW hg0
 have H:=LH h
 have Hg0:=LH hg0
 have Hgs0:=LH hgs0
 have hpos:=groupP_pos hg0
 have hl2:us0.length+1≤4000:=hl
 clear h hm9 hg0 hgs0 hs hi5
 generalize hN:(m::us0).length=N at *
 go_enter Tryz.func137,Tryz.ntmps137
 go_wp2_with fail
 have hB1:=below_alloc (alloc_below w (.cells #[.slice none 0 0, .slice none 0 0] 130)) (.cells #[.slice A N c, .complex .f64 x y, .complex .f64 0 0, .int .i64 0] 236)
 have hsz0:(w.alloc (.cells #[.slice none 0 0, .slice none 0 0] 130)).heap.size=w.heap.size+1:=alloc_size _ _
 have hbk1:=Blk.new (w.alloc (.cells #[.slice none 0 0, .slice none 0 0] 130)) 236 #[.slice A N c, .complex .f64 x y, .complex .f64 0 0, .int .i64 0]
 have hbkR:Blk (w.alloc (.cells #[.slice none 0 0, .slice none 0 0] 130)) w.heap.size 130 #[.slice none 0 0, .slice none 0 0]:=Blk.new w _ _
 have hbkR1:=hbkR.ext (alloc_below _ (.cells #[.slice A N c, .complex .f64 x y, .complex .f64 0 0, .int .i64 0] 236))
 rw [hsz0] at hbk1
 have hr1:RdAt ((w.alloc (.cells #[.slice none 0 0, .slice none 0 0] 130)).alloc (.cells #[.slice A N c, .complex .f64 x y, .complex .f64 0 0, .int .i64 0] 236)) (w.heap.size+1) (m::us0):=by
  have ht:=(H.out.wide (Nat.le_succ w.heap.size)).below hB1
  subst hN
  exact ⟨hl,A,c,x,y,0,0,hbk1,ht⟩
 generalize (w.alloc (.cells #[.slice none 0 0, .slice none 0 0] 130)).alloc (.cells #[.slice A N c, .complex .f64 x y, .complex .f64 0 0, .int .i64 0] 236)=W1 at *
 generalize hp:w.heap.size+1=p at *
 have hpw:w.heap.size < p:=by omega
 clear hbk1 hbkR hsz0 hp
 (with_reducible refine (CD.out _ _ hr1).mono ?_)
 rintro e w1 ⟨rfl,rfl⟩
 have hB2:=below_alloc hB1 (.cells #[.slice none 0 0, .slice none 0 0] 130)
 have hr2:=hr1.below (alloc_below W1 (.cells #[.slice none 0 0, .slice none 0 0] 130))
 have hbs2:=Blk.new W1 130 #[.slice none 0 0, .slice none 0 0]
 have hbr2:=hbkR1.ext (alloc_below W1 (.cells #[.slice none 0 0, .slice none 0 0] 130))
 have hp1:=hr1.lt
 have hR1:w.heap.size < W1.heap.size:=hbkR1.lt
 go_wp2_with fail
 generalize W1.alloc (.cells #[.slice none 0 0, .slice none 0 0] 130)=W2 at *
 generalize W1.heap.size=gS at *
 clear hr1 hB1 hbkR1
 (with_reducible refine (CT.out _ _ hr2).mono ?_)
 rintro e W3 ⟨⟨x3,y3,rfl⟩,hr3,hg3⟩
 have hbs3:=hbs2.grown hg3 (by intro e;injection e with e;omega)
 have hbr3:=hbr2.grown hg3 (by intro e;injection e with e;omega)
 have hB3:Below w.heap.size w W3:=hB2.trans (grown_is_below hg3 hB2.size (by omega))
 have hp3:=hr3.lt
 have hgs3:=hbs3.lt
 clear hr2 hB2 hbs2 hbr2 hg3
 go_wp2_with fail
 (with_reducible refine (CG.out _ _ hr3).mono ?_)
 rintro e w4 ⟨A1,c1,cs1,rfl,ho4,hP4,hr4,hg4⟩
 have hbs4:=hbs3.grown hg4 (by intro e;injection e with e;omega)
 have hbr4:=hbr3.grown hg4 (by intro e;injection e with e;omega)
 have hB4:Below w.heap.size w w4:=hB3.trans (grown_is_below hg4 hB3.size (by omega))
 have v1:=hbs4.frozen 1
 have z1:w4.cell? ⟨gS,1,none⟩=some (.slice none 0 0):=hbs4.cell 1
 go_wp2_with fail
 have hr5:=hr4.keep (w':=w4.setCell ⟨gS,1,none⟩ (.slice A1 ps0.length c1)) (by simp) fun k h1 h2=>Below.heap_setCell w4 ⟨gS,1,none⟩ _ k (show k ≠ gS by omega)
 have ho5:(w4.setCell ⟨gS,1,none⟩ (.slice A1 ps0.length c1)).ownsRow W3.heap.size 199 5 (.slice A1 ps0.length c1) ps0.length cs1:=own_kept ho4 fun b hb _ _=>Below.heap_setCell w4 ⟨gS,1,none⟩ _ b (show b ≠ gS by omega)
 have hP5:PrdCs (w4.setCell ⟨gS,1,none⟩ (.slice A1 ps0.length c1)) (fun b=>W3.heap.size≤b∧(Value.slice A1 ps0.length c1).ownBlock ≠ some b) cs1 ps0:=hP4.keep (by simp) fun k hk hav=>⟨Below.heap_setCell w4 ⟨gS,1,none⟩ _ k (show k ≠ gS by omega),hav⟩
 have hbs5:=hbs4.set 1 (.slice A1 ps0.length c1)
 have hbr5:=hbr4.other gS 1 (.slice A1 ps0.length c1) (by omega)
 have hs5:W3.heap.size≤(w4.setCell ⟨gS,1,none⟩ (.slice A1 ps0.length c1)).heap.size:=by simpa using hg4.size
 have hB5:=below_set hB4 gS 1 (.slice A1 ps0.length c1) (by omega)
 generalize w4.setCell ⟨gS,1,none⟩ (.slice A1 ps0.length c1)=W5 at *
 have Ho5:=LH ho5
 have HP5:=LH hP5
 have Hr5:=LH hr5
 have HB5:=LH hB5
 have hbs6:Blk W5 gS 130 #[.slice none 0 0, .slice A1 ps0.length c1]:=hbs5
 have Hbs5:=LH hbs6
 have Hbr5:=LH hbr5
 clear ho5 hP5 hr5 hB5 hbs5 hbr5 hbs6 ho4 hP4 hr4 hB4 hbs4 hbr4 hg4 v1 z1 hr3 hB3 hbs3 hbr3
 go_loopw [] (fun wr=>∃ (d c:Nat) (A:Option Addr) (done:List Prd) (us:List Tk) (cs:List Value),d+us.length≤4000∧W3.heap.size≤wr.heap.size∧Hid (d=done.length)∧Hid (∃ q' more,groupsP q' us=some more∧done++more=ps0++more0) ∧
  Hid (wr.ownsRow W3.heap.size 199 5 (.slice A d c) d cs)∧Hid (PrdCs wr (fun b=>W3.heap.size≤b∧(Value.slice A d c).ownBlock ≠ some b) cs done)∧Hid (RdAt wr p us)∧Hid (Below w.heap.size w wr) ∧
  Hid (Blk wr gS 130 #[.slice none 0 0, .slice A d c])∧Hid (Blk wr w.heap.size 130 #[.slice none 0 0, .slice none 0 0])) (fun wr=>remR wr p)
 case atStart=>exact ⟨ps0.length,c1,A1,ps0,rest0,cs1,by omega,hs5,LH rfl,LH ⟨q,more0,Hgs0.out,rfl⟩,Ho5,HP5,Hr5,HB5,Hbs5,Hbr5⟩
 case round =>
  obtain ⟨d,c,A,done,us,cs,hdu,hsw,Hd,Hq,Ho,Hc,Hr,HB,Hbs,Hbr⟩:=hrel
  obtain ⟨q',more,hq',hdm⟩:=Hq.out
  obtain ⟨A0,c0,x0,y0,x0',y0',_,_,_,r0,r1,r2,r3⟩:=Hr.out.parts
  have k0:wr.cell? ⟨gS,0,none⟩=some (.slice none 0 0):=Hbs.out.cell 0
  have k1:wr.cell? ⟨gS,1,none⟩=some (.slice A d c):=Hbs.out.cell 1
  have m0:=Hbr.out.frozen 0
  have m1:=Hbr.out.frozen 1
  have j0:wr.cell? ⟨w.heap.size,0,none⟩=some (.slice none 0 0):=Hbr.out.cell 0
  have j1:wr.cell? ⟨w.heap.size,1,none⟩=some (.slice none 0 0):=Hbr.out.cell 1
  have hgw:gS ≠ w.heap.size:=by omega
  clear Hq
  rcases groupsP_step hq' with ⟨rfl,rfl⟩ | ⟨u,us1,rfl,hu9,q2,ps2,rest2,m2,hg,hgs,rfl⟩
  · have r0':wr.cell? ⟨p,0,none⟩=some (.slice A0 0 c0):=r0
    rw [List.append_nil] at hdm
    clear r0
    go_wp2_with fail
    have hF:Blk ((wr.setCell ⟨w.heap.size,0,none⟩ (.slice none 0 0)).setCell ⟨w.heap.size,1,none⟩ (.slice A d c)) w.heap.size 130 #[.slice none 0 0, .slice A d c]:=(Hbr.out.set 0 (.slice none 0 0)).set 1 (.slice A d c)
    have hgF:wr.grownBy ((wr.setCell ⟨w.heap.size,0,none⟩ (.slice none 0 0)).setCell ⟨w.heap.size,1,none⟩ (.slice A d c)) (some w.heap.size):=grown_trans (grown_set _ _ _ _) (grown_set _ _ _ _)
    refine bodyPost_ret (results_cell2 (p:=4) (u:=5) (v:=6) (by kernel_rfl) _ _ w.heap.size 130 #[.slice none 0 0, .slice A d c] (0,0) _ rfl hF Tryz.underlying130 rfl (by kernel_rfl)) rfl ?_
    have hW3:w.heap.size < W3.heap.size:=by omega
    rw [← hdm,← Hd.out]
    refine ⟨A,c,cs,rfl,own_monoS (own_grown Ho.out hgF hW3) (Nat.le_of_lt hW3),Hc.out.keep hgF.size fun k hk hav=>⟨hgF.block k hk (by intro e;injection e with e;have:=hav.1;omega),by have:=hav.1;omega⟩,below_set (below_set HB.out _ _ _ (Nat.le_refl _)) _ _ _ (Nat.le_refl _)⟩
  · have CK:=LH (rd_kind p (u::us1) wr Hr.out)
    have CG2:=LH fun (W:World) (hW:RdAt W p (u::us1))=>rd_group p q2 (u::us1) ps2 rest2 W hW hg
    have hpos2:=groupP_pos hg
    have hrem:Hid (rest2.length < remR wr p):=LH (by rw [Hr.out.rem];omega)
    have hub:d+ps2.length+rest2.length≤4000:=by omega
    have e9:(u.1 != 9)=true:=by rw [bne_iff_ne];exact hu9
    have hn0:0 < (u::us1).length:=by simp
    have hk0:headK (u::us1)=u.1:=rfl
    rw [hk0] at CK
    have Hhg:=LH hgs
    have Hdm:=LH hdm
    have hps0:=hpos2.1
    clear hg hgs hu9 hq' hk0 hdm hpos2
    generalize (u::us1).length=nu at *
    generalize u.1=uk at *
    go_wp2_with (go_at_call 191;(with_reducible refine CK.out.mono ?_);rintro e w2 ⟨rfl,rfl⟩)
    go_region_law (first
     | (go_simp;go_at_call 190;refine (CG2.out _ (by exact Hr.out)).mono ?_;rintro e w2 ⟨A2,c2,cs2,rfl,ho2,hP2,hr2,hg2'⟩
        have hg2:wr.grownBy w2 (some p):=⟨hg2'.os,hg2'.tape,hg2'.output,hg2'.size,hg2'.block⟩
        obtain ⟨g2,rfl,hge2,hlt2,hcell2⟩:=own_cells ho2 hps0
        have b2:=Hbs.out.grown hg2 (by intro e;injection e with e;omega)
        have z1:w2.cell? ⟨gS,1,none⟩=some (.slice A d c):=b2.cell 1
        have Ho2:=LH (own_grown Ho.out hg2 hp3)
        have hs2:W3.heap.size≤w2.heap.size:=Nat.le_trans hsw hg2.size
        have hcl2:cs2.length=ps2.length * 5:=hP2.1
        have hone2:=LH (prdCs_one hP2)
        have Hcell2:=LH hcell2
        have HP2:=LH hP2
        have Hr2:=LH hr2
        have Hb2:=LH b2
        have Hg2:=LH hg2
        have Ho22:=LH ho2
        clear hcell2 hP2 hr2 b2 hg2 hg2' ho2)
     | (refine step_appendM rfl _ _ 128 rfl W3.heap.size 199 _ 5 88 Tryz.underlying128 Hi.out (by decide) (by decide) A d c cs (by simp [Act.eval,Act.put]) Ho2.out ⟨g2,0,none⟩ ps2.length c2 cs2 hcl2 (by simp [Act.eval,Act.put]) Hcell2.out hone2.out (by omega) (by omega) hs2 ?_;intro A4 c4 w4 ho4 hgr4 ha4
        have b4:=Hb2.out.grown hgr4 (by intro e;have:=(Ho2.out.lt gS e.symm).1;omega)
        have y1:w4.cell? ⟨gS,1,none⟩=some (.slice A d c):=b4.cell 1
        have v1:=b4.frozen 1
        have Hb4:=LH b4
        have Hgr4:=LH hgr4
        have Ha4:=LH ha4
        have Ho4:=LH ho4
        clear b4 hgr4 ha4 ho4))
    all_goals
     have hgX:w4.grownBy (w4.setCell ⟨gS,1,none⟩ (.slice A4 (d+ps2.length) c4)) (some gS):=grown_set _ _ _ _
     have hAlt:∀ b,(Value.slice A d c).ownBlock=some b→W3.heap.size≤b∧b < wr.heap.size:=fun b hb=>Ho.out.lt b hb
     have s2:=Hg2.out.size
     have s4:=Hgr4.out.size
     have sX:=hgX.size
     have HPn:Hid (PrdCs (w4.setCell ⟨gS,1,none⟩ (.slice A4 (d+ps2.length) c4)) (fun b=>W3.heap.size≤b∧(Value.slice A4 (d+ps2.length) c4).ownBlock ≠ some b) (cs++cs2) (done++ps2)):=LH (PrdCs.app
      (Hc.out.keep (by omega) fun k hk hav=>⟨by rw [hgX.block k (by omega) (by intro e;injection e with e;have:=hav.1;omega),Hgr4.out.block k (by omega) (fun e=>hav.2 e.symm),Hg2.out.block k hk (by intro e;injection e with e;have:=hav.1;omega)],hav.1,fun h3=>hav.2 (Ha4.out k h3 (by omega))⟩)
      (HP2.out.keep (by omega) fun k hk hav=>⟨by rw [hgX.block k (by omega) (by intro e;injection e with e;have:wr.heap.size≤k:=hav.1;omega),Hgr4.out.block k (by omega) (fun e=>by have:=hAlt k e.symm;have:wr.heap.size≤k:=hav.1;omega)],Nat.le_trans hsw hav.1,fun h3=>by have:=hAlt k (Ha4.out k h3 (by omega));have:wr.heap.size≤k:=hav.1;omega⟩))
     have Hon:Hid ((w4.setCell ⟨gS,1,none⟩ (.slice A4 (d+ps2.length) c4)).ownsRow W3.heap.size 199 5 (.slice A4 (d+ps2.length) c4) (d+ps2.length) (cs++cs2)):=LH (own_grown Ho4.out hgX (by omega))
     have Hrn:Hid (RdAt (w4.setCell ⟨gS,1,none⟩ (.slice A4 (d+ps2.length) c4)) p rest2):=LH ((Hr2.out.app Hgr4.out Ho2.out hp3).keep sX fun k h1 h2=>hgX.block k h2 (by intro e;injection e with e;omega))
     have HBn:Hid (Below w.heap.size w (w4.setCell ⟨gS,1,none⟩ (.slice A4 (d+ps2.length) c4))):=LH (below_set ((HB.out.trans (grown_is_below Hg2.out HB.out.size (by omega))).trans ⟨Hgr4.out.os,Hgr4.out.tape,Hgr4.out.output,s4,fun k hk=>Hgr4.out.block k (by have:=HB.out.size;omega) (fun e=>by have:=(hAlt k e.symm).1;omega)⟩) _ _ _ (by omega))
     have Hbn:Hid (Blk (w4.setCell ⟨gS,1,none⟩ (.slice A4 (d+ps2.length) c4)) gS 130 #[.slice none 0 0, .slice A4 (d+ps2.length) c4]):=LH (Hb4.out.set 1 (.slice A4 (d+ps2.length) c4))
     have Hbrn:Hid (Blk (w4.setCell ⟨gS,1,none⟩ (.slice A4 (d+ps2.length) c4)) w.heap.size 130 #[.slice none 0 0, .slice none 0 0]):=LH (((Hbr.out.grown Hg2.out (by intro e;injection e with e;omega)).grown Hgr4.out (by intro e;have:=(Ho2.out.lt _ e.symm).1;omega)).other gS 1 _ (by omega))
     have Hdn:Hid (d+ps2.length=(done++ps2).length):=LH (by rw [List.length_append,← Hd.out])
     have Hqn:Hid (∃ q' more,groupsP q' rest2=some more∧(done++ps2)++more=ps0++more0):=LH ⟨q2,m2,Hhg.out,by rw [← Hdm.out];simp⟩
     have Hremn:Hid (remR (w4.setCell ⟨gS,1,none⟩ (.slice A4 (d+ps2.length) c4)) p=rest2.length):=LH Hrn.out.rem
     have hsn:W3.heap.size≤(w4.setCell ⟨gS,1,none⟩ (.slice A4 (d+ps2.length) c4)).heap.size:=by omega
     clear hAlt hgX s2 s4 sX
     go_wp2_with fail
     go_roundw
     case rel=>exact ⟨d+ps2.length,c4,A4,done++ps2,rest2,cs++cs2,by omega,hsn,Hdn,Hqn,Hon,HPn,Hrn,HBn,Hbn,Hbrn⟩
     case measure=>rw [Hremn.out];exact hrem.out
end Go.Proofs.YtggbjdmpjidhgaaGreatDoor
