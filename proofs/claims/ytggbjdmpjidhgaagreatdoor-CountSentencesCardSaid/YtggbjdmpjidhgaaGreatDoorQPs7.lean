/- the reference's reading: a group of rules. -/
import Derived.Test.YtggbjdmpjidhgaaGreatDoorQPs4
import Derived.Deep.DeepCutAuto
import Derived.Deep.RegionWith
set_option linter.unusedVariables false
set_option linter.unusedSimpArgs false
set_option maxHeartbeats 8000000
set_option maxRecDepth 100000
namespace Go.Proofs.YtggbjdmpjidhgaaGreatDoor
open Go.RowKit
theorem headK_cons {ts:List Tk} {k:Int} (h:headK ts=k) (hk:k ≠ 0):∃ u us,ts=u::us∧u.1=k:=by
 cases ts with
 | nil=>exact absurd h.symm hk
 | cons u us=>exact ⟨u,us,rfl,h⟩
theorem precP_ways {ts:List Tk} {pr:ByteArray} {us:List Tk} (h:precP ts=some (pr,us)):(headK ts ≠ 8∧pr=⟨#[]⟩∧us=ts)∨∃ t0 t1,ts=t0::t1::us∧t0.1=8∧isSym t1.1=true∧pr=t1.2:=by
 unfold precP at h
 by_cases h8:headK ts=8
 · rw [if_pos h8] at h
   match ts,h8,h with
   | [],h8,h=>cases h
   | [t0],h8,h=>cases h
   | t0::t1::r,h8,h =>
     simp only at h
     split at h
     · rename_i hs
       simp only [Option.some.injEq,Prod.mk.injEq] at h
       obtain ⟨rfl,rfl⟩:=h
       exact .inr ⟨t0,t1,rfl,h8,hs,rfl⟩
     · cases h
 · rw [if_neg h8] at h
   simp only [Option.some.injEq,Prod.mk.injEq] at h
   exact .inl ⟨h8,h.1.symm,h.2.symm⟩
theorem altsP_step {L:ByteArray} {q:Nat} {us:List Tk} {more:List Prd} {rest:List Tk} (h:altsP L q us=some (more,rest)) :
 ∃ pr us2 u us3,precP (spanS us).2=some (pr,us2)∧us2=u::us3∧((u.1=11∧∃ q' more',altsP L q' us3=some (more',rest)∧more=⟨L,(spanS us).1,pr⟩::more')∨(u.1=12∧more=[⟨L,(spanS us).1,pr⟩]∧rest=us3)):=by
 cases q with
 | zero=>cases h
 | succ q =>
   unfold altsP at h
   split at h
   · cases h
   · rename_i pr us2 hp
     by_cases h1:headK us2=11
     · rw [if_pos h1,Option.map_eq_some_iff] at h
       obtain ⟨⟨m,r⟩,h2,h3⟩:=h
       simp only [Prod.mk.injEq] at h3
       obtain ⟨rfl,rfl⟩:=h3
       obtain ⟨u,us3,e,hu⟩:=headK_cons h1 (by decide)
       rw [e] at h2
       exact ⟨pr,us2,u,us3,hp,e, .inl ⟨hu,q,m,h2,rfl⟩⟩
     · rw [if_neg h1] at h
       by_cases h2:headK us2=12
       · rw [if_pos h2] at h
         simp only [Option.some.injEq,Prod.mk.injEq] at h
         obtain ⟨rfl,rfl⟩:=h
         obtain ⟨u,us3,e,hu⟩:=headK_cons h2 (by decide)
         exact ⟨pr,us2,u,us3,hp,e, .inr ⟨hu,rfl,by rw [e];rfl⟩⟩
       · rw [if_neg h2] at h
         cases h
structure MidG (wr wx:World) (p gB:Nat) (Ar:Option Addr) (cr:Nat) (L:ByteArray) (x y:Nat) (rs:List ByteArray) (pr:ByteArray) (px py:Nat) (us:List Tk):Prop where
 lo:wr.heap.size≤gB
 blk:Blk wx gB 199 #[.string L, .complex .f64 x y, .slice Ar rs.length cr, .string pr, .complex .f64 px py]
 row:Rfs wx Ar rs.length cr rs
 fresh:∀ b off,Ar=some ⟨b,off,none⟩→wr.heap.size≤b∧b < wx.heap.size
 ne:∀ b off,Ar=some ⟨b,off,none⟩→b ≠ gB
 rd:RdAt wx p us
 gr:wr.grownBy wx (some p)
theorem MidG.late {wr w2:World} {p:Nat} {Ar:Option Addr} {cr:Nat} {L:ByteArray} {x y:Nat} {rs:List ByteArray} {us:List Tk} {er:TypeId} {rcs:List Value} (hg2:wr.drew.grownBy w2 (some p)) (ho2:w2.ownsRow wr.drew.heap.size er 2 (.slice Ar rs.length cr) rs.length rcs) (hrc:RefCs rcs rs) (hr2:RdAt w2 p us) :
 MidG wr (w2.alloc (.cells #[.string L, .complex .f64 x y, .slice Ar rs.length cr, .string ⟨#[]⟩, .complex .f64 0 0] 199)) p w2.heap.size Ar cr L x y rs ⟨#[]⟩ 0 0 us:=by
 have hb:=alloc_below w2 (.cells #[.string L, .complex .f64 x y, .slice Ar rs.length cr, .string ⟨#[]⟩, .complex .f64 0 0] 199)
 refine ⟨hg2.size,Blk.new _ _ _,(own_rfs ho2 hrc).below hb,fun b off h=>?_,fun b off h=>?_,hr2.below hb,?_⟩
 · have h1:wr.heap.size≤b∧b < w2.heap.size:=ho2.lt b (by rw [h];rfl)
   exact ⟨h1.1,Nat.lt_of_lt_of_le h1.2 hb.size⟩
 · have h1:wr.heap.size≤b∧b < w2.heap.size:=ho2.lt b (by rw [h];rfl)
   omega
 · have h1:wr.grownBy w2 (some p):=⟨hg2.os,hg2.tape,hg2.output,hg2.size,hg2.block⟩
   exact grown_trans h1 (grown_below _ hb)
theorem MidG.early {wr w2:World} {p:Nat} {Ar:Option Addr} {cr:Nat} {L:ByteArray} {x y:Nat} {rs:List ByteArray} {us:List Tk} {er:TypeId} {rcs:List Value} {o:Obj} (hp:p < wr.heap.size) (hg2:(wr.alloc o).drew.grownBy w2 (some p)) (ho2:w2.ownsRow (wr.alloc o).drew.heap.size er 2 (.slice Ar rs.length cr) rs.length rcs) (hrc:RefCs rcs rs) (hr2:RdAt w2 p us)
 (hB:Blk w2 wr.heap.size 199 #[.string ⟨#[]⟩, .complex .f64 0 0, .slice none 0 0, .string ⟨#[]⟩, .complex .f64 0 0]) :
 MidG wr (((((w2.setCell ⟨wr.heap.size,0,none⟩ (.string L)).setCell ⟨wr.heap.size,1,none⟩ (.complex .f64 x y)).setCell ⟨wr.heap.size,2,none⟩ (.slice Ar rs.length cr)).setCell ⟨wr.heap.size,3,none⟩ (.string ⟨#[]⟩)).setCell ⟨wr.heap.size,4,none⟩ (.complex .f64 0 0)) p wr.heap.size Ar cr L x y rs ⟨#[]⟩ 0 0 us:=by
 have hg:w2.grownBy (((((w2.setCell ⟨wr.heap.size,0,none⟩ (.string L)).setCell ⟨wr.heap.size,1,none⟩ (.complex .f64 x y)).setCell ⟨wr.heap.size,2,none⟩ (.slice Ar rs.length cr)).setCell ⟨wr.heap.size,3,none⟩ (.string ⟨#[]⟩)).setCell ⟨wr.heap.size,4,none⟩ (.complex .f64 0 0)) (some wr.heap.size) :=
  grown_trans (grown_trans (grown_trans (grown_trans (grown_set _ _ _ _) (grown_set _ _ _ _)) (grown_set _ _ _ _)) (grown_set _ _ _ _)) (grown_set _ _ _ _)
 have hb:=(((((hB.set 0 (.string L)).set 1 (.complex .f64 x y)).set 2 (.slice Ar rs.length cr)).set 3 (.string ⟨#[]⟩)).set 4 (.complex .f64 0 0))
 have hsz:(wr.alloc o).drew.heap.size=wr.heap.size+1:=alloc_size wr o
 have hle:wr.heap.size+1≤w2.heap.size:=by rw [← hsz];exact hg2.size
 have hfr:∀ b off,Ar=some ⟨b,off,none⟩→wr.heap.size+1≤b∧b < w2.heap.size:=fun b off h=>by
  have h1:=ho2.lt b (by rw [h];rfl)
  rwa [hsz] at h1
 refine ⟨Nat.le_refl _,hb,(own_rfs ho2 hrc).keep hg.size fun b off h hlt=>hg.block b hlt fun e=>?_,fun b off h=>?_,fun b off h=>?_,hr2.keep hg.size fun k h1 h2=>hg.block k h2 fun e=>?_,?_⟩
 · injection e with e
   have:=(hfr b off h).1
   omega
 · have:=hfr b off h
   exact ⟨by omega,Nat.lt_of_lt_of_le this.2 hg.size⟩
 · have:=hfr b off h
   omega
 · injection e with e
   omega
 · have h1:wr.grownBy w2 (some p):=by
    refine ⟨hg2.os,hg2.tape,hg2.output,by omega,fun k hk hne=>?_⟩
    exact (hg2.block k (by rw [hsz];omega) hne).trans ((alloc_below wr o).block k hk)
   refine ⟨hg.os.trans h1.os,hg.tape.trans h1.tape,hg.output.trans h1.output,Nat.le_trans h1.size hg.size,fun k hk hne=>?_⟩
   rw [hg.block k (by omega) (fun e=>by injection e with e;omega),h1.block k hk hne]
theorem prd_more {W1 wr w3 w4:World} {p d c cr c4 gB x y px py:Nat} {A Ar A4:Option Addr} {e:TypeId} {cs:List Value} {done:List Prd} {rs:List ByteArray} {L pr:ByteArray} {us:List Tk}
 (hp:p < W1.heap.size) (Hg:W1.grownBy wr (some p)) (Ho:wr.ownsRow W1.heap.size e 5 (.slice A d c) d cs) (Hc:PrdCs wr (fun b=>W1.heap.size≤b∧(Value.slice A d c).ownBlock ≠ some b) cs done)
 (hM:MidG wr w3 p gB Ar cr L x y rs pr px py us) (hg4:w3.grownBy w4 (Value.slice A d c).ownBlock) (ha:∀ b,(Value.slice A4 (d+1) c4).ownBlock=some b→b < w3.heap.size→(Value.slice A d c).ownBlock=some b) :
 PrdCs w4 (fun b=>W1.heap.size≤b∧(Value.slice A4 (d+1) c4).ownBlock ≠ some b) (cs++[.string L, .complex .f64 x y, .slice Ar rs.length cr, .string pr, .complex .f64 px py]) (done++[⟨L,rs,pr⟩])∧W1.grownBy w4 (some p)∧RdAt w4 p us:=by
 have s1:=Hg.size
 have s2:=hM.gr.size
 have s4:=hg4.size
 have hA:∀ b,(Value.slice A d c).ownBlock=some b→W1.heap.size≤b∧b < wr.heap.size:=fun b h=>Ho.lt b h
 refine ⟨PrdCs.app (Hc.keep (by omega) fun k hk hav=>?_) (PrdCs.one ⟨L,rs,pr⟩ x y px py ?_ fun b off hb=>?_),?_,?_⟩
 · obtain ⟨h1,h2⟩:=hav
   refine ⟨?_,h1,fun h3=>h2 (ha k h3 (by omega))⟩
   rw [hg4.block k (by omega) (fun h=>h2 h.symm),hM.gr.block k hk (fun h=>by injection h with h;omega)]
 · refine hM.row.keep s4 fun b off hb hlt=>hg4.block b hlt fun h=>?_
   have:=(hM.fresh b off hb).1
   have:=(hA b h.symm).2
   omega
 · have h1:=hM.fresh b off hb
   refine ⟨by omega,by omega,fun h3=>?_⟩
   have:=(hA b (ha b h3 (by omega))).2
   omega
 · refine ⟨hg4.os.trans (hM.gr.os.trans Hg.os),hg4.tape.trans (hM.gr.tape.trans Hg.tape),hg4.output.trans (hM.gr.output.trans Hg.output),by omega,fun k hk hne=>?_⟩
   rw [hg4.block k (by omega) (fun h=>by have:=(hA k h.symm).1;omega),hM.gr.block k (by omega) hne,Hg.block k hk hne]
 · exact hM.rd.keep s4 fun k h1 h2=>hg4.block k h2 fun h=>by have:=(hA k h.symm).1;omega
theorem MidG.prec {wr wc w6:World} {p gB:Nat} {Ar:Option Addr} {cr:Nat} {L pr:ByteArray} {x y px py:Nat} {rs:List ByteArray} {us us':List Tk} (hM:MidG wr wc p gB Ar cr L x y rs ⟨#[]⟩ 0 0 us) (hp:p < wr.heap.size) (hg:wc.grownBy w6 (some p)) (hr:RdAt w6 p us') :
 MidG wr ((w6.setCell ⟨gB,3,none⟩ (.string pr)).setCell ⟨gB,4,none⟩ (.complex .f64 px py)) p gB Ar cr L x y rs pr px py us':=by
 have hlo:=hM.lo
 have hb6:Blk w6 gB 199 #[.string L, .complex .f64 x y, .slice Ar rs.length cr, .string ⟨#[]⟩, .complex .f64 0 0]:=hM.blk.grown hg (fun e=>by injection e with e;omega)
 have hs:w6.grownBy ((w6.setCell ⟨gB,3,none⟩ (.string pr)).setCell ⟨gB,4,none⟩ (.complex .f64 px py)) (some gB):=grown_trans (grown_set _ _ _ _) (grown_set _ _ _ _)
 have s1:=hM.gr.size
 have s2:=hg.size
 refine ⟨hlo,(hb6.set 3 (.string pr)).set 4 (.complex .f64 px py),?_,fun b off h=>?_,hM.ne,hr.keep hs.size fun k h1 h2=>hs.block k h2 fun e=>by injection e with e;omega,?_⟩
 · refine (hM.row.keep hg.size fun b off h hlt=>hg.block b hlt fun e=>?_).keep hs.size fun b off h hlt=>hs.block b hlt fun e=>?_
   · injection e with e
     have:=(hM.fresh b off h).1
     omega
   · injection e with e
     exact hM.ne b off h e
 · have:=hM.fresh b off h
   exact ⟨this.1,Nat.lt_of_lt_of_le this.2 (Nat.le_trans hg.size hs.size)⟩
 · refine ⟨hs.os.trans (hg.os.trans hM.gr.os),hs.tape.trans (hg.tape.trans hM.gr.tape),hs.output.trans (hg.output.trans hM.gr.output),Nat.le_trans s1 (Nat.le_trans s2 hs.size),fun k hk hne=>?_⟩
   rw [hs.block k (by omega) (fun e=>by injection e with e;omega),hg.block k (by omega) hne,hM.gr.block k hk hne]
theorem own_monoS {w:World} {base base' e size:Nat} {v:Value} {n:Nat} {xs:List Value} (h:w.ownsRow base e size v n xs) (hb:base'≤base):w.ownsRow base' e size v n xs:=by
 refine ⟨h.1,?_⟩
 rcases h.2 with hn | ⟨g,cap,cur,hv,hbg,rest⟩
 · exact .inl hn
 · exact .inr ⟨g,cap,cur,hv,by omega,rest⟩
theorem PrdCs.grown {w w':World} {B p:Nat} {v:Value} {cs:List Value} {ps:List Prd} (h:PrdCs w (fun b=>B≤b∧v.ownBlock ≠ some b) cs ps) (hg:w.grownBy w' (some p)) (hp:p < B):PrdCs w' (fun b=>B≤b∧v.ownBlock ≠ some b) cs ps :=
 h.keep hg.size fun k hk hav=>⟨hg.block k hk fun e=>by injection e with e;have:=hav.1;omega,hav⟩
theorem rd_group (p q:Nat) (ts:List Tk) (ps:List Prd) (rest:List Tk) (w:World) (h:RdAt w p ts) (hq:groupP q ts=some (ps,rest)) :
 Calls Tryz.prog 190 #[.pointer (some ⟨p,0,none⟩)] w fun e w'=>∃ A c cs,e = .returned (.slice A ps.length c) ∧
  w'.ownsRow w.heap.size 199 5 (.slice A ps.length c) ps.length cs∧PrdCs w' (fun b=>w.heap.size≤b∧(Value.slice A ps.length c).ownBlock ≠ some b) cs ps∧RdAt w' p rest∧w.grownBy w' (some p):=by
 have hp:=h.lt
 have hl:=h.len
 obtain ⟨a,b,us0,rfl,ha,hb,hq⟩:∃ a b us0,ts=a::b::us0∧a.1=1∧b.1=10∧altsP a.2 q us0=some (ps,rest):=by
  cases ts with
  | nil=>cases hq
  | cons a ts =>
    cases ts with
    | nil=>cases hq
    | cons b ts =>
      have hq:(if a.1=1∧b.1=10 then altsP a.2 q ts else none)=some (ps,rest):=hq
      by_cases hab:a.1=1∧b.1=10
      · rw [if_pos hab] at hq
        exact ⟨a,b,ts,rfl,hab.1,hab.2,hq⟩
      · rw [if_neg hab] at hq
        cases hq
 have CT1:=LH (rd_take p 1 1 a (b::us0) w h (by simp [isP,ha]))
 have C2:=LH fun (W:World) (hW:RdAt W p (b::us0))=>rd_take p 10 10 b us0 W hW (by simp [isP,hb])
 have Hq0:=LH hq
 simp only [List.length_cons] at hl
 have hi5:(Tryz.prog.info? 199).map (fun i=>(i.zero,i.size,i.bytes))=some (some (.agg #[.string ⟨#[]⟩, .complex .f64 0 0, .slice none 0 0, .string ⟨#[]⟩, .complex .f64 0 0]),5,88):=by kernel_rfl
 have Hi:=LH hi5
 have ksc:∀ (w:World) (a:Addr) (k:FloatKind) (x y:Nat) (m:Mode),(store a (.complex k x y) m).run Tryz.prog w=stored Tryz.prog w a (.complex k x y) m:=fun w a k x y m=>run_store Tryz.prog w a _ m rfl
 clear h hq ha hb hi5
 generalize a.2=L at *
 go_enter Tryz.func190,Tryz.ntmps190
 go_wp2_with (go_at_call 189;(with_reducible refine CT1.out.mono ?_);rintro e w2 ⟨⟨x,y,rfl⟩,hr2,hg2⟩)
 have hr2':=hr2.below (alloc_below w2 (.cells #[.string L, .complex .f64 x y] 191))
 have hbk2:=Blk.new w2 191 #[.string L, .complex .f64 x y]
 have hgl:p < w2.heap.size:=hr2.lt
 have hga:w2.grownBy (w2.alloc (.cells #[.string L, .complex .f64 x y] 191)) (some p):=grown_below _ (alloc_below _ _)
 have hsz:=hg2.size
 (with_reducible refine (C2.out _ hr2').mono ?_)
 rintro e W1 ⟨⟨x3,y3,rfl⟩,hr3,hg3⟩
 have hbk3:=hbk2.grown hg3 (by intro e;injection e with e;omega)
 have HgW:=LH (grown_trans hg2 (grown_trans hga hg3))
 have hpW:p < W1.heap.size:=hr3.lt
 have hgW:=hbk3.lt
 have Hr3:=LH hr3
 generalize w2.heap.size=g at *
 clear hr2 hg2 hr2' hbk2 hga hg3 hr3
 go_wp2_with fail
 go_loopw [3] (fun o wr=>∃ (d c:Nat) (A:Option Addr) (done:List Prd) (us:List Tk) (cs:List Value),o = .slice A d c∧d+us.length≤4000∧Hid (d=done.length)∧Hid (∃ q' more,altsP L q' us=some (more,rest)∧done++more=ps) ∧
  Hid (wr.ownsRow W1.heap.size 199 5 (.slice A d c) d cs)∧Hid (PrdCs wr (fun b=>W1.heap.size≤b∧(Value.slice A d c).ownBlock ≠ some b) cs done)∧Hid (RdAt wr p us)∧Hid (W1.grownBy wr (some p))) (fun _ wr=>remR wr p)
 case atStart=>exact ⟨0,0,none,[],us0,[],rfl,by omega,LH rfl,LH ⟨q,ps,Hq0.out,rfl⟩,LH (World.ownsRow_nil _ _ _ _),LH (PrdCs.nil _ _),Hr3,LH (grown_refl _ _)⟩
 case round =>
  obtain ⟨d,c,A,done,us,cs,rfl,hdu,Hd,Hq,Ho,Hc,Hr,Hg⟩:=hrel
  obtain ⟨q',more,hq',hdm⟩:=Hq.out
  obtain ⟨pr,us2,u,us3,hpp,rfl,hways⟩:=altsP_step hq'
  have hlen:=spanS_len us
  have hpw:=precP_ways hpp
  have hbk4:=hbk3.grown Hg.out (by intro e;injection e with e;omega)
  have g0:wr.cell? ⟨g,0,none⟩=some (.string L):=by rw [hbk4.cell];rfl
  have g1:wr.cell? ⟨g,1,none⟩=some (.complex .f64 x y):=by rw [hbk4.cell];rfl
  have hgr:g < wr.heap.size:=hbk4.lt
  have CR:=LH fun (W:World) (hW:RdAt W p us)=>rd_refs p us W hW
  have C:=LH fun (k:Int) (ts:List Tk) (W:World) (hW:RdAt W p ts)=>rd_is p k k ts W hW
  obtain ⟨A0,c0,x0,y0,x0',y0',_,_,_,_,_,_,q3⟩:=Hr.out.parts
  have Hways:=LH hways
  have Hbk4:=LH hbk4
  have Hrs:Hid ((spanS us).1.length=(spanS us).1.length):=LH rfl
  clear hq' hways hbk4 Hq hpp
  generalize (spanS us).1=rs at *
  generalize (spanS us).2=ts1 at *
  have Hpw:=LH hpw
  clear hpw
  go_upto_region 5 with fail
  go_cut [5] (fun v wx=>∃ gB Ar cr,v = .pointer (some ⟨gB,0,none⟩)∧MidG wr wx p gB Ar cr L x y rs ⟨#[]⟩ 0 0 ts1)
  case first =>
   have HrA:=LH (Hr.out.below (alloc_below wr (.cells #[.string ⟨#[]⟩, .complex .f64 0 0, .slice none 0 0, .string ⟨#[]⟩, .complex .f64 0 0] 199)).drew)
   have a0:=((alloc_below wr (.cells #[.string ⟨#[]⟩, .complex .f64 0 0, .slice none 0 0, .string ⟨#[]⟩, .complex .f64 0 0] 199)).drew.cell (p:=⟨g,0,none⟩) hgr).trans g0
   have a1:=((alloc_below wr (.cells #[.string ⟨#[]⟩, .complex .f64 0 0, .slice none 0 0, .string ⟨#[]⟩, .complex .f64 0 0] 199)).drew.cell (p:=⟨g,1,none⟩) hgr).trans g1
   have hgrA:g < (wr.alloc (.cells #[.string ⟨#[]⟩, .complex .f64 0 0, .slice none 0 0, .string ⟨#[]⟩, .complex .f64 0 0] 199)).drew.heap.size:=Nat.lt_of_lt_of_le hgr (alloc_below wr _).size
   have hgne:g ≠ p:=by omega
   have hcl:∀ W w2:World,W.grownBy w2 (some p)→g < W.heap.size→W.cell? ⟨g,0,none⟩=some (.string L)→W.cell? ⟨g,1,none⟩=some (.complex .f64 x y)→w2.cell? ⟨g,0,none⟩=some (.string L)∧w2.cell? ⟨g,1,none⟩=some (.complex .f64 x y) :=
    fun W w2 h1 h2 h3 h4=>⟨(grown_frozen h1 h2 hgne).trans h3,(grown_frozen h1 h2 hgne).trans h4⟩
   go_region_with (first
    | (go_at_call 224;refine (CR.out _ (by exact Hr.out)).mono ?_;rintro e w2 ⟨Ar,cr,rcs,rfl,ho2,hrc,hr2,hg2⟩;obtain ⟨f0,f1⟩:=hcl _ _ hg2 hgr g0 g1;have hgs:g < w2.heap.size:=Nat.lt_of_lt_of_le hgr hg2.size)
    | (go_at_call 224;refine (CR.out _ (by exact HrA.out)).mono ?_;rintro e w2 ⟨Ar,cr,rcs,rfl,ho2,hrc,hr2,hg2⟩;obtain ⟨f0,f1⟩:=hcl _ _ hg2 hgrA a0 a1
       have hgs:g < w2.heap.size:=Nat.lt_of_lt_of_le hgrA hg2.size
       have hbB:Blk w2 wr.heap.size 199 #[.string ⟨#[]⟩, .complex .f64 0 0, .slice none 0 0, .string ⟨#[]⟩, .complex .f64 0 0]:=Blk.grown (Blk.drew (Blk.new wr _ _)) hg2 (by intro e;injection e with e;omega)
       have v0:=hbB.frozen 0
       have v1:=hbB.frozen 1
       have v2:=hbB.frozen 2
       have v3:=hbB.frozen 3
       have v4:=hbB.frozen 4
       have z0:w2.cell? ⟨wr.heap.size,0,none⟩=some (.string ⟨#[]⟩):=hbB.cell 0
       have z1:w2.cell? ⟨wr.heap.size,1,none⟩=some (.complex .f64 0 0):=hbB.cell 1
       have z2:w2.cell? ⟨wr.heap.size,2,none⟩=some (.slice none 0 0):=hbB.cell 2
       have z3:w2.cell? ⟨wr.heap.size,3,none⟩=some (.string ⟨#[]⟩):=hbB.cell 3
       have z4:w2.cell? ⟨wr.heap.size,4,none⟩=some (.complex .f64 0 0):=hbB.cell 4
       have HbB:=LH hbB
       clear hbB))
   all_goals
    go_wp2_with fail
    go_meet
    first
     | exact ⟨_,Ar,cr,rfl,MidG.late hg2 ho2 hrc hr2⟩
     | exact ⟨_,Ar,cr,rfl,MidG.early (by omega) hg2 ho2 hrc hr2 HbB.out⟩
  case rest =>
   obtain ⟨gB,Ar,cr,rfl,hM⟩:=hcut
   have hbk:=hM.blk
   have k0:wc.cell? ⟨gB,0,none⟩=some (.string L):=hbk.cell 0
   have k1:wc.cell? ⟨gB,1,none⟩=some (.complex .f64 x y):=hbk.cell 1
   have k2:wc.cell? ⟨gB,2,none⟩=some (.slice Ar rs.length cr):=hbk.cell 2
   have k3:wc.cell? ⟨gB,3,none⟩=some (.string ⟨#[]⟩):=hbk.cell 3
   have k4:wc.cell? ⟨gB,4,none⟩=some (.complex .f64 0 0):=hbk.cell 4
   have C8:=LH (C.out 8 ts1 wc hM.rd)
   have HM:=LH hM
   have hbs:W1.heap.size≤wc.heap.size:=Nat.le_trans Hg.out.size hM.gr.size
   have CTk:=LH fun (a b:Int) (t:Tk) (ts:List Tk) (W:World) (hW:RdAt W p (t::ts)) (hk:isP a b (t::ts)=true)=>rd_take p a b t ts W hW hk
   have hgBp:p < gB:=Nat.lt_of_lt_of_le (by omega:p < wr.heap.size) hM.lo
   clear hbk hM g0 g1 q3 CR hbk3 Hbk4
   have hpl0:p < wr.heap.size:=by omega
   rcases Hpw.out with ⟨h8,rfl,rfl⟩ | ⟨t0,t1,rfl,ht0,ht1,rfl⟩
   case' inl =>
    rw [show isP 8 8 (u::us3)=false by simpa [isP,headK] using h8] at C8
    simp only [List.length_cons] at hlen
    have Hlen3:Hid (us3.length < us.length):=LH (by omega)
    go_upto_region 9 with (go_at_call 225;(with_reducible refine C8.out.mono ?_);rintro e w2 ⟨rfl,rfl⟩)
    clear k0 k1 k2 k3 k4
    obtain ⟨pq,px,py,HM9,He⟩:∃ (pq:ByteArray) (px py:Nat),Hid (MidG wr wc p gB Ar cr L x y rs pq px py (u::us3))∧Hid (pq=⟨#[]⟩):=⟨_,0,0,HM,LH rfl⟩
    rw [← He.out] at Hways
    clear HM hbs C8
    generalize wc=wd at *
   case' inr =>
    rw [show isP 8 8 (t0::t1::u::us3)=true by simp [isP,ht0]] at C8
    simp only [List.length_cons] at hlen
    have Hlen3:Hid (us3.length < us.length):=LH (by omega)
    have CA:=LH (CTk.out 8 8 t0 (t1::u::us3) wc HM.out.rd (by simp [isP,ht0]))
    have hT1:isP 1 2 (t1::u::us3)=true:=by rw [isP_sym];exact ht1
    have HT1:=LH hT1
    clear hT1
    go_upto_region 9 with (first
     | (go_at_call 225;(with_reducible refine C8.out.mono ?_);rintro e w2 ⟨rfl,rfl⟩)
     | (go_at_call 189
        (with_reducible refine CA.out.mono ?_)
        rintro e w5 ⟨⟨x5,y5,rfl⟩,hr5,hg5⟩
        have CB:=LH (CTk.out 1 2 t1 (u::us3) w5 hr5 HT1.out)
        have Hg5:=LH hg5
        clear hr5 hg5 CA)
     | (go_at_call 189
        (with_reducible refine CB.out.mono ?_)
        rintro e w6 ⟨⟨px,py,rfl⟩,hr6,hg6⟩
        have Hg6:=LH (grown_trans Hg5.out hg6)
        have hb6:=HM.out.blk.grown Hg6.out (fun e=>by injection e with e;omega)
        have v3:=hb6.frozen 3
        have v4:=hb6.frozen 4
        have k3:w6.cell? ⟨gB,3,none⟩=some (.string ⟨#[]⟩):=hb6.cell 3
        have k4:w6.cell? ⟨gB,4,none⟩=some (.complex .f64 0 0):=hb6.cell 4
        have HM8:=LH (HM.out.prec (pr:=t1.2) (px:=px) (py:=py) hpl0 Hg6.out hr6)
        clear hr6 hg6 hb6))
    have HM9:=HM8
    clear HM8 HM k0 k1 k2 k3 k4 v3 v4 hbs C8
    generalize (w6.setCell ⟨gB,3,none⟩ (.string t1.2)).setCell ⟨gB,4,none⟩ (.complex .f64 px py)=wd at *
    generalize t1.2=pq at *
   all_goals
    have hM:=HM9.out
    have hbk:=hM.blk
    have k0:wd.cell? ⟨gB,0,none⟩=some (.string L):=hbk.cell 0
    have k1:wd.cell? ⟨gB,1,none⟩=some (.complex .f64 x y):=hbk.cell 1
    have k2:wd.cell? ⟨gB,2,none⟩=some (.slice Ar rs.length cr):=hbk.cell 2
    have k3:wd.cell? ⟨gB,3,none⟩=some (.string pq):=hbk.cell 3
    have k4:wd.cell? ⟨gB,4,none⟩=some (.complex .f64 px py):=hbk.cell 4
    have Ho2:=LH (own_grown Ho.out hM.gr hpW)
    have hbs:W1.heap.size≤wd.heap.size:=Nat.le_trans Hg.out.size hM.gr.size
    have Hrem:Hid (us3.length < remR wr p):=LH (by rw [Hr.out.rem];exact Hlen3.out)
    have CT:=LH fun (k:Int) (W:World) (hW:RdAt W p (u::us3)) (hk:u.1=k)=>CTk.out k k u us3 W hW (by simp [isP,hk])
    have hl3:d+1+us3.length≤4000:=by have:=Hlen3.out;omega
    have HM:=HM9
    clear hbk hM HM9
    rcases Hways.out with ⟨hu,hmore⟩ | ⟨hu,rfl,rfl⟩
    · have Hmore:=LH hmore
      have Hu:=LH hu
      clear hmore hu
      go_wp2_with (first
       | (go_at_call 225;(with_reducible refine C11.out.mono ?_);rintro e w5 ⟨rfl,rfl⟩)
       | (go_at_call 189;(with_reducible refine C5.out.mono ?_);rintro e w5 ⟨⟨x5,y5,rfl⟩,hr5,hg5⟩)
       | (at_builtin;refine wpl_appendT rfl _ _ 128 rfl W1.heap.size 199 _ 5 88 Tryz.underlying128 Hi.out (by decide) (by decide) A d c cs rfl Ho2.out [.string L, .complex .f64 x y, .slice Ar rs.length cr, .string pq, .complex .f64 px py] rfl rfl (by simp [Value.oneCell']) (by omega) (by omega) hbs ?_;intro A4 c4 w4 ho hgr4 ha4
          have hmk:=prd_more hpW Hg.out Ho.out Hc.out HM.out hgr4 ha4
          have HP:=LH hmk.1
          have HG:=LH hmk.2.1
          have C11:=LH (C.out 11 (u::us3) w4 hmk.2.2)
          rw [show isP 11 11 (u::us3)=true by simp [isP,Hu.out]] at C11
          have C5:=LH (CT.out 11 w4 hmk.2.2 Hu.out)
          have Ho4:=LH ho
          clear hmk ho hgr4 ha4))
      have Hrem5:Hid (remR w5 p < remR wr p):=LH (by rw [hr5.rem];exact Hrem.out)
      have Ho5:=LH (own_grown Ho4.out hg5 hpW)
      have HP5:=LH (HP.out.grown hg5 hpW)
      have HG5:=LH (grown_trans HG.out hg5)
      have Hr5:=LH hr5
      have Hd5:Hid (d+1=(done++[(⟨L,rs,pq⟩:Prd)]).length):=LH (by rw [List.length_append,← Hd.out];rfl)
      have Hq5:Hid (∃ q' more',altsP L q' us3=some (more',rest)∧(done++[⟨L,rs,pq⟩])++more'=ps):=LH (by
       obtain ⟨q2,m2,h1,h2⟩:=Hmore.out
       exact ⟨q2,m2,h1,by rw [← hdm,h2];simp⟩)
      clear hdm hr5 hg5
      go_roundw
      case rel=>exact ⟨d+1,c4,A4,_,us3,_,rfl,hl3,Hd5,Hq5,Ho5,HP5,Hr5,HG5⟩
      case measure=>exact Hrem5.out
    · have Hu:=LH hu
      clear hu
      go_wp2_with (first
       | (go_at_call 225;(with_reducible refine C11.out.mono ?_);rintro e w5 ⟨rfl,rfl⟩)
       | (go_at_call 189;(with_reducible refine C5.out.mono ?_);rintro e w5 ⟨⟨x5,y5,rfl⟩,hr5,hg5⟩)
       | (at_builtin;refine wpl_appendT rfl _ _ 128 rfl W1.heap.size 199 _ 5 88 Tryz.underlying128 Hi.out (by decide) (by decide) A d c cs rfl Ho2.out [.string L, .complex .f64 x y, .slice Ar rs.length cr, .string pq, .complex .f64 px py] rfl rfl (by simp [Value.oneCell']) (by omega) (by omega) hbs ?_;intro A4 c4 w4 ho hgr4 ha4
          have hmk:=prd_more hpW Hg.out Ho.out Hc.out HM.out hgr4 ha4
          have HP:=LH hmk.1
          have HG:=LH hmk.2.1
          have C11:=LH (C.out 11 (u::rest) w4 hmk.2.2)
          rw [show isP 11 11 (u::rest)=false by simp [isP,Hu.out]] at C11
          have C5:=LH (CT.out 12 w4 hmk.2.2 Hu.out)
          have Ho4:=LH ho
          clear hmk ho hgr4 ha4))
      go_ret
      have hpl:ps.length=d+1:=by rw [← hdm,List.length_append,← Hd.out];rfl
      have hWs:w.heap.size≤W1.heap.size:=HgW.out.size
      refine ⟨A4,c4,cs++[.string L, .complex .f64 x y, .slice Ar rs.length cr, .string pq, .complex .f64 px py],by rw [hpl];rfl,?_,?_,hr5,grown_trans HgW.out (grown_trans HG.out hg5)⟩
      · rw [hpl];exact own_monoS (own_grown Ho4.out hg5 hpW) hWs
      · rw [hpl,← hdm]
        exact (HP.out.grown hg5 hpW).keep (Nat.le_refl _) fun k _ hav=>⟨rfl,Nat.le_trans hWs hav.1,hav.2⟩
end Go.Proofs.YtggbjdmpjidhgaaGreatDoor
