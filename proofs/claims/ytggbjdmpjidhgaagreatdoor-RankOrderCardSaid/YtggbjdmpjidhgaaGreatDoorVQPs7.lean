/- the reference's reading: a group of rules. -/
import Derived.Test.YtggbjdmpjidhgaaGreatDoorVQPs4
import Derived.Deep.DeepCutAuto
import Derived.Deep.RegionWith
set_option linter.unusedVariables false
set_option linter.unusedSimpArgs false
set_option maxHeartbeats 8000000
set_option maxRecDepth 100000
namespace Go.Proofs.YtggbjdmpjidhgaaGreatDoor
open Go.RowKit
theorem headK_cons {ts:List Tk} {k:Int} (h:headK ts=k) (b:k ≠ 0):∃ u a,ts=u::a∧u.1=k:=by
 cases ts with
 | nil=>exact absurd h.symm b
 | cons u a=>exact ⟨u,a,rfl,h⟩
theorem precP_ways {ts:List Tk} {pr:ByteArray} {d:List Tk} (h:precP ts=some (pr,d)):(headK ts ≠ 8∧pr=⟨#[]⟩∧d=ts)∨∃ b c,ts=b::c::d∧b.1=8∧isSym c.1=true∧pr=c.2:=by
 unfold precP at h
 by_cases a:headK ts=8
 · rw [if_pos a] at h
   match ts,a,h with
   | [],a,h=>cases h
   | [b],a,h=>cases h
   | b::c::r,a,h =>
     simp only at h
     split at h
     · rename_i f
       simp only [Option.some.injEq,Prod.mk.injEq] at h
       obtain ⟨rfl,rfl⟩:=h
       exact .inr ⟨b,c,rfl,a,f,rfl⟩
     · cases h
 · rw [if_neg a] at h
   simp only [Option.some.injEq,Prod.mk.injEq] at h
   exact .inl ⟨a,h.1.symm,h.2.symm⟩
theorem altsP_step {L:ByteArray} {q:Nat} {d:List Tk} {j:List Prd} {rest:List Tk} (h:altsP L q d=some (j,rest)) :
 ∃ pr a u b,precP (spanS d).2=some (pr,a)∧a=u::b∧((u.1=11∧∃ o n,altsP L o b=some (n,rest)∧j=⟨L,(spanS d).1,pr⟩::n)∨(u.1=12∧j=[⟨L,(spanS d).1,pr⟩]∧rest=b)):=by
 cases q with
 | zero=>cases h
 | succ q =>
   unfold altsP at h
   split at h
   · cases h
   · rename_i pr a l
     by_cases f:headK a=11
     · rw [if_pos f,Option.map_eq_some_iff] at h
       obtain ⟨⟨m,r⟩,c,k⟩:=h
       simp only [Prod.mk.injEq] at k
       obtain ⟨rfl,rfl⟩:=k
       obtain ⟨u,b,e,g⟩:=headK_cons f (by decide)
       rw [e] at c
       exact ⟨pr,a,u,b,l,e, .inl ⟨g,q,m,c,rfl⟩⟩
     · rw [if_neg f] at h
       by_cases c:headK a=12
       · rw [if_pos c] at h
         simp only [Option.some.injEq,Prod.mk.injEq] at h
         obtain ⟨rfl,rfl⟩:=h
         obtain ⟨u,b,e,g⟩:=headK_cons c (by decide)
         exact ⟨pr,a,u,b,l,e, .inr ⟨g,rfl,by rw [e];rfl⟩⟩
       · rw [if_neg c] at h
         cases h
structure MidG (wr wx:World) (p gB:Nat) (Ar:Option Addr) (cr:Nat) (L:ByteArray) (x y:Nat) (rs:List ByteArray) (pr:ByteArray) (px py:Nat) (us:List Tk):Prop where
 lo:wr.heap.size≤gB
 blk:Blk wx gB 199 #[.string L, .complex .f64 x y, .slice Ar rs.length cr, .string pr, .complex .f64 px py]
 row:Rfs wx Ar rs.length cr rs
 fresh:∀ b off,Ar=some ⟨b,off,none⟩→wr.heap.size≤b∧b < wx.heap.size
 ne:∀ b off,Ar=some ⟨b,off,none⟩→b ≠ gB
 rd:RdAt wx p us
 gr:wr.grownBy wx (some p)
theorem MidG.late {wr a:World} {p:Nat} {Ar:Option Addr} {cr:Nat} {L:ByteArray} {x y:Nat} {d:List ByteArray} {l:List Tk} {m:TypeId} {k:List Value} (c:wr.drew.grownBy a (some p)) (j:a.ownsRow wr.drew.heap.size m 2 (.slice Ar d.length cr) d.length k) (o:RefCs k d) (n:RdAt a p l) :
 MidG wr (a.alloc (.cells #[.string L, .complex .f64 x y, .slice Ar d.length cr, .string ⟨#[]⟩, .complex .f64 0 0] 199)) p a.heap.size Ar cr L x y d ⟨#[]⟩ 0 0 l:=by
 have g:=alloc_below a (.cells #[.string L, .complex .f64 x y, .slice Ar d.length cr, .string ⟨#[]⟩, .complex .f64 0 0] 199)
 refine ⟨c.size,Blk.new _ _ _,(own_rfs j o).below g,fun b q h=>?_,fun b q h=>?_,n.below g,?_⟩
 · have f:wr.heap.size≤b∧b < a.heap.size:=j.lt b (by rw [h];rfl)
   exact ⟨f.1,Nat.lt_of_lt_of_le f.2 g.size⟩
 · have f:wr.heap.size≤b∧b < a.heap.size:=j.lt b (by rw [h];rfl)
   omega
 · have f:wr.grownBy a (some p):=⟨c.os,c.tape,c.output,c.size,c.block⟩
   exact grown_trans f (grown_below _ g)
theorem MidG.early {wr c:World} {p:Nat} {Ar:Option Addr} {cr:Nat} {L:ByteArray} {x y:Nat} {g:List ByteArray} {t:List Tk} {u:TypeId} {s:List Value} {o:Obj} (F:p < wr.heap.size) (j:(wr.alloc o).drew.grownBy c (some p)) (r:c.ownsRow (wr.alloc o).drew.heap.size u 2 (.slice Ar g.length cr) g.length s) (D:RefCs s g) (C:RdAt c p t)
 (z:Blk c wr.heap.size 199 #[.string ⟨#[]⟩, .complex .f64 0 0, .slice none 0 0, .string ⟨#[]⟩, .complex .f64 0 0]) :
 MidG wr (((((c.setCell ⟨wr.heap.size,0,none⟩ (.string L)).setCell ⟨wr.heap.size,1,none⟩ (.complex .f64 x y)).setCell ⟨wr.heap.size,2,none⟩ (.slice Ar g.length cr)).setCell ⟨wr.heap.size,3,none⟩ (.string ⟨#[]⟩)).setCell ⟨wr.heap.size,4,none⟩ (.complex .f64 0 0)) p wr.heap.size Ar cr L x y g ⟨#[]⟩ 0 0 t:=by
 have a:c.grownBy (((((c.setCell ⟨wr.heap.size,0,none⟩ (.string L)).setCell ⟨wr.heap.size,1,none⟩ (.complex .f64 x y)).setCell ⟨wr.heap.size,2,none⟩ (.slice Ar g.length cr)).setCell ⟨wr.heap.size,3,none⟩ (.string ⟨#[]⟩)).setCell ⟨wr.heap.size,4,none⟩ (.complex .f64 0 0)) (some wr.heap.size) :=
  grown_trans (grown_trans (grown_trans (grown_trans (grown_set _ _ _ _) (grown_set _ _ _ _)) (grown_set _ _ _ _)) (grown_set _ _ _ _)) (grown_set _ _ _ _)
 have A:=(((((z.set 0 (.string L)).set 1 (.complex .f64 x y)).set 2 (.slice Ar g.length cr)).set 3 (.string ⟨#[]⟩)).set 4 (.complex .f64 0 0))
 have q:(wr.alloc o).drew.heap.size=wr.heap.size+1:=alloc_size wr o
 have E:wr.heap.size+1≤c.heap.size:=by rw [← q];exact j.size
 have l:∀ b f,Ar=some ⟨b,f,none⟩→wr.heap.size+1≤b∧b < c.heap.size:=fun b f h=>by
  have d:=r.lt b (by rw [h];rfl)
  rwa [q] at d
 refine ⟨Nat.le_refl _,A,(own_rfs r D).keep a.size fun b f h B=>a.block b B fun e=>?_,fun b f h=>?_,fun b f h=>?_,C.keep a.size fun k d v=>a.block k v fun e=>?_,?_⟩
 · injection e with e
   have:=(l b f h).1
   omega
 · have:=l b f h
   exact ⟨by omega,Nat.lt_of_lt_of_le this.2 a.size⟩
 · have:=l b f h
   omega
 · injection e with e
   omega
 · have d:wr.grownBy c (some p):=by
    refine ⟨j.os,j.tape,j.output,by omega,fun k m n=>?_⟩
    exact (j.block k (by rw [q];omega) n).trans ((alloc_below wr o).block k m)
   refine ⟨a.os.trans d.os,a.tape.trans d.tape,a.output.trans d.output,Nat.le_trans d.size a.size,fun k m n=>?_⟩
   rw [a.block k (by omega) (fun e=>by injection e with e;omega),d.block k m n]
theorem prd_more {g wr v o:World} {p d c cr B I x y px py:Nat} {A Ar z:Option Addr} {e:TypeId} {cs:List Value} {done:List Prd} {n:List ByteArray} {L pr:ByteArray} {F:List Tk}
 (N:p < g.heap.size) (j:g.grownBy wr (some p)) (H:wr.ownsRow g.heap.size e 5 (.slice A d c) d cs) (G:PrdCs wr (fun b=>g.heap.size≤b∧(Value.slice A d c).ownBlock ≠ some b) cs done)
 (a:MidG wr v p I Ar cr L x y n pr px py F) (f:v.grownBy o (Value.slice A d c).ownBlock) (C:∀ b,(Value.slice z (d+1) B).ownBlock=some b→b < v.heap.size→(Value.slice A d c).ownBlock=some b) :
 PrdCs o (fun b=>g.heap.size≤b∧(Value.slice z (d+1) B).ownBlock ≠ some b) (cs++[.string L, .complex .f64 x y, .slice Ar n.length cr, .string pr, .complex .f64 px py]) (done++[⟨L,n,pr⟩])∧g.grownBy o (some p)∧RdAt o p F:=by
 have O:=j.size
 have P:=a.gr.size
 have E:=f.size
 have m:∀ b,(Value.slice A d c).ownBlock=some b→g.heap.size≤b∧b < wr.heap.size:=fun b h=>H.lt b h
 refine ⟨PrdCs.app (G.keep (by omega) fun k t J=>?_) (PrdCs.one ⟨L,n,pr⟩ x y px py ?_ fun b u s=>?_),?_,?_⟩
 · obtain ⟨q,l⟩:=J
   refine ⟨?_,q,fun r=>l (C k r (by omega))⟩
   rw [f.block k (by omega) (fun h=>l h.symm),a.gr.block k t (fun h=>by injection h with h;omega)]
 · refine a.row.keep E fun b u s M=>f.block b M fun h=>?_
   have:=(a.fresh b u s).1
   have:=(m b h.symm).2
   omega
 · have q:=a.fresh b u s
   refine ⟨by omega,by omega,fun r=>?_⟩
   have:=(m b (C b r (by omega))).2
   omega
 · refine ⟨f.os.trans (a.gr.os.trans j.os),f.tape.trans (a.gr.tape.trans j.tape),f.output.trans (a.gr.output.trans j.output),by omega,fun k t D=>?_⟩
   rw [f.block k (by omega) (fun h=>by have:=(m k h.symm).1;omega),a.gr.block k (by omega) D,j.block k t D]
 · exact a.rd.keep E fun k q l=>f.block k l fun h=>by have:=(m k h.symm).1;omega
theorem MidG.prec {wr q g:World} {p f:Nat} {Ar:Option Addr} {cr:Nat} {L pr:ByteArray} {x y px py:Nat} {m:List ByteArray} {B o:List Tk} (a:MidG wr q p f Ar cr L x y m ⟨#[]⟩ 0 0 B) (D:p < wr.heap.size) (d:q.grownBy g (some p)) (v:RdAt g p o) :
 MidG wr ((g.setCell ⟨f,3,none⟩ (.string pr)).setCell ⟨f,4,none⟩ (.complex .f64 px py)) p f Ar cr L x y m pr px py o:=by
 have u:=a.lo
 have s:Blk g f 199 #[.string L, .complex .f64 x y, .slice Ar m.length cr, .string ⟨#[]⟩, .complex .f64 0 0]:=a.blk.grown d (fun e=>by injection e with e;omega)
 have c:g.grownBy ((g.setCell ⟨f,3,none⟩ (.string pr)).setCell ⟨f,4,none⟩ (.complex .f64 px py)) (some f):=grown_trans (grown_set _ _ _ _) (grown_set _ _ _ _)
 have z:=a.gr.size
 have A:=d.size
 refine ⟨u,(s.set 3 (.string pr)).set 4 (.complex .f64 px py),?_,fun b j h=>?_,a.ne,v.keep c.size fun k C r=>c.block k r fun e=>by injection e with e;omega,?_⟩
 · refine (a.row.keep d.size fun b j h l=>d.block b l fun e=>?_).keep c.size fun b j h l=>c.block b l fun e=>?_
   · injection e with e
     have:=(a.fresh b j h).1
     omega
   · injection e with e
     exact a.ne b j h e
 · have:=a.fresh b j h
   exact ⟨this.1,Nat.lt_of_lt_of_le this.2 (Nat.le_trans d.size c.size)⟩
 · refine ⟨c.os.trans (d.os.trans a.gr.os),c.tape.trans (d.tape.trans a.gr.tape),c.output.trans (d.output.trans a.gr.output),Nat.le_trans z (Nat.le_trans A c.size),fun k t n=>?_⟩
   rw [c.block k (by omega) (fun e=>by injection e with e;omega),d.block k (by omega) n,a.gr.block k t n]
theorem own_monoS {w:World} {base base' e size:Nat} {v:Value} {n:Nat} {xs:List Value} (h:w.ownsRow base e size v n xs) (d:base'≤base):w.ownsRow base' e size v n xs:=by
 refine ⟨h.1,?_⟩
 rcases h.2 with b | ⟨g,cap,a,c,f,rest⟩
 · exact .inl b
 · exact .inr ⟨g,cap,a,c,by omega,rest⟩
theorem PrdCs.grown {w w':World} {B p:Nat} {v:Value} {cs:List Value} {ps:List Prd} (h:PrdCs w (fun b=>B≤b∧v.ownBlock ≠ some b) cs ps) (c:w.grownBy w' (some p)) (f:p < B):PrdCs w' (fun b=>B≤b∧v.ownBlock ≠ some b) cs ps :=
 h.keep c.size fun k d a=>⟨c.block k d fun e=>by injection e with e;have:=a.1;omega,a⟩
theorem rd_group (p q:Nat) (ts:List Tk) (ps:List Prd) (rest:List Tk) (w:World) (h:RdAt w p ts) (F:groupP q ts=some (ps,rest)) :
 Calls Tryz.prog 190 #[.pointer (some ⟨p,0,none⟩)] w fun e w'=>∃ A c cs,e = .returned (.slice A ps.length c) ∧
  w'.ownsRow w.heap.size 199 5 (.slice A ps.length c) ps.length cs∧PrdCs w' (fun b=>w.heap.size≤b∧(Value.slice A ps.length c).ownBlock ≠ some b) cs ps∧RdAt w' p rest∧w.grownBy w' (some p):=by
 have hp:=h.lt
 have hl:=h.len
 obtain ⟨a,b,S,rfl,ha,hb,F⟩:∃ a b S,ts=a::b::S∧a.1=1∧b.1=10∧altsP a.2 q S=some (ps,rest):=by
  cases ts with
  | nil=>cases F
  | cons a ts =>
    cases ts with
    | nil=>cases F
    | cons b ts =>
      have F:(if a.1=1∧b.1=10 then altsP a.2 q ts else none)=some (ps,rest):=F
      by_cases an:a.1=1∧b.1=10
      · rw [if_pos an] at F
        exact ⟨a,b,ts,rfl,an.1,an.2,F⟩
      · rw [if_neg an] at F
        cases F
 have cn:=LH (rd_take p 1 1 a (b::S) w h (by simp [isP,ha]))
 have C2:=LH fun (W:World) (J:RdAt W p (b::S))=>rd_take p 10 10 b S W J (by simp [isP,hb])
 have c2:=LH F
 simp only [List.length_cons] at hl
 have b4:(Tryz.prog.info? 199).map (fun i=>(i.zero,i.size,i.bytes))=some (some (.agg #[.string ⟨#[]⟩, .complex .f64 0 0, .slice none 0 0, .string ⟨#[]⟩, .complex .f64 0 0]),5,88):=by kernel_rfl
 have Hi:=LH b4
 have dy:∀ (w:World) (a:Addr) (k:FloatKind) (x y:Nat) (m:Mode),(store a (.complex k x y) m).run Tryz.prog w=stored Tryz.prog w a (.complex k x y) m:=fun w a k x y m=>run_store Tryz.prog w a _ m rfl
 clear h F ha hb b4
 generalize a.2=L at *
 go_enter Tryz.func190,Tryz.ntmps190
 go_wp2_with (go_at_call 189;(with_reducible refine cn.out.mono ?_);rintro e f ⟨⟨x,y,rfl⟩,P,z⟩)
 have ca:=P.below (alloc_below f (.cells #[.string L, .complex .f64 x y] 191))
 have bx:=Blk.new f 191 #[.string L, .complex .f64 x y]
 have dv:p < f.heap.size:=P.lt
 have b1:f.grownBy (f.alloc (.cells #[.string L, .complex .f64 x y] 191)) (some p):=grown_below _ (alloc_below _ _)
 have dx:=z.size
 (with_reducible refine (C2.out _ ca).mono ?_)
 rintro e I ⟨⟨x3,y3,rfl⟩,bc,a8⟩
 have a7:=bx.grown a8 (by intro e;injection e with e;omega)
 have bn:=LH (grown_trans z (grown_trans b1 a8))
 have O:p < I.heap.size:=bc.lt
 have du:=a7.lt
 have c5:=LH bc
 generalize f.heap.size=g at *
 clear P z ca bx b1 a8 bc
 go_wp2_with fail
 go_loopw [3] (fun o wr=>∃ (d c:Nat) (A:Option Addr) (done:List Prd) (r:List Tk) (cs:List Value),o = .slice A d c∧d+r.length≤4000∧Hid (d=done.length)∧Hid (∃ q' bh,altsP L q' r=some (bh,rest)∧done++bh=ps) ∧
  Hid (wr.ownsRow I.heap.size 199 5 (.slice A d c) d cs)∧Hid (PrdCs wr (fun b=>I.heap.size≤b∧(Value.slice A d c).ownBlock ≠ some b) cs done)∧Hid (RdAt wr p r)∧Hid (I.grownBy wr (some p))) (fun _ wr=>remR wr p)
 case atStart=>exact ⟨0,0,none,[],S,[],rfl,by omega,LH rfl,LH ⟨q,ps,c2.out,rfl⟩,LH (World.ownsRow_nil _ _ _ _),LH (PrdCs.nil _ _),c5,LH (grown_refl _ _)⟩
 case round =>
  obtain ⟨d,c,A,done,r,cs,rfl,ds,Hd,Hq,Ho,Hc,Hr,X⟩:=hrel
  obtain ⟨q',bh,b9,ao⟩:=Hq.out
  obtain ⟨pr,dz,u,l,b7,rfl,cd⟩:=altsP_step b9
  have b5:=spanS_len r
  have b8:=precP_ways b7
  have ab:=a7.grown X.out (by intro e;injection e with e;omega)
  have g0:wr.cell? ⟨g,0,none⟩=some (.string L):=by rw [ab.cell];rfl
  have g1:wr.cell? ⟨g,1,none⟩=some (.complex .f64 x y):=by rw [ab.cell];rfl
  have ae:g < wr.heap.size:=ab.lt
  have CR:=LH fun (W:World) (J:RdAt W p r)=>rd_refs p r W J
  have C:=LH fun (k:Int) (ts:List Tk) (W:World) (J:RdAt W p ts)=>rd_is p k k ts W J
  obtain ⟨A0,c0,x0,y0,d4,d7,_,_,_,_,_,_,q3⟩:=Hr.out.parts
  have br:=LH cd
  have cu:=LH ab
  have dr:Hid ((spanS r).1.length=(spanS r).1.length):=LH rfl
  clear b9 cd ab Hq b7
  generalize (spanS r).1=M at *
  generalize (spanS r).2=cg at *
  have c1:=LH b8
  clear b8
  go_upto_region 5 with fail
  go_cut [5] (fun v wx=>∃ j Ar cr,v = .pointer (some ⟨j,0,none⟩)∧MidG wr wx p j Ar cr L x y M ⟨#[]⟩ 0 0 cg)
  case first =>
   have c7:=LH (Hr.out.below (alloc_below wr (.cells #[.string ⟨#[]⟩, .complex .f64 0 0, .slice none 0 0, .string ⟨#[]⟩, .complex .f64 0 0] 199)).drew)
   have a0:=((alloc_below wr (.cells #[.string ⟨#[]⟩, .complex .f64 0 0, .slice none 0 0, .string ⟨#[]⟩, .complex .f64 0 0] 199)).drew.cell (p:=⟨g,0,none⟩) ae).trans g0
   have a1:=((alloc_below wr (.cells #[.string ⟨#[]⟩, .complex .f64 0 0, .slice none 0 0, .string ⟨#[]⟩, .complex .f64 0 0] 199)).drew.cell (p:=⟨g,1,none⟩) ae).trans g1
   have b3:g < (wr.alloc (.cells #[.string ⟨#[]⟩, .complex .f64 0 0, .slice none 0 0, .string ⟨#[]⟩, .complex .f64 0 0] 199)).drew.heap.size:=Nat.lt_of_lt_of_le ae (alloc_below wr _).size
   have b2:g ≠ p:=by omega
   have bz:∀ W f:World,W.grownBy f (some p)→g < W.heap.size→W.cell? ⟨g,0,none⟩=some (.string L)→W.cell? ⟨g,1,none⟩=some (.complex .f64 x y)→f.cell? ⟨g,0,none⟩=some (.string L)∧f.cell? ⟨g,1,none⟩=some (.complex .f64 x y) :=
    fun W f h1 h2 h3 h4=>⟨(grown_frozen h1 h2 b2).trans h3,(grown_frozen h1 h2 b2).trans h4⟩
   go_region_with (first
    | (go_at_call 224;refine (CR.out _ (by exact Hr.out)).mono ?_;rintro e f ⟨Ar,cr,dp,rfl,ba,bd,P,z⟩;obtain ⟨f0,f1⟩:=bz _ _ z ae g0 g1;have dg:g < f.heap.size:=Nat.lt_of_lt_of_le ae z.size)
    | (go_at_call 224;refine (CR.out _ (by exact c7.out)).mono ?_;rintro e f ⟨Ar,cr,dp,rfl,ba,bd,P,z⟩;obtain ⟨f0,f1⟩:=bz _ _ z b3 a0 a1
       have dg:g < f.heap.size:=Nat.lt_of_lt_of_le b3 z.size
       have s:Blk f wr.heap.size 199 #[.string ⟨#[]⟩, .complex .f64 0 0, .slice none 0 0, .string ⟨#[]⟩, .complex .f64 0 0]:=Blk.grown (Blk.drew (Blk.new wr _ _)) z (by intro e;injection e with e;omega)
       have v0:=s.frozen 0
       have v1:=s.frozen 1
       have v2:=s.frozen 2
       have v3:=s.frozen 3
       have v4:=s.frozen 4
       have z0:f.cell? ⟨wr.heap.size,0,none⟩=some (.string ⟨#[]⟩):=s.cell 0
       have z1:f.cell? ⟨wr.heap.size,1,none⟩=some (.complex .f64 0 0):=s.cell 1
       have z2:f.cell? ⟨wr.heap.size,2,none⟩=some (.slice none 0 0):=s.cell 2
       have z3:f.cell? ⟨wr.heap.size,3,none⟩=some (.string ⟨#[]⟩):=s.cell 3
       have z4:f.cell? ⟨wr.heap.size,4,none⟩=some (.complex .f64 0 0):=s.cell 4
       have ct:=LH s
       clear s))
   all_goals
    go_wp2_with fail
    go_meet
    first
     | exact ⟨_,Ar,cr,rfl,MidG.late z ba bd P⟩
     | exact ⟨_,Ar,cr,rfl,MidG.early (by omega) z ba bd P ct.out⟩
  case rest =>
   obtain ⟨j,Ar,cr,rfl,B⟩:=hcut
   have n:=B.blk
   have k0:wc.cell? ⟨j,0,none⟩=some (.string L):=n.cell 0
   have k1:wc.cell? ⟨j,1,none⟩=some (.complex .f64 x y):=n.cell 1
   have k2:wc.cell? ⟨j,2,none⟩=some (.slice Ar M.length cr):=n.cell 2
   have k3:wc.cell? ⟨j,3,none⟩=some (.string ⟨#[]⟩):=n.cell 3
   have k4:wc.cell? ⟨j,4,none⟩=some (.complex .f64 0 0):=n.cell 4
   have T:=LH (C.out 8 cg wc B.rd)
   have H:=LH B
   have ad:I.heap.size≤wc.heap.size:=Nat.le_trans X.out.size B.gr.size
   have ax:=LH fun (a b:Int) (t:Tk) (ts:List Tk) (W:World) (J:RdAt W p (t::ts)) (hk:isP a b (t::ts)=true)=>rd_take p a b t ts W J hk
   have dt:p < j:=Nat.lt_of_lt_of_le (by omega:p < wr.heap.size) B.lo
   clear n B g0 g1 q3 CR a7 cu
   have dj:p < wr.heap.size:=by omega
   rcases c1.out with ⟨h8,rfl,rfl⟩ | ⟨t0,R,rfl,cc,dk,rfl⟩
   case' inl =>
    rw [show isP 8 8 (u::l)=false by simpa [isP,headK] using h8] at T
    simp only [List.length_cons] at b5
    have a2:Hid (l.length < r.length):=LH (by omega)
    go_upto_region 9 with (go_at_call 225;(with_reducible refine T.out.mono ?_);rintro e f ⟨rfl,rfl⟩)
    clear k0 k1 k2 k3 k4
    obtain ⟨G,px,py,aj,He⟩:∃ (G:ByteArray) (px py:Nat),Hid (MidG wr wc p j Ar cr L x y M G px py (u::l))∧Hid (G=⟨#[]⟩):=⟨_,0,0,H,LH rfl⟩
    rw [← He.out] at br
    clear H ad T
    generalize wc=wd at *
   case' inr =>
    rw [show isP 8 8 (t0::R::u::l)=true by simp [isP,cc]] at T
    simp only [List.length_cons] at b5
    have a2:Hid (l.length < r.length):=LH (by omega)
    have CA:=LH (ax.out 8 8 t0 (R::u::l) wc H.out.rd (by simp [isP,cc]))
    have bs:isP 1 2 (R::u::l)=true:=by rw [isP_sym];exact dk
    have cq:=LH bs
    clear bs
    go_upto_region 9 with (first
     | (go_at_call 225;(with_reducible refine T.out.mono ?_);rintro e f ⟨rfl,rfl⟩)
     | (go_at_call 189
        (with_reducible refine CA.out.mono ?_)
        rintro e U ⟨⟨x5,y5,rfl⟩,N,D⟩
        have CB:=LH (ax.out 1 2 R (u::l) U N cq.out)
        have cx:=LH D
        clear N D CA)
     | (go_at_call 189
        (with_reducible refine CB.out.mono ?_)
        rintro e w6 ⟨⟨px,py,rfl⟩,cb,b0⟩
        have bm:=LH (grown_trans cx.out b0)
        have aa:=H.out.blk.grown bm.out (fun e=>by injection e with e;omega)
        have v3:=aa.frozen 3
        have v4:=aa.frozen 4
        have k3:w6.cell? ⟨j,3,none⟩=some (.string ⟨#[]⟩):=aa.cell 3
        have k4:w6.cell? ⟨j,4,none⟩=some (.complex .f64 0 0):=aa.cell 4
        have bj:=LH (H.out.prec (pr:=R.2) (px:=px) (py:=py) dj bm.out cb)
        clear cb b0 aa))
    have aj:=bj
    clear bj H k0 k1 k2 k3 k4 v3 v4 ad T
    generalize (w6.setCell ⟨j,3,none⟩ (.string R.2)).setCell ⟨j,4,none⟩ (.complex .f64 px py)=wd at *
    generalize R.2=G at *
   all_goals
    have B:=aj.out
    have n:=B.blk
    have k0:wd.cell? ⟨j,0,none⟩=some (.string L):=n.cell 0
    have k1:wd.cell? ⟨j,1,none⟩=some (.complex .f64 x y):=n.cell 1
    have k2:wd.cell? ⟨j,2,none⟩=some (.slice Ar M.length cr):=n.cell 2
    have k3:wd.cell? ⟨j,3,none⟩=some (.string G):=n.cell 3
    have k4:wd.cell? ⟨j,4,none⟩=some (.complex .f64 px py):=n.cell 4
    have bp:=LH (own_grown Ho.out B.gr O)
    have ad:I.heap.size≤wd.heap.size:=Nat.le_trans X.out.size B.gr.size
    have c8:Hid (l.length < remR wr p):=LH (by rw [Hr.out.rem];exact a2.out)
    have CT:=LH fun (k:Int) (W:World) (J:RdAt W p (u::l)) (hk:u.1=k)=>ax.out k k u l W J (by simp [isP,hk])
    have di:d+1+l.length≤4000:=by have:=a2.out;omega
    have H:=aj
    clear n B aj
    rcases br.out with ⟨hu,b6⟩ | ⟨hu,rfl,rfl⟩
    · have cy:=LH b6
      have Y:=LH hu
      clear b6 hu
      go_wp2_with (first
       | (go_at_call 225;(with_reducible refine V.out.mono ?_);rintro e U ⟨rfl,rfl⟩)
       | (go_at_call 189;(with_reducible refine C5.out.mono ?_);rintro e U ⟨⟨x5,y5,rfl⟩,N,D⟩)
       | (at_builtin;refine wpl_appendT rfl _ _ 128 rfl I.heap.size 199 _ 5 88 Tryz.underlying128 Hi.out (by decide) (by decide) A d c cs rfl bp.out [.string L, .complex .f64 x y, .slice Ar M.length cr, .string G, .complex .f64 px py] rfl rfl (by simp [Value.oneCell']) (by omega) (by omega) ad ?_;intro A4 c4 w4 ho af Z
          have E:=prd_more O X.out Ho.out Hc.out H.out af Z
          have HP:=LH E.1
          have HG:=LH E.2.1
          have V:=LH (C.out 11 (u::l) w4 E.2.2)
          rw [show isP 11 11 (u::l)=true by simp [isP,Y.out]] at V
          have C5:=LH (CT.out 11 w4 E.2.2 Y.out)
          have a4:=LH ho
          clear E ho af Z))
      have c9:Hid (remR U p < remR wr p):=LH (by rw [N.rem];exact c8.out)
      have cz:=LH (own_grown a4.out D O)
      have cp:=LH (HP.out.grown D O)
      have co:=LH (grown_trans HG.out D)
      have c6:=LH N
      have cv:Hid (d+1=(done++[(⟨L,M,G⟩:Prd)]).length):=LH (by rw [List.length_append,← Hd.out];rfl)
      have c3:Hid (∃ q' ce,altsP L q' l=some (ce,rest)∧(done++[⟨L,M,G⟩])++ce=ps):=LH (by
       obtain ⟨q2,m2,h1,h2⟩:=cy.out
       exact ⟨q2,m2,h1,by rw [← ao,h2];simp⟩)
      clear ao N D
      go_roundw
      case rel=>exact ⟨d+1,c4,A4,_,l,_,rfl,di,cv,c3,cz,cp,c6,co⟩
      case measure=>exact c9.out
    · have Y:=LH hu
      clear hu
      go_wp2_with (first
       | (go_at_call 225;(with_reducible refine V.out.mono ?_);rintro e U ⟨rfl,rfl⟩)
       | (go_at_call 189;(with_reducible refine C5.out.mono ?_);rintro e U ⟨⟨x5,y5,rfl⟩,N,D⟩)
       | (at_builtin;refine wpl_appendT rfl _ _ 128 rfl I.heap.size 199 _ 5 88 Tryz.underlying128 Hi.out (by decide) (by decide) A d c cs rfl bp.out [.string L, .complex .f64 x y, .slice Ar M.length cr, .string G, .complex .f64 px py] rfl rfl (by simp [Value.oneCell']) (by omega) (by omega) ad ?_;intro A4 c4 w4 ho af Z
          have E:=prd_more O X.out Ho.out Hc.out H.out af Z
          have HP:=LH E.1
          have HG:=LH E.2.1
          have V:=LH (C.out 11 (u::rest) w4 E.2.2)
          rw [show isP 11 11 (u::rest)=false by simp [isP,Y.out]] at V
          have C5:=LH (CT.out 12 w4 E.2.2 Y.out)
          have a4:=LH ho
          clear E ho af Z))
      go_ret
      have bb:ps.length=d+1:=by rw [← ao,List.length_append,← Hd.out];rfl
      have bt:w.heap.size≤I.heap.size:=bn.out.size
      refine ⟨A4,c4,cs++[.string L, .complex .f64 x y, .slice Ar M.length cr, .string G, .complex .f64 px py],by rw [bb];rfl,?_,?_,N,grown_trans bn.out (grown_trans HG.out D)⟩
      · rw [bb];exact own_monoS (own_grown a4.out D O) bt
      · rw [bb,← ao]
        exact (HP.out.grown D O).keep (Nat.le_refl _) fun k _ bv=>⟨rfl,Nat.le_trans bt bv.1,bv.2⟩
end Go.Proofs.YtggbjdmpjidhgaaGreatDoor
