/- the reference's reading: a source, of tokens and of a text. -/
import Derived.Test.YtggbjdmpjidhgaaGreatDoorQPs7
import Derived.Deep.RegionLaw
import Derived.Test.YtggbjdmpjidhgaaGreatDoorQCyW2
import Derived.Test.YtggbjdmpjidhgaaGreatDoorQQuiet2
import Derived.Deep.RegionHeld3
set_option linter.unusedVariables false
set_option linter.unusedSimpArgs false
set_option maxHeartbeats 8000000
set_option maxRecDepth 100000
namespace Go.Proofs.YtggbjdmpjidhgaaGreatDoor
open Go.RowKit
theorem step_appendM {P:Program} {ops:Array Oper} {o:Oper} {a:Act} {w:World} {K:Act→World→Prop} {Q:Exit→Act→World→Prop} {E:Prop} (hgd:o.guard=none) (s x:Operand) (t:TypeId)
 (ho:o.op = .call { callee := .builtin .append,args:=#[s,x],argTypes:=#[t,t] })
 (base:Nat) (e:TypeId) (z:Value) (size bytes:Nat) (ht:P.underlying t=some (.slice e))
 (hi:(P.info? e).map (fun i=>(i.zero,i.size,i.bytes))=some (some z,size,bytes)) (hz1:z.cells.size=size) (hsz0:0 < size)
 (A:Option Addr) (n c:Nat) (xs:List Value) (hs:a.eval s = .slice A n c) (hown:w.ownsRow base e size (.slice A n c) n xs)
 (ad:Addr) (m c2:Nat) (news:List Value) (hl:news.length=m * size) (hx:a.eval x = .slice (some ad) m c2) (hcells:∀ j u,news[j]? = some u→w.cell? (ad.add j)=some u) (h1:∀ u ∈ news,u.oneCell'=true)
 (h63:n+m≤9223372036854775807) (hbytes:(n+m) * bytes≤140737488355328) (hbase:base≤w.heap.size)
 (h:∀ A' c' w',w'.ownsRow base e size (.slice A' (n+m) c') (n+m) (xs++news)→w.grownBy w' (Value.slice A n c).ownBlock→(∀ b,(Value.slice A' (n+m) c').ownBlock=some b→b < w.heap.size→(Value.slice A n c).ownBlock=some b) →
   K (a.put o.dst (.slice A' (n+m) c')) w'):if Region.wanted o (yielded ops a.tmps)=true then Oper.wp P o a w K Q else E:=by
 have hw:Region.wanted o (yielded ops a.tmps)=true:=by simp [Region.wanted,hgd]
 rw [if_pos hw]
 obtain ⟨i,hi',hz,hsz,hby⟩:=info_parts hi
 obtain ⟨v',w',hrun,h3,h4,_,h5⟩:=run_append_own_at (P:=P) w base t o.type e i z size bytes ht hi' hz hsz hby hz1 hsz0 _ n xs hown ad m c2 news hl hcells h1 (by simpa [maxLen] using h63) hbytes hbase
 obtain ⟨A',c',rfl⟩:=own_formS h3
 have h5':∀ b,(Value.slice A' (n+m) c').ownBlock=some b→b < w.heap.size→(Value.slice A n c).ownBlock=some b:=by
  intro b hb hlt
  rcases h5 with h5 | h5
  · rw [← h5];exact hb
  · rw [h5] at hb;injection hb with hb;omega
 unfold Oper.wp execOp
 simp only [ho,resolve,invoke,builtin,Sem.run_bind,Sem.run_pure,Result.andThen_ok,List.map_toArray,List.map_cons,List.map_nil,hs,hx,hrun]
 exact h A' c' w' h3 h4 h5'
theorem altsP_pos {L:ByteArray} {q:Nat} {us:List Tk} {more:List Prd} {rest:List Tk} (h:altsP L q us=some (more,rest)):0 < more.length∧more.length+rest.length≤us.length:=by
 induction q generalizing us more rest with
 | zero=>cases h
 | succ q ih =>
   have hl:=spanS_len us
   unfold altsP at h
   split at h
   · cases h
   · rename_i pr us2 hp
     have hlp:us2.length≤(spanS us).2.length:=by
      rcases precP_ways hp with ⟨_,_,e⟩ | ⟨t0,t1,e,_⟩
      · rw [e];exact Nat.le_refl _
      · rw [e];simp only [List.length_cons];omega
     by_cases h2:headK us2=11
     · rw [if_pos h2,Option.map_eq_some_iff] at h
       obtain ⟨⟨m,r⟩,h3,h4⟩:=h
       simp only [Prod.mk.injEq] at h4
       obtain ⟨rfl,rfl⟩:=h4
       have:=ih h3
       rw [List.length_tail] at this
       obtain ⟨u,us3,e,_⟩:=headK_cons h2 (by decide)
       rw [e] at this hlp
       simp only [List.length_cons] at this hlp ⊢
       omega
     · rw [if_neg h2] at h
       by_cases h3:headK us2=12
       · rw [if_pos h3] at h
         simp only [Option.some.injEq,Prod.mk.injEq] at h
         obtain ⟨rfl,rfl⟩:=h
         obtain ⟨u,us3,e,_⟩:=headK_cons h3 (by decide)
         rw [e] at hlp
         rw [e]
         simp only [List.length_cons,List.length_nil,List.tail_cons] at hlp ⊢
         omega
       · rw [if_neg h3] at h
         cases h
theorem groupP_pos {q:Nat} {us:List Tk} {more:List Prd} {rest:List Tk} (h:groupP q us=some (more,rest)):0 < more.length∧more.length+rest.length < us.length:=by
 match us,h with
 | a::b::ts,h =>
   have h:(if a.1=1∧b.1=10 then altsP a.2 q ts else none)=some (more,rest):=h
   split at h
   · have:=altsP_pos h
     simp only [List.length_cons]
     omega
   · cases h
theorem groupsP_step {q:Nat} {us:List Tk} {more:List Prd} (h:groupsP q us=some more) :
 (us=[]∧more=[])∨(∃ u us',us=u::us'∧u.1 ≠ 9∧∃ q' ps rest m2,groupP q' us=some (ps,rest)∧groupsP q' rest=some m2∧more=ps++m2):=by
 cases q with
 | zero=>cases h
 | succ q =>
   cases us with
   | nil =>
     injection h with h
     exact .inl ⟨rfl,h.symm⟩
   | cons u us =>
     refine .inr ⟨u,us,rfl,?_⟩
     have h:(if u.1=9 then none else match groupP q (u::us) with | none=>none | some (ps,rest)=>(groupsP q rest).map (ps++·))=some more:=h
     by_cases h9:u.1=9
     · rw [if_pos h9] at h;cases h
     · rw [if_neg h9] at h
       refine ⟨h9,?_⟩
       split at h
       · cases h
       · rename_i ps rest hg
         rw [Option.map_eq_some_iff] at h
         obtain ⟨m2,h1,h2⟩:=h
         exact ⟨q,ps,rest,m2,hg,h1,h2.symm⟩
theorem own_cells {w:World} {base e size n c:Nat} {A:Option Addr} {xs:List Value} (h:w.ownsRow base e size (.slice A n c) n xs) (hn:0 < n):∃ g,A=some ⟨g,0,none⟩∧base≤g∧g < w.heap.size∧∀ j u,xs[j]? = some u→w.cell? ((⟨g,0,none⟩:Addr).add j)=some u:=by
 rcases h.2 with ⟨hv,rfl⟩ | ⟨g,cap,cur,hv,hb,hg,hnc,hcm,hcs,htake⟩
 · omega
 · injection hv with h1 h2 h3
   subst h1
   have hlt:=h.lt g rfl
   exact ⟨g,rfl,hb,hlt.2,h.cells rfl⟩
theorem prdCs_one {w:World} {av:Nat→Prop} {cs:List Value} {ps:List Prd} (h:PrdCs w av cs ps):∀ u ∈ cs,u.oneCell'=true:=by
 intro u hu
 obtain ⟨i,hi⟩:=List.getElem?_of_mem hu
 have hlt:i < cs.length:=(List.getElem?_eq_some_iff.1 hi).1
 rw [h.1] at hlt
 have hj:i / 5 < ps.length:=by omega
 obtain ⟨Ar,cr,x,y,x',y',h0,h1,h2,h3,h4,_⟩:=h.2 (i / 5) (ps[i / 5]) (List.getElem?_eq_getElem hj)
 have hm:i % 5=0∨i % 5=1∨i % 5=2∨i % 5=3∨i % 5=4:=by omega
 rcases hm with hm | hm | hm | hm | hm
 · rw [show i / 5 * 5+0=i by omega,hi] at h0;injection h0 with h0;subst h0;rfl
 · rw [show i / 5 * 5+1=i by omega,hi] at h1;injection h1 with h1;subst h1;rfl
 · rw [show i / 5 * 5+2=i by omega,hi] at h2;injection h2 with h2;subst h2;rfl
 · rw [show i / 5 * 5+3=i by omega,hi] at h3;injection h3 with h3;subst h3;rfl
 · rw [show i / 5 * 5+4=i by omega,hi] at h4;injection h4 with h4;subst h4;rfl
section
variable {P:Program} {w:World}
end
theorem enters_reach1:∀ args w,(callFunc 169 args).run Tryz.prog w = .ok (.enter 169 args) w:=fun args w=>by kernel_rfl
theorem Tryz.infoI64C:(Tryz.prog.info? 3).map (fun i=>(i.zero,i.size,i.bytes))=some (some (.int .i64 0),1,8):=by kernel_rfl
theorem tr_reach1 (r:Rul) (Ar:Option Addr) (cr g gp bp n:Nat) (N P:List Bool) (w:World) (hr:Ints .i64 w Ar r.right.length cr r.right) (hN:BoolT w g N) (hP:BoolT w gp P) (hp:w.cell? ⟨bp,0,none⟩=some (.slice (some ⟨gp,0,none⟩) n n)) (hn:N.length=n) (hpn:P.length=n) (hn2:n≤1000)
 (hl:0≤r.left∧r.left < (n:Int)) (hs:∀ s ∈ r.right,-(n:Int)≤s∧s≤1000) (hlen:r.right.length≤1000) :
 Calls Tryz.prog 169 #[.agg #[.int .i64 r.left, .slice Ar r.right.length cr, .int .i64 r.prec], .slice (some ⟨g,0,none⟩) n n, .pointer (some ⟨bp,0,none⟩)] w fun e w'=>Below w.heap.size w w'∧∃ A m c,e = .returned (.slice A m c)∧Ints .i64 w' A m c (reachI P r N)∧Apart A g:=by
 have hgl:g < w.heap.size:=hN.lt
 have hbl:bp < w.heap.size:=World.block_lt_of_cell? w ⟨bp,0,none⟩ hp
 have hB0:=alloc_below w (.cells #[.int .i64 r.left, .slice Ar r.right.length cr, .int .i64 r.prec] 52)
 have hbox:=RBox.new w 52 r.left Ar r.right.length cr r.prec
 have hsp:=all_off P r.right
 obtain ⟨jl,hjl⟩:∃ jl:Nat,r.left=(jl:Int):=⟨r.left.toNat,by omega⟩
 have hjl2:jl < n:=by omega
 have hat:(w.alloc (.cells #[.int .i64 r.left, .slice Ar r.right.length cr, .int .i64 r.prec] 52)).cell? ⟨g,jl,none⟩=some (.bool (N.getD jl false)):=BoolT.at (Blk.ext hN hB0) (by rw [hn];exact hjl2)
 have hp0:(w.alloc (.cells #[.int .i64 r.left, .slice Ar r.right.length cr, .int .i64 r.prec] 52)).cell? ⟨bp,0,none⟩=some (.slice (some ⟨gp,0,none⟩) n n):=(hB0.cell (p:=⟨bp,0,none⟩) hbl).trans hp
 have cW:=fun w' (hb:Below w.heap.size w w')=>tr_within r.left Ar cr gp n r.right r.prec P w' (hr.below hb) (Blk.ext hP hb) hpn hn2 hs
 have hri:reachI P r N=if N.getD jl false && allP true P r.right then nonsI r.right else []:=by unfold reachI goesP;rw [show r.left.toNat=jl by omega]
 rw [hsp] at cW
 have Hri:=LH hri
 have Hr:=LH hr
 have CW:=LH cW
 have Hs:=LH hs
 rw [hjl] at hat hp0 hB0 hbox CW
 clear hri cW hsp hr hs hN hP hp hl
 rw [hjl]
 go_enter Tryz.func169,Tryz.ntmps169
 have ⟨z5,z0,z1,z2⟩:=hbox
 go_upto_region 1 with fail
 generalize w.alloc (.cells #[.int .i64 (jl:Int), .slice Ar r.right.length cr, .int .i64 r.prec] 52)=W0 at *
 have HB0:=LH hB0
 have cW:=(CW.out W0 hB0).mono fun e w' hh=>And.intro hh.1 (And.intro (bcell hh.2).1 (LH (below_tail HB0.out hh.2)))
 have CW0:=LH cW
 have hcapr:=Hr.out.cap
 clear cW CW hB0 hbox
 generalize N.getD jl false=tl at *
 generalize allP true P r.right=ta at *
 rcases (by cases tl <;> cases ta <;> simp:tl=false∨(tl=true∧ta=false)∨(tl=true∧ta=true)) with rfl | ⟨rfl,rfl⟩ | ⟨rfl,rfl⟩
 · go_wp2_with fail
   go_ret
   exact ⟨HB0.out,none,0,0,rfl,by rw [Hri.out];exact Ints.nil _ _ _ _ (by omega),fun b o h=>by cases h⟩
 · go_wp2_with (go_at_call 108;(with_reducible refine CW0.out.mono ?_);rintro e w2 ⟨rfl,hc2,Hb2⟩)
   go_ret
   exact ⟨Hb2.out,none,0,0,rfl,by rw [Hri.out];exact Ints.nil _ _ _ _ (by omega),fun b o h=>by cases h⟩
 · go_wp2_with (go_at_call 108;(with_reducible refine CW0.out.mono ?_);rintro e w2 ⟨rfl,hc2,Hb2⟩;have x1:=(hc2 _ 1 z5).trans z1)
   have HiA:=LH Tryz.infoI64C
   clear hc2 x1 z0 z1 z2 z5 hat hp0
   go_loopw [5,23] (fun v i wr=>∃ (k m c:Nat) (A:Option Addr),v = .slice A m c∧i = .int .i64 (k:Int)∧k≤r.right.length∧m≤k∧Hid (m=(nonsI (r.right.take k)).length)∧Hid (wr.ownsRow w.heap.size 3 1 (.slice A m c) m (ints .i64 (nonsI (r.right.take k))))∧Hid (Below w.heap.size w wr)) (fun _ i _=>r.right.length - (intOf i).toNat)
   case atStart=>exact ⟨0,0,0,none,rfl,rfl,Nat.zero_le _,Nat.le_refl _,LH rfl,LH (World.ownsRow_nil _ _ _ _),Hb2⟩
   case round =>
    obtain ⟨k,m,c,A,rfl,rfl,hk,hm,Hm,Ho,HB⟩:=hrel
    have hbase:w.heap.size≤wr.heap.size:=HB.out.size
    by_cases hkl:k < r.right.length
    · obtain ⟨sb,so,s,rfl,hsb,Hss,qs⟩:=(Hr.out.below HB.out).get hkl
      have hs1:=Hs.out s (List.mem_of_getElem? Hss.out)
      have hnt:=nonsI_take Hss.out
      by_cases h0:s < 0
      · have hws:IntKind.i64.wrap (-1 - s)=-1 - s:=IntWalk.i64_in _ (by omega)
        rw [if_pos h0] at hnt
        have Hnt:=LH hnt
        clear hnt
        go_wp2_with (first
         | (at_builtin;refine wpl_appendT rfl _ _ 27 rfl w.heap.size 3 _ 1 8 Tryz.underlying27 HiA.out (by decide) (by decide) A m c (ints .i64 (nonsI (r.right.take k))) rfl Ho.out [.int .i64 (-1 - s)] rfl rfl (by simp [Value.oneCell']) (by omega) (by omega) (by omega) ?_;intro A4 c4 w4 ho hgr ha
            have Ho4:=LH ho
            have HB4:=LH (below_append HB.out hgr Ho.out hbase)
            clear ho hgr ha))
        go_roundw
        case rel=>exact ⟨k+1,m+1,c4,A4,rfl,by go_num,by omega,by omega,LH (by rw [Hnt.out,Hm.out];simp),LH (by rw [Hnt.out,ints_append];exact Ho4.out),HB4⟩
        case measure=>simp [intOf];omega
      · rw [if_neg h0] at hnt
        have Hnt:=LH hnt
        clear hnt
        go_wp2_with fail
        go_roundw
        case rel=>exact ⟨k+1,m,c,A,rfl,by go_num,by omega,by omega,LH (by rw [Hnt.out];exact Hm.out),LH (by rw [Hnt.out];exact Ho.out),HB⟩
        case measure=>simp [intOf];omega
    · have Hf:Hid (Ints .i64 wr A m c (reachI P r N)):=LH (by
       have:=own_sl Ho.out
       rw [List.take_of_length_le (by omega)] at this
       rw [Hri.out]
       exact this)
      go_wp2_with fail
      go_ret
      refine ⟨HB.out,A,m,c,rfl,Hf.out,fun b o h=>?_⟩
      have:=Ho.out.lt b (by rw [h];rfl)
      omega
theorem tr_Reachable (h:GH) (G:Gr) (w:World) (hg:GrAt w h G) (hs:∀ t ∈ G.terms,t.name.size≤maxLen) (h1:h.n1≤100) (h2:h.n2≤100) (h3:h.n3≤100) :
 Calls Tryz.prog 106 #[GV h G.start] w fun e w'=>Below w.heap.size w w' ∧
  ((G.right=false∧e = .returned (.slice none 0 0))∨(G.right=true∧∃ g,w.heap.size≤g∧e = .returned (.slice (some ⟨g,0,none⟩) h.n2 h.n2)∧BoolT w' g (reachN G))):=by
 obtain ⟨a1,n1,c1,a2,n2,c2,a3,n3,c3⟩:=h
 have e2:G.nons.length=n2:=hg.nons.len
 have k2:=hg.nons.cap
 simp only [] at h1 h2 h3 k2
 have hB0:=alloc_below w (.cells #[.slice a1 n1 c1, .slice a2 n2 c2, .slice a3 n3 c3, .int .i64 G.start] 26)
 have hbox:=GBox.new w 26 ⟨a1,n1,c1,a2,n2,c2,a3,n3,c3⟩ G.start
 have hmk:=make_bools n2 (by omega)
 have Hg:=LH hg
 have Hs:=LH hs
 clear hg hs
 go_enter Tryz.func106,Tryz.ntmps106
 have ⟨z5,z0,z1,z2,z3⟩:=hbox
 simp only [] at z0 z1 z2 z3
 go_wp2_with fail
 generalize w.alloc (.cells #[.slice a1 n1 c1, .slice a2 n2 c2, .slice a3 n3 c3, .int .i64 G.start] 26)=W0 at *
 (with_reducible refine (cf_Right ⟨a1,n1,c1,a2,n2,c2,a3,n3,c3⟩ G W0 (Hg.out.below hB0) Hs.out (by simp only [];omega) (by simp only [];omega)).mono ?_)
 rintro e W1 ⟨rfl,hb1⟩
 have hB1:=below_tail hB0 hb1
 have hbx1:=hbox.below hb1
 clear z0 z1 z2 z3 z5 hbox
 have ⟨y5,y0,y1,y2,y3⟩:=hbx1
 simp only [] at y0 y1 y2 y3
 rcases hrt:G.right with _ | _
 · go_wp2_with fail
   go_ret
   exact ⟨hB1, .inl ⟨hrt,rfl⟩⟩
 have hfit:=Gr.fits hrt
 have hst:=hfit.st
 have Hrt:=LH hrt
 have Hfit:=LH hfit
 obtain ⟨js,hjs⟩:∃ js:Nat,G.start=(js:Int):=⟨G.start.toNat,by omega⟩
 have hjs2:js < n2:=by omega
 have HJs:=LH hjs
 clear hjs
 have cP:=(tr_Productive ⟨a1,n1,c1,a2,n2,c2,a3,n3,c3⟩ G W1 (Hg.out.below hB1) Hs.out (by simp only [];omega) (by simp only [];omega) (by simp only [];omega)).mono fun e w' hh=>And.intro hh.1 (hh.2.resolve_left fun hc=>by rw [Hrt.out] at hc;cases hc.1).2
 have CP:=LH cP
 clear hrt hfit cP
 go_wp2_with fail
 (with_reducible refine CP.out.mono ?_)
 rintro e W2 ⟨hb2,gp,hgp,rfl,hP⟩
 have hB2:=below_tail hB1 hb2
 have hbx2:=hbx1.below hb2
 have hgp2:gp < W2.heap.size:=hP.lt
 have hbA:=alloc_below W2 (.cells #[.slice (some ⟨gp,0,none⟩) n2 n2] 97)
 have hFb:=Blk.new W2 97 #[.slice (some ⟨gp,0,none⟩) n2 n2]
 have hPA:BoolT (W2.alloc (.cells #[.slice (some ⟨gp,0,none⟩) n2 n2] 97)) gp (prodN G):=Blk.ext hP hbA
 have hbxA:=hbx2.below hbA
 have hszA:=alloc_size W2 (.cells #[.slice (some ⟨gp,0,none⟩) n2 n2] 97)
 clear y0 y1 y2 y3 y5 hbx1
 go_upto_region 4 with fail
 generalize W2.alloc (.cells #[.slice (some ⟨gp,0,none⟩) n2 n2] 97)=WA at *
 generalize hgF:W2.heap.size=gF at *
 have hT0:=BoolT.new WA (List.replicate n2 false)
 have hB20:=alloc_below WA (.cells (bools (List.replicate n2 false)).toArray 4)
 have hF3:=hFb.ext hB20
 have hP3:BoolT (WA.alloc (.cells (bools (List.replicate n2 false)).toArray 4)) gp (prodN G):=Blk.ext hPA hB20
 have hbx3:=hbxA.below hB20
 have ⟨y5,y0,y1,y2,y3⟩:=hbxA
 simp only [] at y0 y1 y2 y3
 have hb23:=hbA.trans (hB20.mono (by omega))
 go_upto_region 5 with fail
 generalize WA.alloc (.cells (bools (List.replicate n2 false)).toArray 4)=W3 at *
 generalize hgI:WA.heap.size=gI at *
 obtain rfl:gI=gF+1:=hszA
 clear y0 y1 y2 y3 y5
 have ⟨y5,y0,y1,y2,y3⟩:=hbx3
 simp only [] at y0 y1 y2 y3
 rw [HJs.out] at y3
 have hfz:=Blk.frozen hT0 js
 have hat:=hT0.at (i:=js) (by simpa using hjs2)
 have hput:=hT0.put js true
 have hstart:startN G=(List.replicate n2 false).set js true:=by unfold startN;rw [e2,HJs.out];rfl
 rw [← hstart] at hput
 have hsl:(startN G).length=n2:=by unfold startN;simp [e2]
 have hF4:=hF3.other (gF+1) js (.bool true) (by omega)
 have hP4:BoolT (W3.setCell ⟨(gF+1),js,none⟩ (.bool true)) gp (prodN G):=Blk.other hP3 (gF+1) js (.bool true) (by omega)
 have hb24:=hb23.trans (grown_is_below (grown_set W3 (gF+1) js (.bool true)) (by have:=hb23.size;omega) (by omega))
 have hbx4:GBox (W3.setCell ⟨(gF+1),js,none⟩ (.bool true)) w.heap.size ⟨a1,n1,c1,a2,n2,c2,a3,n3,c3⟩ G.start:=hbx2.below (by rw [hgF];exact hb24)
 have Hput:=LH hput
 have HF4:=LH hF4
 have HP4:=LH hP4
 have Hb24:=LH hb24
 have Hbx4:=LH hbx4
 have HB2:=LH hB2
 have hgIF:(gF+1) ≠ gF:=by omega
 have hgIp:(gF+1) ≠ gp:=by omega
 clear hput hbx3 hF3 hP3 hbxA hT0 hB20 hFb hPA hbA hb23 hmk hF4 hP4 hb24 hbx4 hB2 hbx2 hstart hP
 go_upto_region 6 with fail
 generalize W3.setCell ⟨(gF+1),js,none⟩ (.bool true)=W4 at *
 clear y0 y1 y2 y3 y5 hfz hat
 have ⟨y5,y0,y1,y2,y3⟩:=Hbx4.out
 simp only [] at y0 y1 y2 y3
 have hq:=tr_grow ⟨a1,n1,c1,a2,n2,c2,a3,n3,c3⟩ G 169 #[.pointer (some ⟨gF,0,none⟩)] enters_reach1 (reachI (prodN G)) (gF+1) n2 (startN G) W2 W4 (Hg.out.below HB2.out) (by rw [hgF];exact Hb24.out) (by omega) (by omega) Hput.out hsl (by simp only [];omega)
  (fun r hr N hN s hsm=>by
    unfold reachI at hsm
    split at hsm
    · unfold nonsI at hsm
      obtain ⟨x,hx,rfl⟩:=List.mem_map.1 hsm
      rw [List.mem_filter] at hx
      have h1:=Hfit.out.sym r hr x hx.1
      have h2:x < 0:=by simpa using hx.2
      rw [e2] at h1
      omega
    · cases hsm)
  (fun r hr Ar cr N w' hgr hrr hN hl=>tr_reach1 r Ar cr (gF+1) gp gF n2 N (prodN G) w' hrr hN (Blk.grown HP4.out hgr (by intro e;injection e with e;exact hgIp e.symm)) ((HF4.out.grown hgr (by intro e;injection e with e;exact hgIF e.symm)).cell 0) hl (by rw [prodN_len];exact e2) (by omega) (by have:=Hfit.out.left r hr;rw [e2] at this;exact this) (by have:=Hfit.out.symB hr;rwa [e2] at this) (by have:=Hfit.out.len r hr;omega))
 have HQ:=LH hq
 clear hq
 go_wp2_with fail
 (with_reducible refine HQ.out.mono ?_)
 rintro e W5 ⟨rfl,hgr,hT⟩
 have hfin:reachN G=iter (passI (reachI (prodN G)) G.rules) n2 (startN G):=by unfold reachN;rw [e2]
 rw [← hfin] at hT
 have HT:=LH hT
 have HB5:=LH ((HB2.out.trans (Hb24.out.mono (by rw [← hgF];exact HB2.out.size))).trans (grown_is_below hgr (HB2.out.trans (Hb24.out.mono (by rw [← hgF];exact HB2.out.size))).size (by have:=HB2.out.size;omega)))
 have hgw:w.heap.size≤(gF+1):=by have:=HB2.out.size;omega
 clear hT hfin hgr y0 y1 y2 y3 y5
 go_wp2_with fail
 go_ret
 exact ⟨HB5.out, .inr ⟨Hrt.out,(gF+1),hgw,rfl,HT.out⟩⟩
theorem rf_made (Ar:Option Addr) (nr cr g n:Nat) (ss:List Int) (N:List Bool) (w:World) (hr:Ints .i64 w Ar nr cr ss) (hN:BoolT w g N) (hn:N.length=n) (hn2:n≤1000) (hs:∀ s ∈ ss,-(n:Int)≤s∧s≤1000) :
 Calls Tryz.prog 115 #[.slice Ar nr cr, .slice (some ⟨g,0,none⟩) n n] w fun e w'=>e = .returned (.bool (allP true N ss))∧w=w':=by
 obtain rfl:=hr.len
 have hcap:=hr.cap
 have Hs:=LH hs
 have HN:=LH hN
 have Hf:Hid (allP true N ss=ss.all fun s=>if 0≤s then true else N.getD (nonI s) false):=LH rfl
 clear hs hN
 go_enter Tryz.func115,Tryz.ntmps115
 go_wp2_with fail
 go_loop [5] (fun i=>∃ (k:Nat),k≤ss.length∧i = .int .i64 (k:Int)∧Hid (∀ j,j < k→∀ y,ss[j]? = some y→(!(if 0≤y then true else N.getD (nonI y) false))=false)) (fun i=>ss.length - (intOf i).toNat)
 case atStart=>exact ⟨0,Nat.zero_le _,rfl,LH fun j hj=>by omega⟩
 case round =>
  obtain ⟨k,hk,rfl,Hk⟩:=hrel
  by_cases hkk:k < ss.length
  · obtain ⟨bb,off,s,rfl,hb,Hsv,q0⟩:=hr.get hkk
    obtain ⟨s1,s2⟩:=Hs.out s (List.mem_of_getElem? Hsv.out)
    by_cases h0:0≤s
    · have hgood:(!(if 0≤s then true else N.getD (nonI s) false))=false:=by rw [if_pos h0];rfl
      have Hgood:=LH hgood
      clear hgood
      go_wp2_with fail
      go_roundw
      case rel=>exact ⟨k+1,by omega,by go_num,LH (next_none Hk.out Hsv.out Hgood.out)⟩
      case measure=>simp [intOf];omega
    · obtain ⟨j,hj,hnj,hw⟩:=non_place (s:=s) (n:=n) (by omega) s1 hn2
      have c0:=HN.out.at (i:=j) (by omega)
      have hbad:N.getD j false=false→allP true N ss=false:=fun hb=>by rw [Hf.out];exact all_false Hsv.out (by rw [if_neg h0,hnj];exact hb)
      have hgood:N.getD j false=true→(!(if 0≤s then true else N.getD (nonI s) false))=false:=fun hb=>by rw [if_neg h0,hnj,hb];rfl
      generalize N.getD j false=x at *
      have Hbad:=LH hbad
      have Hgood:=LH hgood
      clear hbad hgood
      rcases (by cases x <;> simp:x=false∨x=true) with rfl | rfl
      · go_wp2_with fail
        go_ret
        exact ⟨by rw [Hbad.out (by trivial)];rfl,rfl⟩
      · go_wp2_with fail
        go_roundw
        case rel=>exact ⟨k+1,by omega,by go_num,LH (next_none Hk.out Hsv.out (Hgood.out (by trivial)))⟩
        case measure=>simp [intOf];omega
  · obtain rfl:k=ss.length:=by omega
    have hall:allP true N ss=true:=by
     rw [Hf.out]
     exact all_true fun j y hy=>by
      have:=Hk.out j (List.getElem?_eq_some_iff.1 hy).1 y hy
      rw [Bool.not_eq_eq_eq_not] at this
      exact this
    have Hall:=LH hall
    clear hall
    go_wp2_with fail
    go_ret
    exact ⟨by rw [Hall.out];rfl,rfl⟩
theorem alone_true {N:List Bool} {ss:List Int} {k:Nat} (h:∀ p s,ss[p]? = some s→p ≠ k→nulB N s=true):aloneP N ss k=true:=by
 unfold aloneP
 rw [Bool.and_eq_true,List.all_eq_true,List.all_eq_true]
 constructor
 · intro s hs
   obtain ⟨p,hp⟩:=List.getElem?_of_mem hs
   rw [List.getElem?_take] at hp
   split at hp
   · exact h p s hp (by omega)
   · cases hp
 · intro s hs
   obtain ⟨p,hp⟩:=List.getElem?_of_mem hs
   rw [List.getElem?_drop] at hp
   exact h _ s hp (by omega)
theorem alone_false {N:List Bool} {ss:List Int} {k p:Nat} {s:Int} (hp:ss[p]? = some s) (hne:p ≠ k) (h:nulB N s=false):aloneP N ss k=false:=by
 unfold aloneP
 rw [Bool.and_eq_false_iff]
 rcases Nat.lt_or_ge p k with hlt | hge
 · left
   rw [List.all_eq_false]
   refine ⟨s,?_,by rw [h];simp⟩
   exact List.mem_of_getElem? (i:=p) (by rw [List.getElem?_take,if_pos hlt];exact hp)
 · right
   rw [List.all_eq_false]
   refine ⟨s,?_,by rw [h];simp⟩
   exact List.mem_of_getElem? (i:=p - (k+1)) (by rw [List.getElem?_drop,show k+1+(p - (k+1))=p by omega];exact hp)
theorem rf_alone (Ar:Option Addr) (nr cr g n q:Nat) (ss:List Int) (N:List Bool) (w:World) (hr:Ints .i64 w Ar nr cr ss) (hN:BoolT w g N) (hn:N.length=n) (hn2:n≤1000) (hs:∀ s ∈ ss,-(n:Int)≤s∧s≤1000) (hq:q≤1000) (hnr:nr≤1000) :
 Calls Tryz.prog 114 #[.slice Ar nr cr, .int .i64 (q:Int), .slice (some ⟨g,0,none⟩) n n] w fun e w'=>e = .returned (.bool (aloneP N ss q))∧w=w':=by
 obtain rfl:=hr.len
 have hcap:=hr.cap
 have Hs:=LH hs
 have HN:=LH hN
 clear hs hN
 go_enter Tryz.func114,Tryz.ntmps114
 go_wp2_with fail
 go_loop [7] (fun i=>∃ (k:Nat),k≤ss.length∧i = .int .i64 (k:Int)∧Hid (∀ p,p < k→∀ s,ss[p]? = some s→p ≠ q→nulB N s=true)) (fun i=>ss.length - (intOf i).toNat)
 case atStart=>exact ⟨0,Nat.zero_le _,rfl,LH fun j hj=>by omega⟩
 case round =>
  obtain ⟨k,hk,rfl,Hk⟩:=hrel
  by_cases hkk:k < ss.length
  · obtain ⟨bb,off,s,rfl,hb,Hsv,q0⟩:=hr.get hkk
    obtain ⟨s1,s2⟩:=Hs.out s (List.mem_of_getElem? Hsv.out)
    by_cases hkq:k=q
    · have hnx:∀ p,p < k+1→∀ s,ss[p]? = some s→p ≠ q→nulB N s=true:=fun p hp s hs hne=>Hk.out p (by omega) s hs hne
      have Hnx:=LH hnx
      have hne:((k:Int) != (q:Int))=false:=by rw [bne_eq_false_iff_eq];omega
      clear hnx hkq
      go_wp2_with fail
      go_roundw
      case rel=>exact ⟨k+1,by omega,by go_num,Hnx⟩
      case measure=>simp [intOf];omega
    · have hne:((k:Int) != (q:Int))=true:=by rw [bne_iff_ne];omega
      have hgood:nulB N s=true→∀ p,p < k+1→∀ s,ss[p]? = some s→p ≠ q→nulB N s=true:=fun hn p hp y hy hne=>by
       rcases Nat.lt_or_ge p k with h | h
       · exact Hk.out p h y hy hne
       · obtain rfl:p=k:=by omega
         have:=Hsv.out.symm.trans hy
         injection this with this
         rw [← this];exact hn
      have hbad:nulB N s=false→aloneP N ss q=false:=fun hn=>alone_false Hsv.out hkq hn
      have Hbad:=LH hbad
      have Hgood:=LH hgood
      clear hbad hgood hkq
      by_cases h0:0≤s
      · have hn0:Hid (nulB N s=false):=LH (by unfold nulB;rw [show decide (s < 0)=false by rw [decide_eq_false_iff_not];omega];rfl)
        go_wp2_with fail
        go_ret
        exact ⟨by rw [Hbad.out hn0.out];rfl,rfl⟩
      · obtain ⟨j,hj,hnj,hw⟩:=non_place (s:=s) (n:=n) (by omega) s1 hn2
        have c0:=HN.out.at (i:=j) (by omega)
        have hnu:nulB N s=N.getD j false:=by unfold nulB;rw [show decide (s < 0)=true by rw [decide_eq_true_iff];omega,hnj];rfl
        have Hnu:=LH hnu
        clear hnu
        generalize N.getD j false=x at *
        rcases (by cases x <;> simp:x=false∨x=true) with rfl | rfl
        · go_wp2_with fail
          go_ret
          exact ⟨by rw [Hbad.out Hnu.out];rfl,rfl⟩
        · go_wp2_with fail
          go_roundw
          case rel=>exact ⟨k+1,by omega,by go_num,LH (Hgood.out Hnu.out)⟩
          case measure=>simp [intOf];omega
  · obtain rfl:k=ss.length:=by omega
    have hall:aloneP N ss q=true:=alone_true fun p s hp hne=>Hk.out p (List.getElem?_eq_some_iff.1 hp).1 s hp hne
    have Hall:=LH hall
    clear hall
    go_wp2_with fail
    go_ret
    exact ⟨by rw [Hall.out];rfl,rfl⟩
theorem Blk.hidden {w w':World} {g:Nat} {t:TypeId} {cs:Array Value} (h:Blk w g t cs) (hb:Hid (Below w.heap.size w w')):Blk w' g t cs:=h.ext hb.out
theorem rf_Steps (h:GH) (G:Gr) (w:World) (hg:GrAt w h G) (h1:h.n1≤100) (h2:h.n2≤100) (h3:h.n3≤100) :
 Calls Tryz.prog 61 #[GV h G.start] w fun e w'=>Below w.heap.size w w' ∧
  ((G.right=false∧e = .returned (.slice none 0 0))∨(G.right=true∧∃ g,w.heap.size≤g∧e = .returned (.slice (some ⟨g,0,none⟩) h.n2 h.n2)∧SetT w' g (stepsN G))):=by
 obtain ⟨a1,n1,c1,a2,n2,c2,a3,n3,c3⟩:=h
 have e2:G.nons.length=n2:=hg.nons.len
 have e3:G.rules.length=n3:=hg.rules.len
 have k3:=hg.rules.cap
 have k2:=hg.nons.cap
 simp only [] at h1 h2 h3 k3 k2
 have Hg:=LH hg
 have hB0:=alloc_below w (.cells #[.slice a1 n1 c1, .slice a2 n2 c2, .slice a3 n3 c3, .int .i64 G.start] 26)
 have hbox:=GBox.new w 26 ⟨a1,n1,c1,a2,n2,c2,a3,n3,c3⟩ G.start
 have hmk:=make_sets n2 (by omega)
 clear hg
 go_enter Tryz.func61,Tryz.ntmps61
 have ⟨z5,z0,z1,z2,z3⟩:=hbox
 simp only [] at z0 z1 z2 z3
 go_wp2_with fail
 generalize w.alloc (.cells #[.slice a1 n1 c1, .slice a2 n2 c2, .slice a3 n3 c3, .int .i64 G.start] 26)=W0 at *
 (with_reducible refine (rf_right9 ⟨a1,n1,c1,a2,n2,c2,a3,n3,c3⟩ G W0 (Hg.out.below hB0) (by simp only [];omega) (by simp only [];omega) (by simp only [];omega)).mono ?_)
 rintro e W1 ⟨rfl,hb1⟩
 have hB1:=below_tail hB0 hb1
 have hbx1:=hbox.below hb1
 clear z0 z1 z2 z3 z5 hbox
 have ⟨y5,y0,y1,y2,y3⟩:=hbx1
 simp only [] at y0 y1 y2 y3
 rcases hrt:G.right with _ | _
 · go_wp2_with fail
   go_ret
   exact ⟨hB1, .inl ⟨hrt,rfl⟩⟩
 have hfit:=Gr.fits hrt
 have Hrt:=LH hrt
 have Hfit:=LH hfit
 have CN:=LH fun X (hb:Below W1.heap.size W1 X)=>(rf_Nullable ⟨a1,n1,c1,a2,n2,c2,a3,n3,c3⟩ G X ((Hg.out.below hB1).below hb) (by simp only [];omega) (by simp only [];omega) (by simp only [];omega)).mono fun e w' hh=>And.intro (below_tail hb hh.1) (And.intro (LH hh.1) (hh.2.resolve_left fun hc=>by rw [Hrt.out] at hc;cases hc.1).2)
 have CP:=LH fun X (hb:Below W1.heap.size W1 X)=>(rf_Productive ⟨a1,n1,c1,a2,n2,c2,a3,n3,c3⟩ G X ((Hg.out.below hB1).below hb) (by simp only [];omega) (by simp only [];omega) (by simp only [];omega)).mono fun e w' hh=>And.intro (below_tail hb hh.1) (And.intro (LH hh.1) (hh.2.resolve_left fun hc=>by rw [Hrt.out] at hc;cases hc.1).2)
 have HS:Hid (∀ W',Below W1.heap.size W1 W'→W'.cell? ⟨w.heap.size,0,none⟩=some (.slice a1 n1 c1)∧W'.cell? ⟨w.heap.size,1,none⟩=some (.slice a2 n2 c2)∧W'.cell? ⟨w.heap.size,2,none⟩=some (.slice a3 n3 c3)∧W'.cell? ⟨w.heap.size,3,none⟩=some (.int .i64 G.start)∧Below W1.heap.size W1 W'):=LH fun W' hb=>⟨by rw [hb.cell (by exact y5)];exact y0,by rw [hb.cell (by exact y5)];exact y1,by rw [hb.cell (by exact y5)];exact y2,by rw [hb.cell (by exact y5)];exact y3,hb⟩
 have HB1:=LH hB1
 have Hbx1:=LH hbx1
 clear hrt hfit hB1 hbx1 hB0 hb1
 go_wp2_with fail
 go_region_held3 (fun W'=>W'.cell? ⟨w.heap.size,0,none⟩=some (.slice a1 n1 c1)∧W'.cell? ⟨w.heap.size,1,none⟩=some (.slice a2 n2 c2)∧W'.cell? ⟨w.heap.size,2,none⟩=some (.slice a3 n3 c3)∧W'.cell? ⟨w.heap.size,3,none⟩=some (.int .i64 G.start)∧Below W1.heap.size W1 W')
  ((refine HS.out _ ?_;(repeat (first | assumption | exact Below.refl _ _ | refine Below.drew ?_ | refine below_alloc ?_ _ | refine below_set ?_ _ _ _ (by (first | exact Nat.le_refl _ | exact Nat.le_succ _ | exact Below.size (by assumption) | exact Nat.le_succ_of_le (Below.size (by assumption)) | (simp;done) | omega))));done))
  (first
    | (go_at_call 113;refine (CN.out _ (by (repeat (first | assumption | exact Below.refl _ _ | refine Below.drew ?_ | refine below_alloc ?_ _ | refine below_set ?_ _ _ _ (by (first | exact Nat.le_refl _ | exact Nat.le_succ _ | exact Below.size (by assumption) | exact Nat.le_succ_of_le (Below.size (by assumption)) | (simp;done) | omega)))))).mono ?_;rintro e w2 ⟨hB2,Hb2,gN,hgN,rfl,HTN⟩)
    | (go_at_call 109;refine (CP.out _ (by (repeat (first | assumption | exact Below.refl _ _ | refine Below.drew ?_ | refine below_alloc ?_ _ | refine below_set ?_ _ _ _ (by (first | exact Nat.le_refl _ | exact Nat.le_succ _ | exact Below.size (by assumption) | exact Nat.le_succ_of_le (Below.size (by assumption)) | (simp;done) | omega)))))).mono ?_;rintro e w3 ⟨hB3,Hb3,gP,hgP,rfl,HTP⟩))
 have HN3:Hid (BoolT w3 gN (nullN G)):=LH (Blk.hidden HTN Hb3)
 have HP3:Hid (BoolT w3 gP (prodN G)):=LH HTP
 have HB3:=LH (below_tail HB1.out hB3)
 have Hbx3:=LH (Hbx1.out.below hB3)
 clear hB2 Hb2 hgN HTN Hb3 hgP HTP hB3 CN CP HS y0 y1 y2 y3 y5
 have ⟨y5,y0,y1,y2,y3⟩:=Hbx3.out
 simp only [] at y0 y1 y2 y3
 go_upto_region 5 with fail
 have hT0:=SetT.new w3 (List.replicate n2 0)
 have hB40:=alloc_below w3 (.cells (nums .u32 (List.replicate n2 0)).toArray 49)
 generalize w3.alloc (.cells (nums .u32 (List.replicate n2 0)).toArray 49)=W4 at *
 generalize hgS:w3.heap.size=gS at *
 have HgS:=LH hgS
 have HT0:=LH hT0
 have HB40:=LH hB40
 clear hgS hT0 hB40 y0 y1 y2 y3 y5 hmk
 go_wp2_with fail
 go_loopw [6] (fun i wr=>∃ j:Nat,j≤n3∧i = .int .i64 (j:Int)∧Hid (Below gS w3 wr)∧Hid (SetT wr gS (passSt (nullN G) (prodN G) (G.rules.take j) (List.replicate n2 0)))) (fun i _=>n3 - (intOf i).toNat)
 case atStart=>exact ⟨0,Nat.zero_le _,rfl,HB40,LH (by simpa [passSt] using HT0.out)⟩
 case round =>
  obtain ⟨j,hj,rfl,HB,HT⟩:=hrel
  have hgs3:w3.heap.size=gS:=HgS.out
  have HBw:=LH (HB3.out.trans (HB.out.mono (by rw [← hgs3];exact HB3.out.size)))
  have hbx:=Hbx3.out.below (by rw [hgs3];exact HB.out)
  have ⟨y5,y0,y1,y2,y3⟩:=hbx
  simp only [] at y0 y1 y2 y3
  clear hgs3
  by_cases hjj:j < n3
  case neg =>
   obtain rfl:j=n3:=by omega
   have Hf:Hid (SetT wr gS (stepsN G)):=LH (by have:=HT.out;rw [List.take_of_length_le (by omega)] at this;unfold stepsN;rw [e2];exact this)
   go_wp2_with fail
   go_ret
   exact ⟨HBw.out, .inr ⟨Hrt.out,gS,by rw [← HgS.out];exact HB3.out.size,rfl,Hf.out⟩⟩
  case pos =>
   obtain ⟨bb,off,r,Ar,cr,rfl,hb0,Hr,q0,q1,q2,hrrw⟩:=Hg.out.rules.get hjj
   rw [← HBw.out.cell (by exact hb0)] at q0 q1 q2
   have hb:bb < wr.heap.size:=Nat.lt_of_lt_of_le hb0 HBw.out.size
   have HrrW:=LH hrrw
   have hmem:=List.mem_of_getElem? Hr.out
   have Hnx:Hid (passSt (nullN G) (prodN G) (G.rules.take (j+1)) (List.replicate n2 0)=posSt (nullN G) (prodN G) r r.right.length (passSt (nullN G) (prodN G) (G.rules.take j) (List.replicate n2 0))):=LH (by rw [take_snoc' Hr.out,passSt_snoc])
   have hcl:(passSt (nullN G) (prodN G) (G.rules.take j) (List.replicate n2 0)).length=n2:=by rw [passSt_len];simp
   have hcs:=passSt_small (nullN G) (prodN G) (G.rules.take j) (Small.zero n2)
   generalize passSt (nullN G) (prodN G) (G.rules.take j) (List.replicate n2 0)=cur at *
   obtain ⟨l1,l2⟩:=Hfit.out.left r hmem
   obtain ⟨jl,hjl⟩:∃ jl:Nat,r.left=(jl:Int):=⟨r.left.toNat,by omega⟩
   have hjl2:jl < n2:=by omega
   have Hjl:Hid (r.left.toNat=jl):=LH (by omega)
   have hlen:=Hfit.out.len r hmem
   have hsy:=Hfit.out.symB hmem
   rw [e2] at hsy
   rw [hjl] at q0
   have Hsy:=LH hsy
   have Hcl:=LH hcl
   have Hcs:=LH hcs
   have hbA:=alloc_below wr (.cells #[.int .i64 (jl:Int), .slice Ar r.right.length cr, .int .i64 r.prec] 52)
   have hRb:=Blk.new wr 52 #[.int .i64 (jl:Int), .slice Ar r.right.length cr, .int .i64 r.prec]
   have hgw:gS < wr.heap.size:=HT.out.lt
   clear hrrw hsy hcl hcs l1 l2 hjl hmem hbx
   go_wp2_with fail
   have HTA:Hid (SetT (wr.alloc (.cells #[.int .i64 (jl:Int), .slice Ar r.right.length cr, .int .i64 r.prec] 52)) gS cur):=LH (Blk.ext HT.out hbA)
   have HBA:=LH (HB.out.trans (hbA.mono (Nat.le_of_lt hgw)))
   have HRb:=LH hRb
   generalize wr.alloc (.cells #[.int .i64 (jl:Int), .slice Ar r.right.length cr, .int .i64 r.prec] 52)=WA at *
   generalize wr.heap.size=gR at *
   clear hbA hRb y0 y1 y2 y3 y5 q0 q1 q2 HT HB HBw
   have hlA:gS < WA.heap.size:=HTA.out.lt
   have hcapr:=HrrW.out.cap
   go_loopw [8] (fun i wz=>∃ kk:Nat,kk≤r.right.length∧i = .int .i64 (kk:Int)∧Hid (SetT wz gS (posSt (nullN G) (prodN G) r kk cur))∧Hid (WA.grownBy wz (some gS))) (fun i _=>r.right.length - (intOf i).toNat)
   case atStart=>exact ⟨0,Nat.zero_le _,rfl,HTA,LH (grown_refl _ _)⟩
   case round =>
    obtain ⟨kk,hkk,rfl,HT,Hgr⟩:=hrel
    have hgRS:gR ≠ gS:=by omega
    have hRz:=HRb.out.grown Hgr.out (by intro e;injection e with e;exact hgRS e)
    have r0:wr.cell? ⟨gR,0,none⟩=some (.int .i64 (jl:Int)):=hRz.cell 0
    have r1:wr.cell? ⟨gR,1,none⟩=some (.slice Ar r.right.length cr):=hRz.cell 1
    have hRl:gR < wr.heap.size:=hRz.lt
    have HBz:=LH (HBA.out.trans (grown_is_below Hgr.out (Nat.le_of_lt hlA) (Nat.le_refl _)))
    have HBzw:=LH (HB3.out.trans (HBz.out.mono (by rw [← HgS.out];exact HB3.out.size)))
    have hcl3:(posSt (nullN G) (prodN G) r kk cur).length=n2:=by rw [posSt_len];exact Hcl.out
    have hsm3:=posSt_small (nullN G) (prodN G) r Hcs.out kk
    have Hrrz:=LH (HrrW.out.below HBzw.out)
    have hgw:gS < wr.heap.size:=HT.out.lt
    by_cases hkl:kk < r.right.length
    case neg =>
     obtain rfl:kk=r.right.length:=by omega
     clear hcl3 hsm3 hRz
     go_wp2_with fail
     go_roundw
     case rel=>exact ⟨j+1,by omega,by go_num,HBz,LH (by rw [Hnx.out];exact HT.out)⟩
     case measure=>simp [intOf];omega
    case pos =>
     obtain ⟨sb,so,s,rfl,hsb,Hs,qs⟩:=Hrrz.out.get hkl
     have hs1:=Hsy.out s (List.mem_of_getElem? Hs.out)
     have hnx:=posSt_succ (nullN G) (prodN G) r kk cur
     have hgs:growSt (nullN G) (prodN G) r kk (posSt (nullN G) (prodN G) r kk cur)=if standsR (nullN G) (prodN G) r.right kk s then addAt jl (bitN (-1 - s)) (posSt (nullN G) (prodN G) r kk cur) else posSt (nullN G) (prodN G) r kk cur:=by unfold growSt;rw [Hs.out];simp only [Hjl.out]
     have Hnx2:=LH (hnx.trans hgs)
     have hat:=HT.out.at (i:=jl) (by rw [hcl3];exact hjl2)
     have hgN:gN < gS:=by have:=HN3.out.lt;rw [HgS.out] at this;exact this
     have hgP:gP < gS:=by have:=HP3.out.lt;rw [HgS.out] at this;exact this
     have cA:=rf_alone (some ⟨sb,so,none⟩) r.right.length cr gN n2 kk r.right (nullN G) wr Hrrz.out (Blk.below HN3.out HBz.out hgN) (by rw [nullN_grown,grownN_len];exact e2) (by omega) Hsy.out (by omega) (by omega)
     have cM:=rf_made (some ⟨sb,so,none⟩) r.right.length cr gP n2 r.right (prodN G) wr Hrrz.out (Blk.below HP3.out HBz.out hgP) (by rw [prodN_len];exact e2) (by omega) Hsy.out
     have hst:standsR (nullN G) (prodN G) r.right kk s=(decide (s < 0) && aloneP (nullN G) r.right kk && allP true (prodN G) r.right):=rfl
     have Hst:=LH hst
     generalize aloneP (nullN G) r.right kk=ta at *
     generalize allP true (prodN G) r.right=tm at *
     have CA:=LH cA
     have CM:=LH cM
     clear hnx hgs cA cM hst hgN hgP hRz
     have skip:standsR (nullN G) (prodN G) r.right kk s=false→Hid (SetT wr gS (posSt (nullN G) (prodN G) r (kk+1) cur)):=fun hf=>LH (by rw [Hnx2.out,hf];exact HT.out)
     have Hskip:=LH skip
     clear skip
     by_cases h0:0≤s
     · have Hf:=Hskip.out (by rw [Hst.out,show decide (s < 0)=false by rw [decide_eq_false_iff_not];omega];rfl)
       clear hcl3 hsm3
       go_wp2_with fail
       go_roundw
       case rel=>exact ⟨kk+1,by omega,by go_num,Hf,Hgr⟩
       case measure=>simp [intOf];omega
     have hneg:decide (s < 0)=true:=by rw [decide_eq_true_iff];omega
     rcases (by cases ta <;> cases tm <;> simp:ta=false∨(ta=true∧tm=false)∨(ta=true∧tm=true)) with rfl | ⟨rfl,rfl⟩ | ⟨rfl,rfl⟩
     · have Hf:=Hskip.out (by rw [Hst.out,hneg];rfl)
       clear hcl3 hsm3
       go_wp2_with (go_at_call 114;(with_reducible refine CA.out.mono ?_);rintro e w' ⟨rfl,rfl⟩)
       go_roundw
       case rel=>exact ⟨kk+1,by omega,by go_num,Hf,Hgr⟩
       case measure=>simp [intOf];omega
     · have Hf:=Hskip.out (by rw [Hst.out,hneg];rfl)
       clear hcl3 hsm3
       go_wp2_with (first
        | (go_at_call 114;(with_reducible refine CA.out.mono ?_);rintro e w' ⟨rfl,rfl⟩)
        | (go_at_call 115;(with_reducible refine CM.out.mono ?_);rintro e w' ⟨rfl,rfl⟩))
       go_roundw
       case rel=>exact ⟨kk+1,by omega,by go_num,Hf,Hgr⟩
       case measure=>simp [intOf];omega
     · have hstt:standsR (nullN G) (prodN G) r.right kk s=true:=by rw [Hst.out,hneg];rfl
       have Hnx3:Hid (posSt (nullN G) (prodN G) r (kk+1) cur=addAt jl (bitN (-1 - s)) (posSt (nullN G) (prodN G) r kk cur)):=LH (by rw [Hnx2.out,hstt];rfl)
       have hws:IntKind.i64.wrap (-1 - s)=-1 - s:=IntWalk.i64_in _ (by omega)
       have hlo:=hsm3.get jl
       have hhi:=bitN_lt (-1 - s)
       have hor:=or32 ((posSt (nullN G) (prodN G) r kk cur).getD jl 0) (bitN (-1 - s)) hlo hhi
       have Hput:=LH fun x:Ext wr=>SetT.put (Blk.ext HT.out (bl_below wr x):SetT (bl wr x) gS (posSt (nullN G) (prodN G) r kk cur)) jl ((posSt (nullN G) (prodN G) r kk cur).getD jl 0 ||| bitN (-1 - s))
       have hfz:=Blk.frozen HT.out jl
       have CB:=LH fun x:Ext wr=>ref_bit (-1 - s) (bl wr x)
       unfold addAt at Hnx3
       generalize (posSt (nullN G) (prodN G) r kk cur).getD jl 0 ||| bitN (-1 - s)=z at *
       generalize (posSt (nullN G) (prodN G) r kk cur).getD jl 0=old at *
       generalize bitN (-1 - s)=bv at *
       have bc:=bl_cell wr
       have bf:=bl_frozen wr
       clear hstt hcl3 hsm3
       go_wp2_with (first
        | (go_at_call 114;(with_reducible refine CA.out.mono ?_);rintro e w' ⟨rfl,rfl⟩)
        | (go_at_call 115;(with_reducible refine CM.out.mono ?_);rintro e w' ⟨rfl,rfl⟩))
       refine wp_region_below_tail 17 (by kernel_rfl) (by kernel_rfl) ?_
       simp only [List.take_succ_cons,List.take_zero,List.drop_succ_cons,List.drop_zero]
       repeat (go_big_quiet_step ((go_at_call 63;with_reducible exact bl_of_same (CB.out _))))
       refine wpQuiet_nil ?_
       rintro _ ⟨x,rfl⟩
       have hcx:=(bc x gS jl hgw).trans hat
       have hfx:=(bf x gS jl hgw).trans hfz
       have hsx:=bl_size wr x
       go_wp2_with fail
       go_roundw
       case rel=>exact ⟨kk+1,by omega,by go_num,LH (by rw [Hnx3.out];exact Hput.out x),LH (grown_trans (grown_trans Hgr.out (grown_below _ (bl_below wr x))) (grown_set _ _ _ _))⟩
       case measure=>simp [intOf];omega
end Go.Proofs.YtggbjdmpjidhgaaGreatDoor
