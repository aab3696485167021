/- the reference's reading: a source, of tokens and of a text. -/
import Derived.Test.YtggbjdmpjidhgaaGreatDoorVQPs7
import Derived.Deep.RegionLaw
import Derived.Test.YtggbjdmpjidhgaaGreatDoorVQCyW2
import Derived.Test.YtggbjdmpjidhgaaGreatDoorVQQuiet2
import Derived.Deep.RegionHeld3
set_option linter.unusedVariables false
set_option linter.unusedSimpArgs false
set_option maxHeartbeats 8000000
set_option maxRecDepth 100000
namespace Go.Proofs.YtggbjdmpjidhgaaGreatDoor
open Go.RowKit
theorem step_appendM {P:Program} {ops:Array Oper} {o:Oper} {a:Act} {w:World} {K:Act→World→Prop} {Q:Exit→Act→World→Prop} {E:Prop} (H:o.guard=none) (s x:Operand) (t:TypeId)
 (L:o.op = .call { callee := .builtin .append,args:=#[s,x],argTypes:=#[t,t] })
 (base:Nat) (e:TypeId) (z:Value) (size bytes:Nat) (T:P.underlying t=some (.slice e))
 (hi:(P.info? e).map (fun i=>(i.zero,i.size,i.bytes))=some (some z,size,bytes)) (X:z.cells.size=size) (S:0 < size)
 (A:Option Addr) (n c:Nat) (xs:List Value) (O:a.eval s = .slice A n c) (M:w.ownsRow base e size (.slice A n c) n xs)
 (p:Addr) (m c2:Nat) (k:List Value) (J:k.length=m * size) (V:a.eval x = .slice (some p) m c2) (G:∀ j u,k[j]? = some u→w.cell? (p.add j)=some u) (r:∀ u ∈ k,u.oneCell'=true)
 (B:n+m≤9223372036854775807) (F:(n+m) * bytes≤140737488355328) (C:base≤w.heap.size)
 (h:∀ d f w',w'.ownsRow base e size (.slice d (n+m) f) (n+m) (xs++k)→w.grownBy w' (Value.slice A n c).ownBlock→(∀ b,(Value.slice d (n+m) f).ownBlock=some b→b < w.heap.size→(Value.slice A n c).ownBlock=some b) →
   K (a.put o.dst (.slice d (n+m) f)) w'):if Region.wanted o (yielded ops a.tmps)=true then Oper.wp P o a w K Q else E:=by
 have U:Region.wanted o (yielded ops a.tmps)=true:=by simp [Region.wanted,H]
 rw [if_pos U]
 obtain ⟨i,I,W,R,D⟩:=info_parts hi
 obtain ⟨Z,w',N,q,v,_,g⟩:=run_append_own_at (P:=P) w base t o.type e i z size bytes T I W R D X S _ n xs M p m c2 k J G r (by simpa [maxLen] using B) F C
 obtain ⟨d,f,rfl⟩:=own_formS q
 have y:∀ b,(Value.slice d (n+m) f).ownBlock=some b→b < w.heap.size→(Value.slice A n c).ownBlock=some b:=by
  intro b l Y
  rcases g with g | g
  · rw [← g];exact l
  · rw [g] at l;injection l with l;omega
 unfold Oper.wp execOp
 simp only [L,resolve,invoke,builtin,Sem.run_bind,Sem.run_pure,Result.andThen_ok,List.map_toArray,List.map_cons,List.map_nil,O,V,N]
 exact h d f w' q v y
theorem altsP_pos {L:ByteArray} {q:Nat} {b:List Tk} {d:List Prd} {rest:List Tk} (h:altsP L q b=some (d,rest)):0 < d.length∧d.length+rest.length≤b.length:=by
 induction q generalizing b d rest with
 | zero=>cases h
 | succ q l =>
   have o:=spanS_len b
   unfold altsP at h
   split at h
   · cases h
   · rename_i pr g k
     have c:g.length≤(spanS b).2.length:=by
      rcases precP_ways k with ⟨_,_,e⟩ | ⟨p,s,e,_⟩
      · rw [e];exact Nat.le_refl _
      · rw [e];simp only [List.length_cons];omega
     by_cases f:headK g=11
     · rw [if_pos f,Option.map_eq_some_iff] at h
       obtain ⟨⟨m,r⟩,a,j⟩:=h
       simp only [Prod.mk.injEq] at j
       obtain ⟨rfl,rfl⟩:=j
       have:=l a
       rw [List.length_tail] at this
       obtain ⟨u,n,e,_⟩:=headK_cons f (by decide)
       rw [e] at this c
       simp only [List.length_cons] at this c ⊢
       omega
     · rw [if_neg f] at h
       by_cases a:headK g=12
       · rw [if_pos a] at h
         simp only [Option.some.injEq,Prod.mk.injEq] at h
         obtain ⟨rfl,rfl⟩:=h
         obtain ⟨u,n,e,_⟩:=headK_cons a (by decide)
         rw [e] at c
         rw [e]
         simp only [List.length_cons,List.length_nil,List.tail_cons] at c ⊢
         omega
       · rw [if_neg a] at h
         cases h
theorem groupP_pos {q:Nat} {d:List Tk} {c:List Prd} {rest:List Tk} (h:groupP q d=some (c,rest)):0 < c.length∧c.length+rest.length < d.length:=by
 match d,h with
 | a::b::ts,h =>
   have h:(if a.1=1∧b.1=10 then altsP a.2 q ts else none)=some (c,rest):=h
   split at h
   · have:=altsP_pos h
     simp only [List.length_cons]
     omega
   · cases h
theorem groupsP_step {q:Nat} {a:List Tk} {c:List Prd} (h:groupsP q a=some c) :
 (a=[]∧c=[])∨(∃ u l,a=u::l∧u.1 ≠ 9∧∃ f ps rest b,groupP f a=some (ps,rest)∧groupsP f rest=some b∧c=ps++b):=by
 cases q with
 | zero=>cases h
 | succ q =>
   cases a with
   | nil =>
     injection h with h
     exact .inl ⟨rfl,h.symm⟩
   | cons u a =>
     refine .inr ⟨u,a,rfl,?_⟩
     have h:(if u.1=9 then none else match groupP q (u::a) with | none=>none | some (ps,rest)=>(groupsP q rest).map (ps++·))=some c:=h
     by_cases d:u.1=9
     · rw [if_pos d] at h;cases h
     · rw [if_neg d] at h
       refine ⟨d,?_⟩
       split at h
       · cases h
       · rename_i ps rest k
         rw [Option.map_eq_some_iff] at h
         obtain ⟨b,g,j⟩:=h
         exact ⟨q,ps,rest,b,k,g,j.symm⟩
theorem own_cells {w:World} {base e size n c:Nat} {A:Option Addr} {xs:List Value} (h:w.ownsRow base e size (.slice A n c) n xs) (o:0 < n):∃ g,A=some ⟨g,0,none⟩∧base≤g∧g < w.heap.size∧∀ j u,xs[j]? = some u→w.cell? ((⟨g,0,none⟩:Addr).add j)=some u:=by
 rcases h.2 with ⟨a,rfl⟩ | ⟨g,cap,f,a,b,m,p,k,l,q⟩
 · omega
 · injection a with h1 h2 h3
   subst h1
   have d:=h.lt g rfl
   exact ⟨g,rfl,b,d.2,h.cells rfl⟩
theorem prdCs_one {w:World} {j:Nat→Prop} {cs:List Value} {ps:List Prd} (h:PrdCs w j cs ps):∀ u ∈ cs,u.oneCell'=true:=by
 intro u m
 obtain ⟨i,hi⟩:=List.getElem?_of_mem m
 have l:i < cs.length:=(List.getElem?_eq_some_iff.1 hi).1
 rw [h.1] at l
 have k:i / 5 < ps.length:=by omega
 obtain ⟨Ar,cr,x,y,n,o,b,c,d,f,g,_⟩:=h.2 (i / 5) (ps[i / 5]) (List.getElem?_eq_getElem k)
 have a:i % 5=0∨i % 5=1∨i % 5=2∨i % 5=3∨i % 5=4:=by omega
 rcases a with a | a | a | a | a
 · rw [show i / 5 * 5+0=i by omega,hi] at b;injection b with b;subst b;rfl
 · rw [show i / 5 * 5+1=i by omega,hi] at c;injection c with c;subst c;rfl
 · rw [show i / 5 * 5+2=i by omega,hi] at d;injection d with d;subst d;rfl
 · rw [show i / 5 * 5+3=i by omega,hi] at f;injection f with f;subst f;rfl
 · rw [show i / 5 * 5+4=i by omega,hi] at g;injection g with g;subst g;rfl
section
variable {P:Program} {w:World}
end
theorem enters_reach1:∀ args w,(callFunc 169 args).run Tryz.prog w = .ok (.enter 169 args) w:=fun args w=>by kernel_rfl
theorem Tryz.infoI64C:(Tryz.prog.info? 3).map (fun i=>(i.zero,i.size,i.bytes))=some (some (.int .i64 0),1,8):=by kernel_rfl
theorem tr_reach1 (r:Rul) (Ar:Option Addr) (cr g x d n:Nat) (N P:List Bool) (w:World) (I:Ints .i64 w Ar r.right.length cr r.right) (D:BoolT w g N) (V:BoolT w x P) (H:w.cell? ⟨d,0,none⟩=some (.slice (some ⟨x,0,none⟩) n n)) (hn:N.length=n) (ax:P.length=n) (aw:n≤1000)
 (hl:0≤r.left∧r.left < (n:Int)) (J:∀ s ∈ r.right,-(n:Int)≤s∧s≤1000) (a3:r.right.length≤1000) :
 Calls Tryz.prog 169 #[.agg #[.int .i64 r.left, .slice Ar r.right.length cr, .int .i64 r.prec], .slice (some ⟨g,0,none⟩) n n, .pointer (some ⟨d,0,none⟩)] w fun e w'=>Below w.heap.size w w'∧∃ A m c,e = .returned (.slice A m c)∧Ints .i64 w' A m c (reachI P r N)∧Apart A g:=by
 have a1:g < w.heap.size:=D.lt
 have ap:d < w.heap.size:=World.block_lt_of_cell? w ⟨d,0,none⟩ H
 have j:=alloc_below w (.cells #[.int .i64 r.left, .slice Ar r.right.length cr, .int .i64 r.prec] 52)
 have E:=RBox.new w 52 r.left Ar r.right.length cr r.prec
 have ae:=all_off P r.right
 obtain ⟨a,Z⟩:∃ a:Nat,r.left=(a:Int):=⟨r.left.toNat,by omega⟩
 have aq:a < n:=by omega
 have W:(w.alloc (.cells #[.int .i64 r.left, .slice Ar r.right.length cr, .int .i64 r.prec] 52)).cell? ⟨g,a,none⟩=some (.bool (N.getD a false)):=BoolT.at (Blk.ext D j) (by rw [hn];exact aq)
 have ab:(w.alloc (.cells #[.int .i64 r.left, .slice Ar r.right.length cr, .int .i64 r.prec] 52)).cell? ⟨d,0,none⟩=some (.slice (some ⟨x,0,none⟩) n n):=(j.cell (p:=⟨d,0,none⟩) ap).trans H
 have f:=fun w' (X:Below w.heap.size w w')=>tr_within r.left Ar cr x n r.right r.prec P w' (I.below X) (Blk.ext V X) ax aw J
 have ad:reachI P r N=if N.getD a false && allP true P r.right then nonsI r.right else []:=by unfold reachI goesP;rw [show r.left.toNat=a by omega]
 rw [ae] at f
 have C:=LH ad
 have S:=LH I
 have z:=LH f
 have Hs:=LH J
 rw [Z] at W ab j E z
 clear ad f ae I J D V H hl
 rw [Z]
 go_enter Tryz.func169,Tryz.ntmps169
 have ⟨z5,z0,z1,z2⟩:=E
 go_upto_region 1 with fail
 generalize w.alloc (.cells #[.int .i64 (a:Int), .slice Ar r.right.length cr, .int .i64 r.prec] 52)=W0 at *
 have O:=LH j
 have f:=(z.out W0 j).mono fun e w' G=>And.intro G.1 (And.intro (bcell G.2).1 (LH (below_tail O.out G.2)))
 have M:=LH f
 have a0:=S.out.cap
 clear f z j E
 generalize N.getD a false=y at *
 generalize allP true P r.right=L at *
 rcases (by cases y <;> cases L <;> simp:y=false∨(y=true∧L=false)∨(y=true∧L=true)) with rfl | ⟨rfl,rfl⟩ | ⟨rfl,rfl⟩
 · go_wp2_with fail
   go_ret
   exact ⟨O.out,none,0,0,rfl,by rw [C.out];exact Ints.nil _ _ _ _ (by omega),fun b o h=>by cases h⟩
 · go_wp2_with (go_at_call 108;(with_reducible refine M.out.mono ?_);rintro e w2 ⟨rfl,F,B⟩)
   go_ret
   exact ⟨B.out,none,0,0,rfl,by rw [C.out];exact Ints.nil _ _ _ _ (by omega),fun b o h=>by cases h⟩
 · go_wp2_with (go_at_call 108;(with_reducible refine M.out.mono ?_);rintro e w2 ⟨rfl,F,B⟩;have x1:=(F _ 1 z5).trans z1)
   have ai:=LH Tryz.infoI64C
   clear F x1 z0 z1 z2 z5 W ab
   go_loopw [5,23] (fun v i wr=>∃ (k m c:Nat) (A:Option Addr),v = .slice A m c∧i = .int .i64 (k:Int)∧k≤r.right.length∧m≤k∧Hid (m=(nonsI (r.right.take k)).length)∧Hid (wr.ownsRow w.heap.size 3 1 (.slice A m c) m (ints .i64 (nonsI (r.right.take k))))∧Hid (Below w.heap.size w wr)) (fun _ i _=>r.right.length - (intOf i).toNat)
   case atStart=>exact ⟨0,0,0,none,rfl,rfl,Nat.zero_le _,Nat.le_refl _,LH rfl,LH (World.ownsRow_nil _ _ _ _),B⟩
   case round =>
    obtain ⟨k,m,c,A,rfl,rfl,hk,hm,R,u,q⟩:=hrel
    have ao:w.heap.size≤wr.heap.size:=q.out.size
    by_cases ar:k < r.right.length
    · obtain ⟨sb,so,s,rfl,a6,T,qs⟩:=(S.out.below q.out).get ar
      have a5:=Hs.out s (List.mem_of_getElem? T.out)
      have l:=nonsI_take T.out
      by_cases U:s < 0
      · have a7:IntKind.i64.wrap (-1 - s)=-1 - s:=IntWalk.i64_in _ (by omega)
        rw [if_pos U] at l
        have t:=LH l
        clear l
        go_wp2_with (first
         | (at_builtin;refine wpl_appendT rfl _ _ 27 rfl w.heap.size 3 _ 1 8 Tryz.underlying27 ai.out (by decide) (by decide) A m c (ints .i64 (nonsI (r.right.take k))) rfl u.out [.int .i64 (-1 - s)] rfl rfl (by simp [Value.oneCell']) (by omega) (by omega) (by omega) ?_;intro A4 c4 w4 ho Y ha
            have aj:=LH ho
            have ag:=LH (below_append q.out Y u.out ao)
            clear ho Y ha))
        go_roundw
        case rel=>exact ⟨k+1,m+1,c4,A4,rfl,by go_num,by omega,by omega,LH (by rw [t.out,R.out];simp),LH (by rw [t.out,ints_append];exact aj.out),ag⟩
        case measure=>simp [intOf];omega
      · rw [if_neg U] at l
        have t:=LH l
        clear l
        go_wp2_with fail
        go_roundw
        case rel=>exact ⟨k+1,m,c,A,rfl,by go_num,by omega,by omega,LH (by rw [t.out];exact R.out),LH (by rw [t.out];exact u.out),q⟩
        case measure=>simp [intOf];omega
    · have Hf:Hid (Ints .i64 wr A m c (reachI P r N)):=LH (by
       have:=own_sl u.out
       rw [List.take_of_length_le (by omega)] at this
       rw [C.out]
       exact this)
      go_wp2_with fail
      go_ret
      refine ⟨q.out,A,m,c,rfl,Hf.out,fun b o h=>?_⟩
      have:=u.out.lt b (by rw [h];rfl)
      omega
theorem tr_Reachable (h:GH) (G:Gr) (w:World) (v:GrAt w h G) (hs:∀ t ∈ G.terms,t.name.size≤maxLen) (C:h.n1≤100) (Y:h.n2≤100) (h3:h.n3≤100) :
 Calls Tryz.prog 106 #[GV h G.start] w fun e w'=>Below w.heap.size w w' ∧
  ((G.right=false∧e = .returned (.slice none 0 0))∨(G.right=true∧∃ g,w.heap.size≤g∧e = .returned (.slice (some ⟨g,0,none⟩) h.n2 h.n2)∧BoolT w' g (reachN G))):=by
 obtain ⟨a1,n1,c1,a2,n2,c2,a3,n3,c3⟩:=h
 have j:G.nons.length=n2:=v.nons.len
 have k2:=v.nons.cap
 simp only [] at C Y h3 k2
 have Z:=alloc_below w (.cells #[.slice a1 n1 c1, .slice a2 n2 c2, .slice a3 n3 c3, .int .i64 G.start] 26)
 have J:=GBox.new w 26 ⟨a1,n1,c1,a2,n2,c2,a3,n3,c3⟩ G.start
 have bj:=make_bools n2 (by omega)
 have B:=LH v
 have W:=LH hs
 clear v hs
 go_enter Tryz.func106,Tryz.ntmps106
 have ⟨z5,z0,z1,z2,z3⟩:=J
 simp only [] at z0 z1 z2 z3
 go_wp2_with fail
 generalize w.alloc (.cells #[.slice a1 n1 c1, .slice a2 n2 c2, .slice a3 n3 c3, .int .i64 G.start] 26)=W0 at *
 (with_reducible refine (cf_Right ⟨a1,n1,c1,a2,n2,c2,a3,n3,c3⟩ G W0 (B.out.below Z) W.out (by simp only [];omega) (by simp only [];omega)).mono ?_)
 rintro e W1 ⟨rfl,aj⟩
 have D:=below_tail Z aj
 have L:=J.below aj
 clear z0 z1 z2 z3 z5 J
 have ⟨y5,y0,y1,y2,y3⟩:=L
 simp only [] at y0 y1 y2 y3
 rcases z:G.right with _ | _
 · go_wp2_with fail
   go_ret
   exact ⟨D, .inl ⟨z,rfl⟩⟩
 have R:=Gr.fits z
 have bs:=R.st
 have V:=LH z
 have p:=LH R
 obtain ⟨b,aq⟩:∃ b:Nat,G.start=(b:Int):=⟨G.start.toNat,by omega⟩
 have bh:b < n2:=by omega
 have U:=LH aq
 clear aq
 have X:=(tr_Productive ⟨a1,n1,c1,a2,n2,c2,a3,n3,c3⟩ G W1 (B.out.below D) W.out (by simp only [];omega) (by simp only [];omega) (by simp only [];omega)).mono fun e w' hh=>And.intro hh.1 (hh.2.resolve_left fun hc=>by rw [V.out] at hc;cases hc.1).2
 have CP:=LH X
 clear z R X
 go_wp2_with fail
 (with_reducible refine CP.out.mono ?_)
 rintro e d ⟨ak,c,bq,rfl,E⟩
 have aa:=below_tail D ak
 have M:=L.below ak
 have br:c < d.heap.size:=E.lt
 have u:=alloc_below d (.cells #[.slice (some ⟨c,0,none⟩) n2 n2] 97)
 have ae:=Blk.new d 97 #[.slice (some ⟨c,0,none⟩) n2 n2]
 have ai:BoolT (d.alloc (.cells #[.slice (some ⟨c,0,none⟩) n2 n2] 97)) c (prodN G):=Blk.ext E u
 have O:=M.below u
 have bm:=alloc_size d (.cells #[.slice (some ⟨c,0,none⟩) n2 n2] 97)
 clear y0 y1 y2 y3 y5 L
 go_upto_region 4 with fail
 generalize d.alloc (.cells #[.slice (some ⟨c,0,none⟩) n2 n2] 97)=k at *
 generalize y:d.heap.size=a at *
 have q:=BoolT.new k (List.replicate n2 false)
 have l:=alloc_below k (.cells (bools (List.replicate n2 false)).toArray 4)
 have ab:=ae.ext l
 have ag:BoolT (k.alloc (.cells (bools (List.replicate n2 false)).toArray 4)) c (prodN G):=Blk.ext ai l
 have al:=O.below l
 have ⟨y5,y0,y1,y2,y3⟩:=O
 simp only [] at y0 y1 y2 y3
 have H:=u.trans (l.mono (by omega))
 go_upto_region 5 with fail
 generalize k.alloc (.cells (bools (List.replicate n2 false)).toArray 4)=W3 at *
 generalize bp:k.heap.size=gI at *
 obtain rfl:gI=a+1:=bm
 clear y0 y1 y2 y3 y5
 have ⟨y5,y0,y1,y2,y3⟩:=al
 simp only [] at y0 y1 y2 y3
 rw [U.out] at y3
 have bd:=Blk.frozen q b
 have bc:=q.at (i:=b) (by simpa using bh)
 have S:=q.put b true
 have av:startN G=(List.replicate n2 false).set b true:=by unfold startN;rw [j,U.out];rfl
 rw [← av] at S
 have bl:(startN G).length=n2:=by unfold startN;simp [j]
 have ad:=ab.other (a+1) b (.bool true) (by omega)
 have ah:BoolT (W3.setCell ⟨(a+1),b,none⟩ (.bool true)) c (prodN G):=Blk.other ag (a+1) b (.bool true) (by omega)
 have I:=H.trans (grown_is_below (grown_set W3 (a+1) b (.bool true)) (by have:=H.size;omega) (by omega))
 have am:GBox (W3.setCell ⟨(a+1),b,none⟩ (.bool true)) w.heap.size ⟨a1,n1,c1,a2,n2,c2,a3,n3,c3⟩ G.start:=M.below (by rw [y];exact I)
 have a6:=LH S
 have ay:=LH ad
 have az:=LH ah
 have A:=LH I
 have a5:=LH am
 have f:=LH aa
 have be:(a+1) ≠ a:=by omega
 have bf:(a+1) ≠ c:=by omega
 clear S al ab ag O q l ae ai u H bj ad ah I am aa M av E
 go_upto_region 6 with fail
 generalize W3.setCell ⟨(a+1),b,none⟩ (.bool true)=W4 at *
 clear y0 y1 y2 y3 y5 bd bc
 have ⟨y5,y0,y1,y2,y3⟩:=a5.out
 simp only [] at y0 y1 y2 y3
 have hq:=tr_grow ⟨a1,n1,c1,a2,n2,c2,a3,n3,c3⟩ G 169 #[.pointer (some ⟨a,0,none⟩)] enters_reach1 (reachI (prodN G)) (a+1) n2 (startN G) d W4 (B.out.below f.out) (by rw [y];exact A.out) (by omega) (by omega) a6.out bl (by simp only [];omega)
  (fun r n N hN s o=>by
    unfold reachI at o
    split at o
    · unfold nonsI at o
      obtain ⟨x,T,rfl⟩:=List.mem_map.1 o
      rw [List.mem_filter] at T
      have C:=p.out.sym r n x T.1
      have Y:x < 0:=by simpa using T.2
      rw [j] at C
      omega
    · cases o)
  (fun r n Ar cr N w' m bk hN hl=>tr_reach1 r Ar cr (a+1) c a n2 N (prodN G) w' bk hN (Blk.grown az.out m (by intro e;injection e with e;exact bf e.symm)) ((ay.out.grown m (by intro e;injection e with e;exact be e.symm)).cell 0) hl (by rw [prodN_len];exact j) (by omega) (by have:=p.out.left r n;rw [j] at this;exact this) (by have:=p.out.symB n;rwa [j] at this) (by have:=p.out.len r n;omega))
 have HQ:=LH hq
 clear hq
 go_wp2_with fail
 (with_reducible refine HQ.out.mono ?_)
 rintro e W5 ⟨rfl,m,F⟩
 have ao:reachN G=iter (passI (reachI (prodN G)) G.rules) n2 (startN G):=by unfold reachN;rw [j]
 rw [← ao] at F
 have HT:=LH F
 have ax:=LH ((f.out.trans (A.out.mono (by rw [← y];exact f.out.size))).trans (grown_is_below m (f.out.trans (A.out.mono (by rw [← y];exact f.out.size))).size (by have:=f.out.size;omega)))
 have bg:w.heap.size≤(a+1):=by have:=f.out.size;omega
 clear F ao m y0 y1 y2 y3 y5
 go_wp2_with fail
 go_ret
 exact ⟨ax.out, .inr ⟨V.out,(a+1),bg,rfl,HT.out⟩⟩
theorem Blk.hidden {w w':World} {g:Nat} {t:TypeId} {cs:Array Value} (h:Blk w g t cs) (a:Hid (Below w.heap.size w w')):Blk w' g t cs:=h.ext a.out
end Go.Proofs.YtggbjdmpjidhgaaGreatDoor
