/- the reference's reading: a grammar is built: a rule. -/
import Derived.Test.YtggbjdmpjidhgaaGreatDoorVQPs9
set_option linter.unusedVariables false
set_option linter.unusedSimpArgs false
set_option maxHeartbeats 8000000
set_option maxRecDepth 100000
namespace Go.Proofs.YtggbjdmpjidhgaaGreatDoor
open Go.RowKit
theorem termP_keep {G a:Gr} {s:ByteArray} {i:Int} (h:termP G s=some (i,a)) (h1:G.terms.length≤24):a.nons=G.nons∧a.rules=G.rules∧a.start=G.start∧-17≤i∧i≤24:=by
 unfold termP at h
 by_cases h0:0≤G.term s
 · rw [if_pos h0] at h
   simp only [Option.some.injEq,Prod.mk.injEq] at h
   obtain ⟨rfl,rfl⟩:=h
   have b:=(findI_lo (fun t=>decide (t.name=s)) G.terms).2
   have c:G.term s=findI (fun t=>decide (t.name=s)) G.terms:=rfl
   exact ⟨rfl,rfl,rfl,by omega,by omega⟩
 · rw [if_neg h0] at h
   split at h
   · cases h
   · simp only [Option.some.injEq,Prod.mk.injEq] at h
     obtain ⟨rfl,rfl⟩:=h
     exact ⟨rfl,rfl,rfl,by omega,by omega⟩
theorem symbolP_keep {b:Bool} {G a:Gr} {s:ByteArray} {i:Int} (h:symbolP b G s=some (i,a)) (h1:G.terms.length≤24) (c:G.nons.length≤16):a.nons=G.nons∧a.rules=G.rules∧a.start=G.start∧-17≤i∧i≤24:=by
 rcases symbolP_ways h with ⟨h0,_,rfl,rfl⟩ | ⟨_,h0,_⟩
 · have d:=(findI_lo (fun t=>decide (t=s)) a.nons).2
   have f:a.non s=findI (fun t=>decide (t=s)) a.nons:=rfl
   exact ⟨rfl,rfl,rfl,by omega,by omega⟩
 · exact termP_keep h0 h1
theorem rightsP_step {G:Gr} {l:List ByteArray} {k:Nat} {b:List Int} {pr:Int} {R:Gr × List Int × Int} {s:ByteArray} (h:rightsP G (l.drop k) b pr=some R) (f:l[k]? = some s) :
 namedB s=true∧b.length ≠ 6∧∃ x a,symbolP true G s=some (x,a)∧rightsP a (l.drop (k+1)) (b++[x]) (if 0≤x then x else pr)=some R:=by
 rw [drop_get f] at h
 unfold rightsP at h
 by_cases h1:namedB s=true
 · rw [if_neg (by simp [h1])] at h
   split at h
   · cases h
   · rename_i c
     refine ⟨h1,c,?_⟩
     split at h
     · cases h
     · rename_i x a d
       exact ⟨x,a,d,h⟩
 · rw [if_pos (by simpa using h1)] at h
   cases h
theorem own_unique {w:World} {base base' e j size:Nat} {v:Value} {n:Nat} {xs ys:List Value} (h:w.ownsRow base e size v n xs) (f:w.ownsRow base' j size v n ys):xs=ys:=by
 have b:=h.1
 have c:=f.1
 rcases h.2 with ⟨_,rfl⟩ | ⟨g,cap,q,o,_,k,_,_,_,l⟩
 · simp at b c
   rw [b,c]
 · rcases f.2 with ⟨d,rfl⟩ | ⟨s,p,r,d,_,a,_,_,_,m⟩
   · simp at b c
     rw [b,c]
   · rw [o] at d
     injection d with h1 h2 h3
     injection h1 with h1
     injection h1 with h1
     subst h1
     rw [k] at a
     injection a with a
     injection a with hg1 hg2 hg3
     rw [← l,← m,hg1]
theorem right_more {w d x l:World} {p q j t g m:Nat} {h k:GH} {y:Gr} {f s:Option Addr} {u:List Int} {C:Int} {P:Array Value} (A:Wk d p w.heap.size k y) (n:Turn w d p h k)
 (I:d.ownsRow m 3 1 (.slice f j g) j (ints .i64 u)) (B:∀ b,(Value.slice f j g).ownBlock=some b→¬ foot p k b) (F:¬ foot p k q) (O:w.heap.size < q) (N:q < m) (M:m≤d.heap.size)
 (z:Blk d w.heap.size 199 P) (J:x.ownsRow m 3 1 (.slice s (j+1) t) (j+1) (ints .i64 u++[.int .i64 C])) (r:d.grownBy x (Value.slice f j g).ownBlock)
 (E:∀ b,(Value.slice s (j+1) t).ownBlock=some b→b < d.heap.size→(Value.slice f j g).ownBlock=some b) (o:x.grownBy l (some q)) :
 Wk l p w.heap.size k y∧Turn w l p h k∧l.ownsRow m 3 1 (.slice s (j+1) t) (j+1) (ints .i64 (u++[C]))∧(∀ b,(Value.slice s (j+1) t).ownBlock=some b→¬ foot p k b)∧Blk l w.heap.size 199 P∧d.heap.size≤l.heap.size:=by
 have R:=r.size
 have S:=o.size
 have T:=n.size
 have L:∀ b,(Value.slice f j g).ownBlock=some b→m≤b∧b < d.heap.size:=fun b c=>I.lt b c
 have key:∀ b,b < d.heap.size→b ≠ q→(Value.slice f j g).ownBlock ≠ some b→l.heap[b]? = d.heap[b]? := fun b c h1 D =>
  (o.block b (by omega) (by intro e;injection e with e;exact h1 e)).trans (r.block b c fun e=>D e.symm)
 have v:∀ b,b≤w.heap.size→(Value.slice f j g).ownBlock ≠ some b:=fun b c e=>by have:=(L b e).1;omega
 refine ⟨A.away (by omega) fun b c a=>key b c ?_ ?_,⟨o.os.trans (r.os.trans n.os),o.tape.trans (r.tape.trans n.tape),o.output.trans (r.output.trans n.output),by omega,fun b c H=>?_,n.back⟩,?_,fun b c a=>?_,?_,by omega⟩
 · rcases a with a | a
   · intro e;rw [e] at a;exact F a
   · omega
 · rcases a with a | a
   · intro e;exact B b e a
   · exact v b (by omega)
 · rw [key b (by omega) (by omega) (v b (by omega)),n.keep b c H]
 · rw [ints_snoc]
   exact own_kept J fun b c _ G=>o.block b G (by intro e;injection e with e;omega)
 · have:=A.foot_lt a
   exact B b (E b c this) a
 · exact (key _ z.lt (by omega) (v _ (Nat.le_refl _))).trans z
structure Begun (W wx:World) (g:Nat) (n:Int):Prop where
 lo:W.heap.size≤g
 blk:Blk wx g 52 #[.int .i64 n, .slice none 0 0, .int .i64 (-1)]
 bel:Below W.heap.size W wx
theorem Begun.late {W a:World} {n:Int} (b:Below W.heap.size W a):Begun W (a.alloc (.cells #[.int .i64 n, .slice none 0 0, .int .i64 (-1)] 52)) a.heap.size n :=
 ⟨b.size,Blk.new _ _ _,below_alloc b _⟩
theorem Begun.early {W a:World} {n:Int} {o:Obj} (c:Below (W.alloc o).drew.heap.size (W.alloc o).drew a) (b:Blk a W.heap.size 52 #[.int .i64 0, .slice none 0 0, .int .i64 0]) :
 Begun W (((a.setCell ⟨W.heap.size,0,none⟩ (.int .i64 n)).setCell ⟨W.heap.size,1,none⟩ (.slice none 0 0)).setCell ⟨W.heap.size,2,none⟩ (.int .i64 (-1))) W.heap.size n:=by
 have h1:Below W.heap.size W a:=below_tail ((alloc_below W o).drew) c
 exact ⟨Nat.le_refl _,((b.set 0 (.int .i64 n)).set 1 (.slice none 0 0)).set 2 (.int .i64 (-1)),below_set (below_set (below_set h1 _ _ _ (Nat.le_refl _)) _ _ _ (Nat.le_refl _)) _ _ _ (Nat.le_refl _)⟩
theorem wk_prod (p:Nat) {B:Nat} (h:GH) (G G':Gr) (q:Prd) (Ar:Option Addr) (cr x y x' y':Nat) (w:World) (k:Wk w p B h G) (hB:B≤w.heap.size) (hR:∀ w',Below p w w'→Rfs w' Ar q.right.length cr q.right) (hn:q.right.length≤4000) (A:prodP G q=some G') :
 Calls Tryz.prog 140 #[.pointer (some ⟨p,0,none⟩), .agg #[.string q.left, .complex .f64 x y, .slice Ar q.right.length cr, .string q.prec, .complex .f64 x' y']] w fun e w'=>e = .returned (.tuple #[])∧∃ h',Wk w' p w'.heap.size h' G'∧Turn w w' p h h':=by
 have gk:=(hR w (Below.refl _ _)).1
 have hx:=(hR w (Below.refl _ _)).2.1
 have hy:=(hR w (Below.refl _ _)).2.2.1
 obtain ⟨cw,U,l,a6,qr,qG⟩:G.rules.length ≠ 40∧∃ U l a6,rightsP G q.right [] (-1)=some (U,l,a6) ∧
  ((q.prec=⟨#[]⟩∧G'={ U with rules:=U.rules++[⟨G.non q.left,l,a6⟩] })∨(q.prec ≠ ⟨#[]⟩∧namedB q.prec=true∧∃ d E,symbolP false U q.prec=some (d,E)∧G'={ E with rules:=E.rules++[⟨G.non q.left,l,d⟩] })):=by
  unfold prodP at A
  split at A
  · cases A
  · rename_i f4
    split at A
    · cases A
    · rename_i U l pr hr
      refine ⟨f4,U,l,pr,hr,?_⟩
      split at A
      · rename_i hp
        injection A with A
        exact .inl ⟨hp,A.symm⟩
      · rename_i hp
        split at A
        · cases A
        · rename_i au
          split at A
          · cases A
          · rename_i d E bc
            injection A with A
            exact .inr ⟨hp,by simpa using au,d,E,bc,A.symm⟩
 obtain ⟨a1,n1,c1,a2,n2,c2,a3,n3,c3⟩:=h
 obtain ⟨l1,l2,l3⟩:=k.lens
 simp only [] at l1 l2 l3
 have ja:n1≤24:=k.b1
 have jb:n2≤16:=k.b2
 have an:=k.st
 have cl:=findI_lo (fun t=>decide (t=q.left)) G.nons
 have jd:-1≤G.non q.left∧G.non q.left < (n2:Int):=by rw [← l2];exact cl
 have cg:=alloc_below w (.cells #[.string q.left, .complex .f64 x y, .slice Ar q.right.length cr, .string q.prec, .complex .f64 x' y'] 199)
 have bm:=Blk.new w 199 #[.string q.left, .complex .f64 x y, .slice Ar q.right.length cr, .string q.prec, .complex .f64 x' y']
 have bo:=(k.mono hB).below cg
 have HR:=LH hR
 have Hk:=LH k
 have hg:=LH qr
 have fv:=LH qG
 have ht:((n3:Int) == 40)=false:=by rw [beq_eq_false_iff_ne];rw [l3] at cw;omega
 have jc:n3 < 40:=by have:n3≤40:=k.b3;rw [l3] at cw;omega
 have f9:Hid (rightsP G (q.right.drop 0) [] (-1)=some (U,l,a6)):=LH qr
 have dl:(Tryz.prog.info? 3).map (fun i=>(i.zero,i.size,i.bytes))=some (some (.int .i64 0),1,8):=by kernel_rfl
 have dk:(Tryz.prog.info? 52).map (fun i=>(i.zero,i.size,i.bytes))=some (some (.agg #[.int .i64 0, .slice none 0 0, .int .i64 0]),3,40):=by kernel_rfl
 have fp:=LH dl
 have fo:=LH dk
 have jl:∀ (w:World) (a:Addr) (k:FloatKind) (x y:Nat) (m:Mode),(store a (.complex k x y) m).run Tryz.prog w=stored Tryz.prog w a (.complex k x y) m:=fun w a k x y m=>run_store Tryz.prog w a _ m rfl
 clear k hR qr qG A cw dl dk cl gk
 generalize hN:q.right.length=N at *
 generalize q.left=L at *
 generalize q.prec=PR at *
 go_enter Tryz.func140,Tryz.ntmps140
 go_wp2_with fail
 generalize gc:w.alloc (.cells #[.string L, .complex .f64 x y, .slice Ar N cr, .string PR, .complex .f64 x' y'] 199)=F at *
 have h8:w.heap.size < F.heap.size:=bm.lt
 obtain ⟨hp,z0,z1,z2,z3,z7,g7,v0,v1,v2⟩:=bo.cells
 have y0:F.cell? ⟨w.heap.size,0,none⟩=some (.string L):=bm.cell 0
 simp only [] at z0 z1 z2
 have S:=fun (W:World) (hW:Below F.heap.size F W)=>rf_non ⟨a1,n1,c1,a2,n2,c2,a3,n3,c3⟩ G L W (bo.grAt.below hW) (by simp only [];omega)
 rw [an] at S
 have CN:=LH S
 have c8:=LH bo
 have fl:=LH bm
 have fe:=LH cg
 generalize je:G.non L=I at *
 have an:=LH an
 have h5:=LH l1
 have h7:=LH l2
 have gi:=LH l3
 clear S bo bm gc cg l1 l2 l3
 go_upto_region 1 with fail
 go_cut [4] (fun v wx=>∃ c,v = .pointer (some ⟨c,0,none⟩)∧Begun F wx c I)
 case first =>
  have hA:=LH ((Below.refl F.heap.size F).drew)
  have f7:=LH ((alloc_below F (.cells #[.int .i64 0, .slice none 0 0, .int .i64 0] 52)).drew)
  go_region_with (first
   | (go_at_call 120;refine (CN.out _ (by exact hA.out)).mono ?_;rintro e w2 ⟨rfl,al⟩)
   | (go_at_call 120;refine (CN.out _ (by exact f7.out)).mono ?_;rintro e w2 ⟨rfl,al⟩
      have am:Blk w2 F.heap.size 52 #[.int .i64 0, .slice none 0 0, .int .i64 0]:=Blk.ext (Blk.drew (Blk.new F _ _)) al
      have r0:=am.frozen 0
      have r1:=am.frozen 1
      have r2:=am.frozen 2
      have s0:w2.cell? ⟨F.heap.size,0,none⟩=some (.int .i64 0):=am.cell 0
      have s1:w2.cell? ⟨F.heap.size,1,none⟩=some (.slice none 0 0):=am.cell 1
      have s2:w2.cell? ⟨F.heap.size,2,none⟩=some (.int .i64 0):=am.cell 2
      have fj:=LH am
      clear am))
  all_goals
   go_wp2_with fail
   go_meet
   first
    | exact ⟨_,rfl,Begun.late (below_tail ((Below.refl F.heap.size F).drew) al)⟩
    | exact ⟨_,rfl,Begun.early al fj.out⟩
 case rest =>
  obtain ⟨c,rfl,hM⟩:=hcut
  have ck:=c8.out.below hM.bel
  have cj:=fl.out.ext hM.bel
  have ch:=hM.blk
  have cl:=hM.lo
  have dx:¬ foot p ⟨a1,n1,c1,a2,n2,c2,a3,n3,c3⟩ c:=fun hf=>by have:=c8.out.foot_lt hf;omega
  have dw:¬ foot p ⟨a1,n1,c1,a2,n2,c2,a3,n3,c3⟩ w.heap.size:=fun hf=>by have:=Hk.out.foot_lt hf;omega
  have dg:=Turn.of_below (below_tail fe.out hM.bel) p ⟨a1,n1,c1,a2,n2,c2,a3,n3,c3⟩
  have gf:c < wc.heap.size:=ch.lt
  have ge:w.heap.size < wc.heap.size:=cj.lt
  obtain ⟨jf,dt,du,dv,gz,g0,gy,_,_,_⟩:=ck.cells
  simp only [] at dt du dv
  have fq:=LH ck
  have fm:=LH cj
  have fk:=LH ch
  have fs:=LH dx
  have fr:=LH dw
  have fg:=LH dg
  have jg:p < w.heap.size:=Hk.out.lt
  clear ck cj ch dx dw dg hM z0 z1 z2 z3 z7 g7 v0 v1 v2 y0 CN
  go_wp2_with fail
  go_loopw [5] (fun v wr=>∃ (j:Nat) (D:GH) (E:Gr) (H:List Int) (pr:Int) (g:Option Addr) (n:Nat),v = .int .i64 (j:Int)∧j≤N∧wc.heap.size≤wr.heap.size∧Hid (Wk wr p w.heap.size D E)∧Hid (rightsP E (q.right.drop j) H pr=some (U,l,a6))∧Hid (Turn w wr p ⟨a1,n1,c1,a2,n2,c2,a3,n3,c3⟩ D) ∧
   Hid (Blk wr c 52 #[.int .i64 I, .slice g j n, .int .i64 pr])∧Hid (wr.ownsRow wc.heap.size 3 1 (.slice g j n) j (ints .i64 H))∧Hid (∀ b,(Value.slice g j n).ownBlock=some b→¬ foot p D b)∧Hid (H.length=j)∧Hid (∀ s ∈ H,-17≤s∧s≤24) ∧
   Hid (E.rules=G.rules)∧Hid (¬ foot p D c)∧Hid (¬ foot p D w.heap.size)∧Hid (Blk wr w.heap.size 199 #[.string L, .complex .f64 x y, .slice Ar N cr, .string PR, .complex .f64 x' y'])) (fun v _=>N - (intOf v).toNat)
  case atStart=>exact ⟨0,_,G,[],-1,none,0,rfl,Nat.zero_le _,Nat.le_refl _,fq,f9,fg,fk,LH (World.ownsRow_nil _ _ _ _),LH (fun b f=>by cases f),LH rfl,LH (fun s hs=>by cases hs),LH rfl,fs,fr,fm⟩
  case round =>
   clear dt du dv gz g0 gy
   obtain ⟨j,D,E,H,pr,g,n,rfl,hj,a5,o,dc,HT,z,P,ab,a7,c6,ak,ay,bk,ai⟩:=hrel
   obtain ⟨b1,b2,b3⟩:∃ d1 d2 d3:Nat,D.n1=d1∧D.n2=d2∧D.n3=d3:=⟨_,_,_,rfl,rfl,rfl⟩
   obtain ⟨gn,t0,t1,t2,t3,t7,cy,f0,f1,f2⟩:=o.out.cells
   have r0:wr.cell? ⟨c,0,none⟩=some (.int .i64 I):=z.out.cell 0
   have r1:wr.cell? ⟨c,1,none⟩=some (.slice g j n):=z.out.cell 1
   have r2:wr.cell? ⟨c,2,none⟩=some (.int .i64 pr):=z.out.cell 2
   have o2:wr.cell? ⟨w.heap.size,2,none⟩=some (.slice Ar N cr):=ai.out.cell 2
   have o3:wr.cell? ⟨w.heap.size,3,none⟩=some (.string PR):=ai.out.cell 3
   have o4:wr.cell? ⟨w.heap.size,4,none⟩=some (.complex .f64 x' y'):=ai.out.cell 4
   have o5:=ai.out.lt
   have o6:=z.out.lt
   have o7:=z.out.frozen 2
   by_cases gg:j < N
   case neg =>
    have gh:j=N:=by omega
    subst gh
    have bn:U=E∧l=H∧a6=pr:=by
     have:=dc.out
     rw [List.drop_eq_nil_of_le (by omega)] at this
     unfold rightsP at this
     injection this with this
     simp only [Prod.mk.injEq] at this
     exact ⟨this.1.symm,this.2.1.symm,this.2.2.symm⟩
    have aj:=fv.out
    rw [bn.1,bn.2.1,bn.2.2] at aj
    clear bn
    have di:∃ (r:World) (J:GH) (Z:Gr) (X:Int),True:=⟨wr,D,E,pr,trivial⟩
    rcases aj with ⟨rfl,aj⟩ | ⟨dp,au,d,Z,bc,aj⟩
    case' inl =>
     have db:=LH aj
     have ca:=ak
     have bx:=HT
     have b5:=o
     have bz:=z
     have b8:=P
     have b6:=ab
     have cb:Hid (wc.heap.size≤wr.heap.size):=LH a5
     clear aj di
     go_upto_region 20 with fail
     clear r0 r1 r2 o2 o3 o4 o5 o6 o7 t0 t1 t2 t3 t7 cy f0 f1 f2 a5
     clear HT o z P ab ak ai bk ay
     generalize D=h9 at *
     generalize E=G9 at *
     generalize pr=X at *
     generalize wr=r at *
    case' inr =>
     have S:=fun W=>rf_named PR W
     rw [au] at S
     have CN:=LH S
     have CS:=LH (wk_symbol p D E Z d PR false x' y' wr o.out bc)
     have aq:=symbolP_keep bc (by rw [o.out.lens.1];exact o.out.b1) (by rw [o.out.lens.2.1];exact o.out.b2)
     have ca:Hid (Z.rules=G.rules):=LH (aq.2.1.trans ak.out)
     have db:=LH aj
     have gr:(PR.toList == [])=false:=by
      have h0:(⟨#[]⟩:ByteArray).toList=[]:=by
       unfold ByteArray.toList ByteArray.toList.loop;rfl
      have h1:=toList_beq PR ⟨#[]⟩
      rw [h0,decide_eq_false dp] at h1
      exact h1
     clear aj di dp au bc S aq
     go_upto_region 20 with (first
      | (go_at_call 116;(with_reducible refine (CN.out _).mono ?_);rintro e w2 ⟨rfl,rfl⟩)
      | (go_at_call 194;(with_reducible refine CS.out.mono ?_);rintro e C ⟨rfl,J,ba,ad⟩
         have ae:=ad.blk z.out ay.out
         have i2:C.cell? ⟨c,2,none⟩=some (.int .i64 pr):=ae.cell 2
         have i3:=ae.frozen 2
         have i4:=ae.lt
         have bj:=LH ba
         have M:=LH ad
         have bi:=LH ae
         clear ae ba ad))
     have a4:¬ foot p J c:=M.out.nf z.out.lt ay.out
     have cp:=M.out.size
     have hz:w.heap.size < c:=by omega
     have an:∀ b,b ≠ c→(C.setCell ⟨c,2,none⟩ (.int .i64 d)).heap[b]? = C.heap[b]? := fun b f=>Below.heap_setCell C ⟨c,2,none⟩ _ b f
     have dr:C.heap.size=(C.setCell ⟨c,2,none⟩ (.int .i64 d)).heap.size:=by simp
     have b5:Hid (Wk (C.setCell ⟨c,2,none⟩ (.int .i64 d)) p w.heap.size J Z):=LH (bj.out.away (by omega) fun b f hf=>an b fun e=>by
      rcases hf with hf | hf
      · rw [e] at hf;exact a4 hf
      · omega)
     have bx:Hid (Turn w (C.setCell ⟨c,2,none⟩ (.int .i64 d)) p ⟨a1,n1,c1,a2,n2,c2,a3,n3,c3⟩ J):=LH (by
      have hT:=HT.out.trans M.out
      exact ⟨hT.os,hT.tape,hT.output,Nat.le_trans hT.size (Nat.le_of_eq dr),fun b f hn=>(an b (by omega)).trans (hT.keep b f hn),hT.back⟩)
     have bz:Hid (Blk (C.setCell ⟨c,2,none⟩ (.int .i64 d)) c 52 #[.int .i64 I, .slice g j n, .int .i64 d]):=LH (bi.out.set 2 _)
     have b8:Hid ((C.setCell ⟨c,2,none⟩ (.int .i64 d)).ownsRow wc.heap.size 3 1 (.slice g j n) j (ints .i64 H)):=LH (own_keep (own_keep P.out fun b f ar=>M.out.keep b ar (ab.out b f)) fun b f ar=>an b (by have:=(P.out.lt b f).1;omega))
     have b6:Hid (∀ b,(Value.slice g j n).ownBlock=some b→¬ foot p J b):=LH fun b f=>M.out.nf (P.out.lt b f).2 (ab.out b f)
     have cb:Hid (wc.heap.size≤(C.setCell ⟨c,2,none⟩ (.int .i64 d)).heap.size):=LH (by omega)
     clear r0 r1 r2 o2 o3 o4 o5 o6 o7 t0 t1 t2 t3 t7 cy f0 f1 f2 a5 i2 i3 i4 a4 cp an dr CN CS bj M bi
     clear HT o z P ab ak ai bk ay gr
     generalize C.setCell ⟨c,2,none⟩ (.int .i64 d)=r at *
     generalize J=h9 at *
     generalize Z=G9 at *
     generalize d=X at *
    all_goals
     have o:=b5
     have HT:=bx
     have z:=bz
     have P:=b8
     have ab:=b6
     have ak:=ca
     have a5:=cb.out
     clear b5 bx bz b8 b6 ca cb
     obtain ⟨gn,t0,t1,t2,t3,t7,cy,f0,f1,f2⟩:=o.out.cells
     have r0:r.cell? ⟨c,0,none⟩=some (.int .i64 I):=z.out.cell 0
     have r1:r.cell? ⟨c,1,none⟩=some (.slice g j n):=z.out.cell 1
     have r2:r.cell? ⟨c,2,none⟩=some (.int .i64 X):=z.out.cell 2
     have r3:=z.out.lt
     obtain ⟨hc,m1,jj,hd,m2,jk,bw,m3,cu⟩:=h9
     obtain ⟨cs,cf,dh⟩:=o.out.r3
     have gl:m3 < 40:=by
      have h1:=o.out.lens.2.2
      have D:=ak.out
      have J:=gi.out
      simp only [] at h1
      rw [D] at h1
      omega
     have he:=LH dh
     have fd:=LH cf
     have da:Hid ((r.drew.alloc (.cells #[.int .i64 I, .slice g j n, .int .i64 X] 52)).ownsRow (p+1) 52 3 (.slice bw m3 cu) m3 cs):=LH (own_keepB cf ((Below.refl r.heap.size r).drew.alloc (Nat.le_refl _) _))
     have bl:Below r.heap.size r (r.drew.alloc (.cells #[.int .i64 I, .slice g j n, .int .i64 X] 52)):=(Below.refl r.heap.size r).drew.alloc (Nat.le_refl _) _
     have fi:=LH (o.out.blk.ext bl)
     have c5:=LH bl
     have gj:p+1≤(r.drew.alloc (.cells #[.int .i64 I, .slice g j n, .int .i64 X] 52)).heap.size:=by have:=bl.size;omega
     simp only [] at t0 t1 t2
     clear bl cf dh
     go_wp2_with fail
     go_region_law (first
      | (refine step_appendM rfl _ _ 24 rfl (p+1) 52 _ 3 40 Tryz.underlying24 fo.out (by decide) (by decide) bw m3 cu cs (by simp [Act.eval,Act.put]) (by exact da.out) ⟨r.heap.size,0,none⟩ 1 1 [.int .i64 I, .slice g j n, .int .i64 X] rfl (by simp [Act.eval,Act.put]) (by exact laid_cells r.drew [.int .i64 I, .slice g j n, .int .i64 X] _) (by simp [Value.oneCell']) (by omega) (by omega) (by exact gj) ?_;intro O R Y ho ap ha
         have V:=fi.out.grown ap (by intro e;have:=(da.out.lt p e.symm).1;omega)
         have i1:Y.cell? ⟨p,2,none⟩=some (.slice bw m3 cu):=V.cell 2
         have i2:=V.frozen 2
         have b9:=LH (o.out.put3 r.heap.size (Nat.le_trans (Nat.le_of_lt ge) a5) ⟨I,H,X⟩ (fun s hs=>by have:=c6.out s hs;unfold InI64;omega) gl O R g n
          (by show Ints .i64 r g H.length n H;rw [a7.out];exact own_sl P.out)
          (fun b g1 f=>by have h1:=P.out.lt b (by rw [f];rfl);exact ⟨h1.2,ab.out b (by rw [f];rfl),h1.2,by omega⟩)
          (fun hl h1 _=>by rw [own_unique h1 fd.out];show Y.ownsRow _ _ _ _ _ (cs++[.int .i64 I, .slice g H.length n, .int .i64 X]);rw [a7.out];exact ho)
          (grown_trans (grown_below _ c5.out) ap) (fun b f ar=>ha b f (Nat.lt_of_lt_of_le ar c5.out.size)))
         clear V ho ap ha))
     all_goals
      go_wp2_with fail
      (try simp only [Exit.inBlock,Exit.then])
      refine bodyPost_end (results_none rfl _ _ _) rfl ?_
      exact ⟨rfl,_,by rw [db.out];exact b9.out.1.mono b9.out.2.size,HT.out.trans b9.out.2⟩
   case pos =>
    obtain ⟨b,g1,s,xs,ys,rfl,f,Hs,q0,q1⟩:=(HR.out wr (HT.out.below Hk.out)).get gg
    obtain ⟨au,h6,d,Z,cq,dq⟩:=rightsP_step dc.out Hs.out
    have al:=alloc_below wr (.cells #[.string s, .complex .f64 xs ys] 191)
    have CS:=LH (wk_symbol p D E Z d s true xs ys _ (o.out.below al) cq)
    have S:=fun w=>rf_named s w
    rw [au] at S
    have CN:=LH S
    have hv:((j:Int) == 6)=false:=by rw [beq_eq_false_iff_ne];rw [a7.out] at h6;omega
    have aq:=symbolP_keep cq (by rw [o.out.lens.1];exact o.out.b1) (by rw [o.out.lens.2.1];exact o.out.b2)
    have c9:=LH aq
    have fw:=LH dq
    have aa:=LH al
    have gt:=aq.2.2.2.1
    have gu:=aq.2.2.2.2
    have gv:(0≤d∧(if 0≤d then d else pr)=d)∨(¬ 0≤d∧(if 0≤d then d else pr)=pr):=by
     by_cases h0:0≤d
     · exact .inl ⟨h0,if_pos h0⟩
     · exact .inr ⟨h0,if_neg h0⟩
    clear au h6 cq dq S aq al
    rcases gv with ⟨gs,cm⟩ | ⟨gs,cm⟩
    all_goals
     have fu:=LH cm
     clear cm
     go_wp2_with (first
      | (go_at_call 116;(with_reducible refine (CN.out _).mono ?_);rintro e w2 ⟨rfl,rfl⟩)
      | (go_at_call 194;(with_reducible refine CS.out.mono ?_);rintro e C ⟨rfl,J,ba,ad⟩
         have ae:=ad.blk (z.out.ext aa.out) ay.out
         have i1:C.cell? ⟨c,1,none⟩=some (.slice g j n):=ae.cell 1
         have cp:wr.heap.size≤C.heap.size:=Nat.le_trans aa.out.size ad.size
         have gq:wc.heap.size≤C.heap.size:=Nat.le_trans a5 cp
         have b7:Hid (C.ownsRow wc.heap.size 3 1 (.slice g j n) j (ints .i64 H)):=LH (own_keep P.out fun b f ar=>(ad.keep b (Nat.lt_of_lt_of_le ar aa.out.size) (ab.out b f)).trans (aa.out.block b ar))
         have bi:=LH ae
         have bj:=LH ba
         have M:=LH ad
         clear ae ba ad)
      | (at_builtin;refine wpl_appendT rfl _ _ 27 rfl wc.heap.size 3 _ 1 8 Tryz.underlying27 fp.out (by decide) (by decide) g j n (ints .i64 H) rfl b7.out [.int .i64 d] rfl rfl (by simp [Value.oneCell']) (by omega) (by omega) (by omega) ?_;intro O R Y ho ap ha
         have V:=bi.out.grown ap (by intro e;have:=(b7.out.lt c e.symm).1;omega)
         have i2:Y.cell? ⟨c,1,none⟩=some (.slice g j n):=V.cell 1
         have i3:Y.cell? ⟨c,2,none⟩=some (.int .i64 pr):=V.cell 2
         have j1:=V.frozen 1
         have j2:=V.frozen 2
         have c7:=LH V
         have ft:=LH ho
         have fn:=LH ap
         have fh:=LH ha
         clear V ho ap ha))
     have ga:=(HT.out.trans (Turn.of_below aa.out p D)).trans M.out
     have gm:∀ b,(Value.slice g j n).ownBlock=some b→¬ foot p J b:=fun b f=>M.out.nf (Nat.lt_of_lt_of_le (P.out.lt b f).2 aa.out.size) (ab.out b f)
     have a4:¬ foot p J c:=M.out.nf (Nat.lt_of_lt_of_le z.out.lt aa.out.size) ay.out
     have dj:¬ foot p J w.heap.size:=M.out.nf (Nat.lt_of_lt_of_le ai.out.lt aa.out.size) bk.out
     have f8:=M.out.blk (ai.out.ext aa.out) bk.out
     have dm:∀ w6,Y.grownBy w6 (some c)→_:=fun w6 gd=>right_more bj.out ga b7.out gm a4 (by omega) gf gq f8 ft.out fn.out fh.out gd
     have cn:=fw.out
     rw [fu.out] at cn
     first
      | (have T:=dm _ (grown_set Y c 1 (.slice O (j+1) R))
         have ci:Blk (Y.setCell ⟨c,1,none⟩ (.slice O (j+1) R)) c 52 #[.int .i64 I, .slice O (j+1) R, .int .i64 pr]:=c7.out.set 1 _
         refine ⟨⟨j+1,J,Z,H++[d],pr,O,R,by go_num,by omega,by omega,LH T.1,LH cn,LH T.2.1,LH ci,LH T.2.2.1,LH T.2.2.2.1,LH (by rw [List.length_append,a7.out];rfl),LH ?_,LH (c9.out.2.1.trans ak.out),LH a4,LH dj,LH T.2.2.2.2.1⟩,?_⟩)
      | (have T:=dm _ (grown_trans (grown_set Y c 1 (.slice O (j+1) R)) (grown_set _ c 2 (.int .i64 d)))
         have ci:Blk ((Y.setCell ⟨c,1,none⟩ (.slice O (j+1) R)).setCell ⟨c,2,none⟩ (.int .i64 d)) c 52 #[.int .i64 I, .slice O (j+1) R, .int .i64 d]:=(c7.out.set 1 (.slice O (j+1) R)).set 2 (.int .i64 d)
         refine ⟨⟨j+1,J,Z,H++[d],d,O,R,by go_num,by omega,by omega,LH T.1,LH cn,LH T.2.1,LH ci,LH T.2.2.1,LH T.2.2.2.1,LH (by rw [List.length_append,a7.out];rfl),LH ?_,LH (c9.out.2.1.trans ak.out),LH a4,LH dj,LH T.2.2.2.2.1⟩,?_⟩)
     · intro u hu
       rcases List.mem_append.1 hu with hu | hu
       · exact c6.out u hu
       · rw [List.mem_singleton.1 hu];exact ⟨gt,gu⟩
     · simp [intOf];omega
end Go.Proofs.YtggbjdmpjidhgaaGreatDoor
