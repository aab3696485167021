/- the program's counter: tree, walked. -/
import Derived.Test.YtggbjdmpjidhgaaGreatDoorVQCtU1
import Derived.Test.YtggbjdmpjidhgaaGreatDoorVQCtW5
set_option linter.unusedVariables false
set_option linter.unusedSimpArgs false
set_option maxHeartbeats 8000000
set_option maxRecDepth 100000
namespace Go.Proofs.YtggbjdmpjidhgaaGreatDoor
open Go.RowKit
theorem rulesT_takeC {T:Int→Nat→Nat} {a:List Rul} {k:Nat} {r:Rul} (b:a[k]? = some r) (i n:Nat):rulesT T (a.take (k+1)) i n=rulesT T (a.take k) i n+(if r.left.toNat=i then forestT T r.right n else 0):=by
 rw [List.take_add_one,b]
 exact rulesT_snoc T _ r i n
theorem setCell_self {w:World} {g i:Nat} {t:TypeId} {cs:Array Value} {v:Value} (a:Blk w g t cs) (b:cs[i]? = some v):w.setCell ⟨g,i,none⟩ v=w:=by
 have e:(w.setCell ⟨g,i,none⟩ v).heap=w.heap:=by
  apply Array.ext_getElem?
  intro j
  by_cases c:j=g
  · subst c
    have h1:=a.set i v
    unfold Blk at h1 a
    rw [h1,a]
    have:cs.setIfInBounds i v=cs:=by
     apply Array.ext_getElem?
     intro q
     rw [Array.getElem?_setIfInBounds]
     split
     · rename_i d
       subst d
       rw [b]
       split
       · rfl
       · rename_i f
         rw [Array.getElem?_eq_none (by omega)] at b
         cases b
     · rfl
    rw [this]
  · exact Below.heap_setCell w ⟨g,i,none⟩ v j c
 have:w.setCell ⟨g,i,none⟩ v={ w with heap:=(w.setCell ⟨g,i,none⟩ v).heap }:=rfl
 rw [this,e]
theorem treeC_term {y:World} {k:CH} {h:GH} {G:Gr} {s:Int} {n:Nat} (h0:0≤s) (O:n≤100):TreeC y k h G s n:=by
 intro S w C D
 have f:=alloc_below w (.cells #[.slice none 0 0, .bool false] 77)
 have b:=Blk.new w 77 #[.slice none 0 0, .bool false]
 have j:=C.more f (Nat.le_refl w.heap.size)
 have l:Off k.maps w (w.alloc (.cells #[.slice none 0 0, .bool false] 77)):=Off.of_below f
 have E:=C.base.size
 go_enter Tryz.func155,Tryz.ntmps155
 go_upto_region 1 with fail
 generalize w.alloc (.cells #[.slice none 0 0, .bool false] 77)=d at *
 have t:=LH j
 have v:=LH b
 have u:=LH l
 have H:=b.lt
 have c0:d.cell? ⟨w.heap.size,0,none⟩=some (.slice none 0 0):=b.cell 0
 have c1:d.cell? ⟨w.heap.size,1,none⟩=some (.bool false):=b.cell 1
 have A:=b.frozen 0
 have B:=b.frozen 1
 have x:Hid (treeN G s n=oneT n):=LH (treeN_term G h0 n)
 clear j b l f C D
 go_wp2_with fail
 (with_reducible refine (tr_exactly n d (by omega)).mono ?_)
 rintro e g ⟨c,r,I,c3,z,rfl,o⟩
 have a:=v.out.ext c
 have m:=LH (cnt_store (S':=S) (t.out.below c) a o (u.out.maps_trans (Off.of_below c)) (.inr rfl) E (Nat.le_refl _) fun q F => .inl F)
 have J:g.cell? ⟨w.heap.size,0,none⟩=some (.slice none 0 0):=a.cell 0
 have L:g.cell? ⟨w.heap.size,1,none⟩=some (.bool false):=a.cell 1
 have M:=a.frozen 0
 have N:=a.frozen 1
 have P:=a.lt
 clear c0 c1 A B H a o c
 go_wp2_with fail
 refine bodyPost_ret (results_cell_row (p:=6) (by kernel_rfl) _ _ w.heap.size 77 #[.slice r I c3, .bool z] (0,0) _ rfl m.out.1 Tryz.underlying77 rfl (by kernel_rfl)) rfl ?_
 rw [x.out]
 exact m.out.2
theorem tr_tree {W0:World} {k:CH} {h:GH} {G:Gr} (hP:Plain G) (hg:GrAt W0 h G) (h2:h.n2≤100) (h3:h.n3≤100):∀ (M n:Nat) (s:Int),(s < 0→nonI s < G.nons.length∧mu G n s=M)→n≤100→TreeC W0 k h G s n:=by
 have e2:G.nons.length=h.n2:=hg.nons.len
 have e3:G.rules.length=h.n3:=hg.rules.len
 have k3:=hg.rules.cap
 have f8:(nullN G).length=h.n2:=by rw [nullN_grown,grownN_len];exact e2
 have hr:=hP.fits.n2
 intro M
 induction M using Nat.strongRecOn with
 | ind M ih =>
 intro n s hs hn
 by_cases h0:0≤s
 case pos=>exact treeC_term h0 hn
 case neg =>
  intro S w C hS
  have fb:=alloc_below w (.cells #[.slice none 0 0, .bool false] 77)
  have b2:=Blk.new w 77 #[.slice none 0 0, .bool false]
  have f7:=C.more fb (Nat.le_refl w.heap.size)
  have f9:Off k.maps w (w.alloc (.cells #[.slice none 0 0, .bool false] 77)):=Off.of_below fb
  have b3:=C.base.size
  have HS:=LH hS
  have HP:=LH hP
  have Hg:=LH hg
  have f3:=LH ih
  have gl:=LH f8
  clear hS hg ih f8
  go_enter Tryz.func155,Tryz.ntmps155
  go_upto_region 1 with fail
  generalize w.alloc (.cells #[.slice none 0 0, .bool false] 77)=W1 at *
  have bh:=LH f7
  have bp:=LH b2
  have ch:=LH f9
  have l1:=b2.lt
  have c0:W1.cell? ⟨w.heap.size,0,none⟩=some (.slice none 0 0):=b2.cell 0
  have c1:W1.cell? ⟨w.heap.size,1,none⟩=some (.bool false):=b2.cell 1
  have f0:=b2.frozen 0
  have f1:=b2.frozen 1
  clear f7 b2 f9 fb C
  have be:s < 0:=by omega
  obtain ⟨gf,ge⟩:=hs be
  obtain ⟨j,hj,dh,hw⟩:=non_place (s:=s) (n:=h.n2) be (by unfold nonI at gf;omega) (by omega)
  have gb:=BoolT.at bh.out.nul (i:=j) (by rw [gl.out];exact hj)
  obtain ⟨F,gj,_,gi,_,_⟩:=bh.out.cells
  have d5:Hid ((nullN G).getD j false=false→treeN G s 0=0):=LH fun hz=>by
   apply Classical.byContradiction
   intro fk
   have:=treeN_null HP.out fk
   unfold nulB at this
   rw [dh,hz] at this
   simp at this
  have f4:=LH ge
  have bd:=LH gf
  clear hs hP ge
  generalize (nullN G).getD j false=z at *
  by_cases hz:n=0∧z=false
  case pos =>
   obtain ⟨rfl,rfl⟩:=hz
   have cm:Hid (treeN G s 0=0):=LH (d5.out rfl)
   have gc:=LH (cnt_store (S':=S) bh.out bp.out (ValN.zero _ none 0 (by omega)) ch.out (.inr rfl) b3 (Nat.le_refl _) fun q hq => .inl hq)
   go_wp2_with fail
   refine bodyPost_ret (results_cell_row (p:=6) (by kernel_rfl) _ _ w.heap.size 77 #[.slice none 0 0, .bool false] (0,0) _ rfl gc.out.1 Tryz.underlying77 rfl (by kernel_rfl)) rfl ?_
   rw [cm.out]
   exact gc.out.2
  case neg =>
   have hm:Hid (∀ q:Nat,q≤h.n3→True):=LH fun _ _=>trivial
   rcases (by cases z <;> simp at hz <;> simp [hz] <;> omega:(n ≠ 0)∨(n=0∧z=true)) with hn0 | ⟨rfl,rfl⟩
   · have hu:((n:Int) == 0)=false:=by rw [beq_eq_false_iff_ne];omega
     clear hz d5 hn0
     go_upto_region 6 with fail
     have a6:=alloc_below W1 (.cells #[.int .i64 s, .int .i64 (n:Int)] 247)
     have an:=Blk.new W1 247 #[.int .i64 s, .int .i64 (n:Int)]
     have gw:w.heap.size < W1.heap.size:=bp.out.lt
     have af:=LH (bh.out.below a6)
     have bk:=LH (ch.out.maps_trans (Off.of_below a6))
     have br:=LH (bp.out.ext a6)
     clear c0 c1 f0 f1 l1 gb F gj gi a6 bp bh ch
     generalize W1.alloc (.cells #[.int .i64 s, .int .i64 (n:Int)] 247)=x at *
     generalize W1.heap.size=I at *
     have cf:=LH an
     obtain ⟨ts,ht⟩:=af.out.trees
     have J:=ht.look s n be (by have:=bd.out;omega) (by omega)
     unfold kT at J
     try simp only [Int.ofNat_zero,Int.natCast_zero] at J
     obtain ⟨F,_,_,_,a7,_⟩:=af.out.cells
     have y0:x.cell? ⟨I,0,none⟩=some (.int .i64 s):=an.cell 0
     have y1:x.cell? ⟨I,1,none⟩=some (.int .i64 (n:Int)):=an.cell 1
     have yl:=an.lt
     clear an ht
     rcases J with ⟨bv,J,hv⟩ | J
     · obtain ⟨Av,nv,cv,dv,dc,dj⟩:=hv
       have bc:=bl_cell x
       refine wp_region_below (by kernel_rfl) (by kernel_rfl) ?_
       repeat (go_big_quiet_step (fail))
       refine wpQuiet_nil ?_
       rintro _ ⟨y,rfl⟩
       have m:=bl_below x y
       have H:=br.out.ext m
       have a4:=dc.ext m
       have ag:=LH (cnt_store (S':=S) (af.out.below m) H (dj.below m) (bk.out.maps_trans (Off.of_below m)) (.inr rfl) b3 (Nat.le_refl _) fun q hq => .inl hq)
       have c0:(bl x y).cell? ⟨w.heap.size,0,none⟩=some (.slice none 0 0):=H.cell 0
       have c1:(bl x y).cell? ⟨w.heap.size,1,none⟩=some (.bool false):=H.cell 1
       have f0:=H.frozen 0
       have f1:=H.frozen 1
       have l5:=H.lt
       have v0:(bl x y).cell? ⟨bv,0,none⟩=some (.slice Av nv cv):=a4.cell 0
       have v1:(bl x y).cell? ⟨bv,1,none⟩=some (.bool dv):=a4.cell 1
       have l6:=a4.lt
       clear J dc dj bc m H a4 y0 y1 yl F a7
       generalize bl x y=W3 at *
       go_wp2_with fail
       refine bodyPost_ret (results_cell_row (p:=6) (by kernel_rfl) _ _ w.heap.size 77 #[.slice Av nv cv, .bool dv] (0,0) _ rfl ag.out.1 Tryz.underlying77 rfl (by kernel_rfl)) rfl ?_
       exact ag.out.2
     · have bc:=bl_cell x
       refine wp_region_below (by kernel_rfl) (by kernel_rfl) ?_
       repeat (go_big_quiet_step (fail))
       refine wpQuiet_nil ?_
       rintro _ ⟨y,rfl⟩
       have m:=bl_below x y
       have bi:=LH (af.out.below m)
       have ci:=LH (bk.out.maps_trans (Off.of_below m))
       have cl:=LH (br.out.ext m)
       have cg:=LH (cf.out.ext m)
       clear J bc m F a7 y0 y1 yl af bk br cf
       generalize bl x y=W3 at *
       obtain ⟨F,_,fs,_,_,_⟩:=bi.out.cells
       have gs:=k3
       go_wp2_with fail
       go_loopw [49] (fun i wr=>∃ (q:Nat) (f:Option Addr) (ns cs:Nat) (g:Bool),q≤h.n3∧i = .int .i64 (q:Int)∧Hid (CntAt W0 k h G (fun b=>S b∨b=w.heap.size) wr)∧Hid (Off k.maps w wr)∧Hid (Blk wr w.heap.size 77 #[.slice f ns cs, .bool g])∧Hid (Blk wr I 247 #[.int .i64 s, .int .i64 (n:Int)])∧Hid (ValN wr f ns cs g (rulesT (treeN G) (G.rules.take q) j n))) (fun i _=>h.n3 - (intOf i).toNat)
       case atStart=>exact ⟨0,none,0,0,false,Nat.zero_le _,rfl,bi,ci,cl,cg,LH (ValN.zero _ _ _ (by omega))⟩
       case round =>
        clear bi ci cl cg F fs
        obtain ⟨q,f,ns,cs,g,hq,rfl,L,HO,P,O,HV⟩:=hrel
        by_cases fm:q < h.n3
        case pos =>
         obtain ⟨Y,au,r,Ar,cr,ff,ap,Hr,q0,q1,q2,fo⟩:=Hg.out.rules.get fm
         have fj:=List.mem_of_getElem? Hr.out
         have am:=L.out.base
         have fn:Y < wr.heap.size:=Nat.lt_of_lt_of_le ap am.size
         have p0:=(am.cell (p:=⟨Y,au+q * 3,none⟩) ap).trans q0
         have p1:=(am.cell (p:=⟨Y,au+q * 3+1,none⟩) ap).trans q1
         have p2:=(am.cell (p:=⟨Y,au+q * 3+2,none⟩) ap).trans q2
         have U:=alloc_below wr (.cells #[.int .i64 r.left, .slice Ar r.right.length cr, .int .i64 r.prec] 52)
         have b1:=Blk.new wr 52 #[.int .i64 r.left, .slice Ar r.right.length cr, .int .i64 r.prec]
         have N:=LH (L.out.below U)
         have bm:=LH (HO.out.maps_trans (Off.of_below U))
         have R:=LH (P.out.ext U)
         have bj:=LH (O.out.ext U)
         have ck:=LH (HV.out.below U)
         have V:=rulesT_takeC (T:=treeN G) Hr.out j n
         have gx:=HP.out.fits.left r fj
         rw [ff]
         go_upto_region 12 with fail
         generalize wr.alloc (.cells #[.int .i64 r.left, .slice Ar r.right.length cr, .int .i64 r.prec] 52)=W4 at *
         have r0:W4.cell? ⟨wr.heap.size,0,none⟩=some (.int .i64 r.left):=b1.cell 0
         have rl:=b1.lt
         have gu:w.heap.size < wr.heap.size:=P.out.lt
         clear U b1 am p0 p1 p2 q0 q1 q2 ap fn fo L HO P O HV
         generalize wr.heap.size=gR at *
         by_cases ao:r.left=(j:Int)
         case neg =>
          have fk:(r.left == (j:Int))=false:=by rw [beq_eq_false_iff_ne];exact ao
          rw [if_neg (by omega),Nat.add_zero] at V
          have bw:=LH V
          clear V ao
          go_wp2_with fail
          go_roundw
          case rel=>exact ⟨q+1,f,ns,cs,g,by omega,by go_num,N,bm,R,bj,by rw [bw.out];exact ck⟩
          case measure=>simp [intOf] <;> omega
         case pos =>
          have fg:(r.left == (j:Int))=true:=by rw [beq_iff_eq];exact ao
          rw [if_pos (by omega)] at V
          have HR:=LH (tr_rule (k:=k) HP.out Hg.out h2 h3 (i:=q) (s0:=s) (n0:=n) Hr.out (by rw [dh,ao];rfl) f4.out (by omega) (fun q' m' fl gy=>by
           by_cases fa:0≤q'
           · exact treeC_term fa (by omega)
           · obtain ⟨a1,a2⟩:=fl (by omega)
             exact f3.out _ a2 m' q' (fun _=>⟨a1,rfl⟩) (by omega)) _ 0 n rfl (Nat.zero_le _) (Nat.le_refl _) (fun _ p sx d=>absurd d (Nat.not_lt_zero p)))
          have bw:=LH V
          clear V
          go_upto_region 13 with fail
          clear ao fg
          refine wp_region_grow1 (fun X=>MidC W0 k h G (fun b=>S b∨b=w.heap.size) W4 X) (fun X X'=>IntKeep X X') (fun u=>(⟨(Value.pointer (some ⟨k.c,0,none⟩)::Value.int IntKind.i64 s::Value.int IntKind.i64 (n:Int)::undef::undef::undef::Value.pointer (some ⟨w.heap.size,0,none⟩)::Value.pointer (some ⟨I,0,none⟩)::Value.pointer none::Value.int IntKind.i64 (q:Int)::Value.pointer (some ⟨gR,0,none⟩)::Value.int IntKind.i64 s::Value.bool false::undef::undef::Value.int IntKind.i64 (n:Int)::Value.bool false::Value.bool false::undef::undef::undef::undef::undef::undef::undef::undef::undef::Value.bool false::undef::Value.int IntKind.i64 s::Value.int IntKind.i64 (n:Int)::Value.agg #[Value.int IntKind.i64 s,Value.int IntKind.i64 (n:Int)]::Value.pointer (some ⟨k.c,0,none⟩)::Value.pointer (some ⟨k.c,0,none⟩)::Value.pointer (some ⟨k.c,5,none⟩)::Value.map (some k.t)::Value.agg #[Value.int IntKind.i64 s,Value.int IntKind.i64 (n:Int)]::Value.pointer none::Value.pointer none::Value.bool false::undef::undef::undef::Value.pointer (some ⟨k.c,0,none⟩)::Value.pointer (some ⟨k.c,0,none⟩)::Value.pointer (some ⟨k.c,0,none⟩)::Value.pointer (some ⟨k.c,2,none⟩)::Value.slice (some ⟨Y,au,none⟩) h.n3 h.c3::Value.int IntKind.i64 (h.n3:Int)::Value.int IntKind.i64 (q:Int)::Value.bool true::Value.int IntKind.i64 (q:Int)::Value.pointer (some ⟨Y,au+q * 3,none⟩)::Value.agg #[Value.int IntKind.i64 r.left,Value.slice Ar r.right.length cr,Value.int IntKind.i64 r.prec]::Value.pointer (some ⟨gR,0,none⟩)::Value.int IntKind.i64 (j:Int)::Value.int IntKind.i64 s::Value.int IntKind.i64 (j:Int)::Value.bool true::u 0::u 1::u 2::u 3::u 4::u 5::u 6::u66::undef::undef::undef::undef::undef::undef::[]).toArray,[]⟩:Act)) [u59,u60,u61,u62,u63,u64,u65] [fun v X=>v=Value.agg #[Value.slice f ns cs,Value.bool g],fun v X=>v=Value.pointer (some ⟨k.c,0,none⟩),fun v X=>v=Value.int .i64 (q:Int),fun v X=>v=Value.int .i64 (n:Int),fun v X=>v=Value.agg #[Value.int .i64 (q:Int),Value.int .i64 0,Value.int .i64 (n:Int)],fun v X=>∃ Aq nq cq bq,v=Value.agg #[Value.slice Aq nq cq,Value.bool bq]∧ValN X Aq nq cq bq (forestT (treeN G) r.right n),fun v X=>∃ Aq nq cq bq,v=Value.agg #[Value.slice Aq nq cq,Value.bool bq]∧ValN X Aq nq cq bq (rulesT (treeN G) (G.rules.take q) j n+forestT (treeN G) r.right n)] (fun u X=>∃ A9 n9 c9 d9,CntAt W0 k h G (fun b=>S b∨b=w.heap.size) X∧Off k.maps w X∧Blk X w.heap.size 77 #[Value.slice A9 n9 c9,Value.bool d9]∧Blk X I 247 #[Value.int .i64 s,Value.int .i64 (n:Int)]∧ValN X A9 n9 c9 d9 (rulesT (treeN G) (G.rules.take q) j n+forestT (treeN G) r.right n)) (l:=[_,_,_,_,_,_,_]) (by kernel_rfl) (by kernel_rfl) (by kernel_rfl) rfl rfl ⟨N.out.below (Below.refl _ _).drew,Off.of_below (Below.refl _ _).drew⟩ ⟨fun _ _ _ h _=>h,fun _ _ _ h _=>h,fun _ _ _ h _=>h,fun _ _ _ h _=>h,fun _ _ _ h _=>h,(fun _ _ _ ⟨A,n,c,b,e,h⟩ D=>⟨A,n,c,b,e,h.kept D⟩),(fun _ _ _ ⟨A,n,c,b,e,h⟩ D=>⟨A,n,c,b,e,h.kept D⟩),trivial⟩ ?_ ?_ ?_
          · refine StepsF.cons rfl (fun _ _=>rfl) (fun Q u X a d KK o=>?_) ?_
            · have B:=a.2.blk R.out (N.out.not_map R.out)
              have d7:X.cell? ⟨w.heap.size,0,none⟩=some (.slice f ns cs):=B.cell 0
              have d8:X.cell? ⟨w.heap.size,1,none⟩=some (.bool g):=B.cell 1
              have fr:=B.lt
              go_simp
              exact o _ _ a ⟨Nat.le_refl _,fun _ _ _=>rfl⟩ rfl
            refine StepsF.cons rfl (fun _ _=>rfl) (fun Q u X a d KK o=>?_) ?_
            · go_simp
              exact o _ _ a ⟨Nat.le_refl _,fun _ _ _=>rfl⟩ rfl
            refine StepsF.cons rfl (fun _ _=>rfl) (fun Q u X a d KK o=>?_) ?_
            · go_simp
              exact o _ _ a ⟨Nat.le_refl _,fun _ _ _=>rfl⟩ rfl
            refine StepsF.cons rfl (fun _ _=>rfl) (fun Q u X a d KK o=>?_) ?_
            · go_simp
              exact o _ _ a ⟨Nat.le_refl _,fun _ _ _=>rfl⟩ rfl
            refine StepsF.cons rfl (fun _ _=>rfl) (fun Q u X a d KK o=>?_) ?_
            · have p2:u 2=_:=d 2 rfl
              have p3:u 3=_:=d 3 rfl
              clear d
              generalize u 2=x2 at *
              subst p2
              generalize u 3=x3 at *
              subst p3
              go_simp
              exact o _ _ a ⟨Nat.le_refl _,fun _ _ _=>rfl⟩ rfl
            refine StepsF.cons rfl (fun _ _=>rfl) (fun Q u X a d KK o=>?_) ?_
            · have p1:u 1=_:=d 1 rfl
              have p4:u 4=_:=d 4 rfl
              clear d
              generalize u 1=x1 at *
              subst p1
              generalize u 4=x4 at *
              subst p4
              have fe:∀ b,(S b∨b=w.heap.size)→b < X.heap.size:=fun b D=>by
               rcases D with D | rfl
               · exact Nat.lt_of_lt_of_le (HS.out b D) (Nat.le_trans bm.out.size a.2.size)
               · exact Nat.lt_of_lt_of_le R.out.lt a.2.size
              have CO:=HR.out (fun b=>S b∨b=w.heap.size) X a.1 fe
              unfold kF at CO
              simp only [Int.ofNat_zero,Int.natCast_zero,List.drop_zero] at CO
              go_simp
              (with_reducible refine CO.mono ?_)
              rintro e w5 ⟨fc,db,A2,m2,c2,d2,rfl,b6⟩
              go_simp
              exact o _ _ (⟨fc,a.2.maps_trans db⟩) (a.1.keep db) ⟨A2,m2,c2,d2,rfl,b6⟩
            refine StepsF.cons rfl (fun _ _=>rfl) (fun Q u X a d KK o=>?_) ?_
            · have p0:u 0=_:=d 0 rfl
              obtain ⟨A2,m2,c2,d2,p5,b6⟩:=d 5 rfl
              clear d
              generalize u 0=x0 at *
              subst p0
              generalize u 5=x5 at *
              subst p5
              have fq:=ck.out.kept (N.out.keep a.2)
              go_simp
              (with_reducible refine (tr_plus f ns cs g _ A2 m2 c2 d2 _ X fq b6).mono ?_)
              rintro e w5 ⟨b0,A4,m4,c4,d4,rfl,b7⟩
              go_simp
              exact o _ _ (⟨a.1.below b0,a.2.maps_trans (Off.of_below b0)⟩) (IntKeep.of_below b0) ⟨A4,m4,c4,d4,rfl,b7⟩
            exact StepsF.nil
          · intro Q u X a d KK o
            obtain ⟨A4,m4,c4,d4,p6,b7⟩:=d 6 (by decide)
            clear d
            generalize u 6=x6 at *
            subst p6
            have B:=a.2.blk R.out (N.out.not_map R.out)
            have d7:X.cell? ⟨w.heap.size,0,none⟩=some (.slice f ns cs):=B.cell 0
            have d8:X.cell? ⟨w.heap.size,1,none⟩=some (.bool g):=B.cell 1
            have fr:=B.lt
            have gq:=B.frozen 0
            have gr:=B.frozen 1
            have da:=a.2.blk bj.out (N.out.not_map bj.out)
            have W:=a.1.store B (.inr rfl) b3 A4 m4 c4 d4
            have d1:=LH (And.intro W.1 (And.intro ((bm.out.maps_trans a.2).maps_new W.2.1 (Nat.le_refl _)) (And.intro W.2.2.2 (And.intro (W.2.1.blk da (fun e=>by omega)) (b7.kept W.2.2.1)))))
            clear W B da
            go_simp
            exact o (fun i=>([u 0,u 1,u 2,u 3,u 4,u 5,Value.agg #[Value.slice A4 m4 c4,Value.bool d4]]:List Value).getD i undef) _ (⟨A4,m4,c4,d4,d1.out⟩)
          intro u W9 fh
          obtain ⟨A9,n9,c9,d9,g1,g2,g3,g5,g4⟩:=fh
          have ds:=LH g1
          have dw:=LH g2
          have dz:=LH g3
          have dt:=LH g5
          rw [← bw.out] at g4
          have dy:=LH g4
          clear g1 g2 g3 g4 g5
          go_wp2_with fail
          go_roundw
          case rel=>exact ⟨q+1,A9,n9,c9,d9,by omega,by go_num,ds,dw,dz,dt,dy⟩
          case measure=>simp [intOf] <;> omega
        case neg =>
         obtain rfl:q=h.n3:=by omega
         have cm:Hid (rulesT (treeN G) (G.rules.take h.n3) j n=treeN G s n):=LH (by rw [List.take_of_length_le (by omega),treeN_non HP.out be bd.out,dh])
         obtain ⟨F,_,_,_,a7,_⟩:=L.out.cells
         have xl:=P.out.lt
         have y0:wr.cell? ⟨I,0,none⟩=some (.int .i64 s):=O.out.cell 0
         have y1:wr.cell? ⟨I,1,none⟩=some (.int .i64 (n:Int)):=O.out.cell 1
         have yl:=O.out.lt
         have gt:W0.heap.size≤w.heap.size:=b3
         go_upto_region 15 with fail
         have bc:=bl_cell wr
         refine wp_region_below_tail 5 (by kernel_rfl) (by kernel_rfl) ?_
         simp only [List.take_succ_cons,List.take_zero,List.drop_succ_cons,List.drop_zero]
         repeat (go_big_quiet_step (fail))
         refine wpQuiet_nil ?_
         rintro _ ⟨y,rfl⟩
         have m:=bl_below wr y
         have aw:=LH ((L.out.below m).less (S':=S) fun b D => .inl D)
         have du:=LH (HO.out.maps_trans (Off.of_below m))
         have bt:=LH (P.out.ext m)
         have bo:=LH (HV.out.below m)
         have fi:¬ S w.heap.size:=fun D=>Nat.lt_irrefl _ (HS.out _ D)
         clear m bc L HO P HV O y0 y1 yl F a7 xl
         generalize bl wr y=W6 at *
         obtain ⟨g9,b5⟩:=aw.out.trees
         have a5:GoodK Tryz.prog 247 (kT s n):=keyOf_kT (by have:=bd.out;unfold nonI at this;omega) (by omega) (by omega)
         unfold kT at a5
         try simp only [Int.ofNat_zero,Int.natCast_zero] at a5
         have dd:=b5.few
         have cj:=LH b5
         have d3:=LH a5
         have d0:=LH dd
         clear b5 a5 dd
         rw [cm.out] at bo
         go_wp2_with (
          at_mapUpdate
          refine wpl_update _ rfl _ _ _ 138 rfl 248 k.t w.heap.size Tryz.keyKT Tryz.underlying138 cj.out.map d0.out (.agg #[.int .i64 s, .int .i64 (n:Int)]) d3.out rfl rfl rfl ?_
          intro Z dg df
          obtain ⟨c8,a3⟩:=aw.out.putT cj.out be (by have:=bd.out;omega) (by omega) ⟨f,ns,cs,g,bt.out,bo.out⟩ fi dg df
          have E:=a3.blk bt.out (aw.out.not_map bt.out)
          have V7:=bo.out.kept (aw.out.keep a3)
          have e1:=setCell_self (i:=0) (v := .slice f ns cs) E rfl
          have cx:(Z.setCell ⟨w.heap.size,0,none⟩ (.slice f ns cs)).setCell ⟨w.heap.size,1,none⟩ (.bool g)=Z:=by rw [e1];exact setCell_self (i:=1) (v := .bool g) E rfl
          have ag:Hid (Blk ((Z.setCell ⟨w.heap.size,0,none⟩ (.slice f ns cs)).setCell ⟨w.heap.size,1,none⟩ (.bool g)) w.heap.size 77 #[.slice f ns cs, .bool g]∧CRet W0 k h G S w (treeN G s n) (.returned (.agg #[.slice f ns cs, .bool g])) ((Z.setCell ⟨w.heap.size,0,none⟩ (.slice f ns cs)).setCell ⟨w.heap.size,1,none⟩ (.bool g))):=LH (by rw [cx];exact ⟨E,c8,du.out.maps_trans a3,f,ns,cs,g,rfl,V7⟩)
          have c0:Z.cell? ⟨w.heap.size,0,none⟩=some (.slice f ns cs):=E.cell 0
          have c1:Z.cell? ⟨w.heap.size,1,none⟩=some (.bool g):=E.cell 1
          have f0:=E.frozen 0
          have f1:=E.frozen 1
          have l5:=E.lt
          clear c8 a3 E V7 dg df e1 cx)
         refine bodyPost_ret (results_cell_row (p:=6) (by kernel_rfl) _ _ w.heap.size 77 #[.slice f ns cs, .bool g] (0,0) _ rfl ag.out.1 Tryz.underlying77 rfl (by kernel_rfl)) rfl ?_
         exact ag.out.2
   · clear hz d5
     go_upto_region 6 with fail
     have a6:=alloc_below W1 (.cells #[.int .i64 s, .int .i64 0] 247)
     have an:=Blk.new W1 247 #[.int .i64 s, .int .i64 0]
     have gw:w.heap.size < W1.heap.size:=bp.out.lt
     have af:=LH (bh.out.below a6)
     have bk:=LH (ch.out.maps_trans (Off.of_below a6))
     have br:=LH (bp.out.ext a6)
     clear c0 c1 f0 f1 l1 gb F gj gi a6 bp bh ch
     generalize W1.alloc (.cells #[.int .i64 s, .int .i64 0] 247)=x at *
     generalize W1.heap.size=I at *
     have cf:=LH an
     obtain ⟨ts,ht⟩:=af.out.trees
     have J:=ht.look s 0 be (by have:=bd.out;omega) (by omega)
     unfold kT at J
     try simp only [Int.ofNat_zero,Int.natCast_zero] at J
     obtain ⟨F,_,_,_,a7,_⟩:=af.out.cells
     have y0:x.cell? ⟨I,0,none⟩=some (.int .i64 s):=an.cell 0
     have y1:x.cell? ⟨I,1,none⟩=some (.int .i64 0):=an.cell 1
     have yl:=an.lt
     clear an ht
     rcases J with ⟨bv,J,hv⟩ | J
     · obtain ⟨Av,nv,cv,dv,dc,dj⟩:=hv
       have bc:=bl_cell x
       refine wp_region_below (by kernel_rfl) (by kernel_rfl) ?_
       repeat (go_big_quiet_step (fail))
       refine wpQuiet_nil ?_
       rintro _ ⟨y,rfl⟩
       have m:=bl_below x y
       have H:=br.out.ext m
       have a4:=dc.ext m
       have ag:=LH (cnt_store (S':=S) (af.out.below m) H (dj.below m) (bk.out.maps_trans (Off.of_below m)) (.inr rfl) b3 (Nat.le_refl _) fun q hq => .inl hq)
       have c0:(bl x y).cell? ⟨w.heap.size,0,none⟩=some (.slice none 0 0):=H.cell 0
       have c1:(bl x y).cell? ⟨w.heap.size,1,none⟩=some (.bool false):=H.cell 1
       have f0:=H.frozen 0
       have f1:=H.frozen 1
       have l5:=H.lt
       have v0:(bl x y).cell? ⟨bv,0,none⟩=some (.slice Av nv cv):=a4.cell 0
       have v1:(bl x y).cell? ⟨bv,1,none⟩=some (.bool dv):=a4.cell 1
       have l6:=a4.lt
       clear J dc dj bc m H a4 y0 y1 yl F a7
       generalize bl x y=W3 at *
       go_wp2_with fail
       refine bodyPost_ret (results_cell_row (p:=6) (by kernel_rfl) _ _ w.heap.size 77 #[.slice Av nv cv, .bool dv] (0,0) _ rfl ag.out.1 Tryz.underlying77 rfl (by kernel_rfl)) rfl ?_
       exact ag.out.2
     · have bc:=bl_cell x
       refine wp_region_below (by kernel_rfl) (by kernel_rfl) ?_
       repeat (go_big_quiet_step (fail))
       refine wpQuiet_nil ?_
       rintro _ ⟨y,rfl⟩
       have m:=bl_below x y
       have bi:=LH (af.out.below m)
       have ci:=LH (bk.out.maps_trans (Off.of_below m))
       have cl:=LH (br.out.ext m)
       have cg:=LH (cf.out.ext m)
       clear J bc m F a7 y0 y1 yl af bk br cf
       generalize bl x y=W3 at *
       obtain ⟨F,_,fs,_,_,_⟩:=bi.out.cells
       have gs:=k3
       go_wp2_with fail
       go_loopw [49] (fun i wr=>∃ (q:Nat) (f:Option Addr) (ns cs:Nat) (g:Bool),q≤h.n3∧i = .int .i64 (q:Int)∧Hid (CntAt W0 k h G (fun b=>S b∨b=w.heap.size) wr)∧Hid (Off k.maps w wr)∧Hid (Blk wr w.heap.size 77 #[.slice f ns cs, .bool g])∧Hid (Blk wr I 247 #[.int .i64 s, .int .i64 0])∧Hid (ValN wr f ns cs g (rulesT (treeN G) (G.rules.take q) j 0))) (fun i _=>h.n3 - (intOf i).toNat)
       case atStart=>exact ⟨0,none,0,0,false,Nat.zero_le _,rfl,bi,ci,cl,cg,LH (ValN.zero _ _ _ (by omega))⟩
       case round =>
        clear bi ci cl cg F fs
        obtain ⟨q,f,ns,cs,g,hq,rfl,L,HO,P,O,HV⟩:=hrel
        by_cases fm:q < h.n3
        case pos =>
         obtain ⟨Y,au,r,Ar,cr,ff,ap,Hr,q0,q1,q2,fo⟩:=Hg.out.rules.get fm
         have fj:=List.mem_of_getElem? Hr.out
         have am:=L.out.base
         have fn:Y < wr.heap.size:=Nat.lt_of_lt_of_le ap am.size
         have p0:=(am.cell (p:=⟨Y,au+q * 3,none⟩) ap).trans q0
         have p1:=(am.cell (p:=⟨Y,au+q * 3+1,none⟩) ap).trans q1
         have p2:=(am.cell (p:=⟨Y,au+q * 3+2,none⟩) ap).trans q2
         have U:=alloc_below wr (.cells #[.int .i64 r.left, .slice Ar r.right.length cr, .int .i64 r.prec] 52)
         have b1:=Blk.new wr 52 #[.int .i64 r.left, .slice Ar r.right.length cr, .int .i64 r.prec]
         have N:=LH (L.out.below U)
         have bm:=LH (HO.out.maps_trans (Off.of_below U))
         have R:=LH (P.out.ext U)
         have bj:=LH (O.out.ext U)
         have ck:=LH (HV.out.below U)
         have V:=rulesT_takeC (T:=treeN G) Hr.out j 0
         have gx:=HP.out.fits.left r fj
         rw [ff]
         go_upto_region 12 with fail
         generalize wr.alloc (.cells #[.int .i64 r.left, .slice Ar r.right.length cr, .int .i64 r.prec] 52)=W4 at *
         have r0:W4.cell? ⟨wr.heap.size,0,none⟩=some (.int .i64 r.left):=b1.cell 0
         have rl:=b1.lt
         have gu:w.heap.size < wr.heap.size:=P.out.lt
         clear U b1 am p0 p1 p2 q0 q1 q2 ap fn fo L HO P O HV
         generalize wr.heap.size=gR at *
         by_cases ao:r.left=(j:Int)
         case neg =>
          have fk:(r.left == (j:Int))=false:=by rw [beq_eq_false_iff_ne];exact ao
          rw [if_neg (by omega),Nat.add_zero] at V
          have bw:=LH V
          clear V ao
          go_wp2_with fail
          go_roundw
          case rel=>exact ⟨q+1,f,ns,cs,g,by omega,by go_num,N,bm,R,bj,by rw [bw.out];exact ck⟩
          case measure=>simp [intOf] <;> omega
         case pos =>
          have fg:(r.left == (j:Int))=true:=by rw [beq_iff_eq];exact ao
          rw [if_pos (by omega)] at V
          have HR:=LH (tr_rule (k:=k) HP.out Hg.out h2 h3 (i:=q) (s0:=s) (n0:=0) Hr.out (by rw [dh,ao];rfl) f4.out (by omega) (fun q' m' fl gy=>by
           by_cases fa:0≤q'
           · exact treeC_term fa (by omega)
           · obtain ⟨a1,a2⟩:=fl (by omega)
             exact f3.out _ a2 m' q' (fun _=>⟨a1,rfl⟩) (by omega)) _ 0 0 rfl (Nat.zero_le _) (Nat.le_refl _) (fun _ p sx d=>absurd d (Nat.not_lt_zero p)))
          have bw:=LH V
          clear V
          go_upto_region 13 with fail
          clear ao fg
          refine wp_region_grow1 (fun X=>MidC W0 k h G (fun b=>S b∨b=w.heap.size) W4 X) (fun X X'=>IntKeep X X') (fun u=>(⟨(Value.pointer (some ⟨k.c,0,none⟩)::Value.int IntKind.i64 s::Value.int IntKind.i64 0::undef::undef::undef::Value.pointer (some ⟨w.heap.size,0,none⟩)::Value.pointer (some ⟨I,0,none⟩)::Value.pointer none::Value.int IntKind.i64 (q:Int)::Value.pointer (some ⟨gR,0,none⟩)::Value.int IntKind.i64 s::Value.bool false::undef::undef::Value.int IntKind.i64 0::Value.bool true::Value.bool true::Value.pointer (some ⟨k.c,0,none⟩)::Value.pointer (some ⟨k.c,0,none⟩)::Value.pointer (some ⟨k.c,4,none⟩)::Value.slice (some ⟨k.n,0,none⟩) h.n2 h.n2::Value.int IntKind.i64 s::Value.int IntKind.i64 (j:Int)::Value.pointer (some ⟨k.n,j,none⟩)::Value.bool true::Value.bool false::Value.bool false::undef::Value.int IntKind.i64 s::Value.int IntKind.i64 0::Value.agg #[Value.int IntKind.i64 s,Value.int IntKind.i64 0]::Value.pointer (some ⟨k.c,0,none⟩)::Value.pointer (some ⟨k.c,0,none⟩)::Value.pointer (some ⟨k.c,5,none⟩)::Value.map (some k.t)::Value.agg #[Value.int IntKind.i64 s,Value.int IntKind.i64 0]::Value.pointer none::Value.pointer none::Value.bool false::undef::undef::undef::Value.pointer (some ⟨k.c,0,none⟩)::Value.pointer (some ⟨k.c,0,none⟩)::Value.pointer (some ⟨k.c,0,none⟩)::Value.pointer (some ⟨k.c,2,none⟩)::Value.slice (some ⟨Y,au,none⟩) h.n3 h.c3::Value.int IntKind.i64 (h.n3:Int)::Value.int IntKind.i64 (q:Int)::Value.bool true::Value.int IntKind.i64 (q:Int)::Value.pointer (some ⟨Y,au+q * 3,none⟩)::Value.agg #[Value.int IntKind.i64 r.left,Value.slice Ar r.right.length cr,Value.int IntKind.i64 r.prec]::Value.pointer (some ⟨gR,0,none⟩)::Value.int IntKind.i64 (j:Int)::Value.int IntKind.i64 s::Value.int IntKind.i64 (j:Int)::Value.bool true::u 0::u 1::u 2::u 3::u 4::u 5::u 6::u66::undef::undef::undef::undef::undef::undef::[]).toArray,[]⟩:Act)) [u59,u60,u61,u62,u63,u64,u65] [fun v X=>v=Value.agg #[Value.slice f ns cs,Value.bool g],fun v X=>v=Value.pointer (some ⟨k.c,0,none⟩),fun v X=>v=Value.int .i64 (q:Int),fun v X=>v=Value.int .i64 0,fun v X=>v=Value.agg #[Value.int .i64 (q:Int),Value.int .i64 0,Value.int .i64 0],fun v X=>∃ Aq nq cq bq,v=Value.agg #[Value.slice Aq nq cq,Value.bool bq]∧ValN X Aq nq cq bq (forestT (treeN G) r.right 0),fun v X=>∃ Aq nq cq bq,v=Value.agg #[Value.slice Aq nq cq,Value.bool bq]∧ValN X Aq nq cq bq (rulesT (treeN G) (G.rules.take q) j 0+forestT (treeN G) r.right 0)] (fun u X=>∃ A9 n9 c9 d9,CntAt W0 k h G (fun b=>S b∨b=w.heap.size) X∧Off k.maps w X∧Blk X w.heap.size 77 #[Value.slice A9 n9 c9,Value.bool d9]∧Blk X I 247 #[Value.int .i64 s,Value.int .i64 0]∧ValN X A9 n9 c9 d9 (rulesT (treeN G) (G.rules.take q) j 0+forestT (treeN G) r.right 0)) (l:=[_,_,_,_,_,_,_]) (by kernel_rfl) (by kernel_rfl) (by kernel_rfl) rfl rfl ⟨N.out.below (Below.refl _ _).drew,Off.of_below (Below.refl _ _).drew⟩ ⟨fun _ _ _ h _=>h,fun _ _ _ h _=>h,fun _ _ _ h _=>h,fun _ _ _ h _=>h,fun _ _ _ h _=>h,(fun _ _ _ ⟨A,n,c,b,e,h⟩ D=>⟨A,n,c,b,e,h.kept D⟩),(fun _ _ _ ⟨A,n,c,b,e,h⟩ D=>⟨A,n,c,b,e,h.kept D⟩),trivial⟩ ?_ ?_ ?_
          · refine StepsF.cons rfl (fun _ _=>rfl) (fun Q u X a d KK o=>?_) ?_
            · have B:=a.2.blk R.out (N.out.not_map R.out)
              have d7:X.cell? ⟨w.heap.size,0,none⟩=some (.slice f ns cs):=B.cell 0
              have d8:X.cell? ⟨w.heap.size,1,none⟩=some (.bool g):=B.cell 1
              have fr:=B.lt
              go_simp
              exact o _ _ a ⟨Nat.le_refl _,fun _ _ _=>rfl⟩ rfl
            refine StepsF.cons rfl (fun _ _=>rfl) (fun Q u X a d KK o=>?_) ?_
            · go_simp
              exact o _ _ a ⟨Nat.le_refl _,fun _ _ _=>rfl⟩ rfl
            refine StepsF.cons rfl (fun _ _=>rfl) (fun Q u X a d KK o=>?_) ?_
            · go_simp
              exact o _ _ a ⟨Nat.le_refl _,fun _ _ _=>rfl⟩ rfl
            refine StepsF.cons rfl (fun _ _=>rfl) (fun Q u X a d KK o=>?_) ?_
            · go_simp
              exact o _ _ a ⟨Nat.le_refl _,fun _ _ _=>rfl⟩ rfl
            refine StepsF.cons rfl (fun _ _=>rfl) (fun Q u X a d KK o=>?_) ?_
            · have p2:u 2=_:=d 2 rfl
              have p3:u 3=_:=d 3 rfl
              clear d
              generalize u 2=x2 at *
              subst p2
              generalize u 3=x3 at *
              subst p3
              go_simp
              exact o _ _ a ⟨Nat.le_refl _,fun _ _ _=>rfl⟩ rfl
            refine StepsF.cons rfl (fun _ _=>rfl) (fun Q u X a d KK o=>?_) ?_
            · have p1:u 1=_:=d 1 rfl
              have p4:u 4=_:=d 4 rfl
              clear d
              generalize u 1=x1 at *
              subst p1
              generalize u 4=x4 at *
              subst p4
              have fe:∀ b,(S b∨b=w.heap.size)→b < X.heap.size:=fun b D=>by
               rcases D with D | rfl
               · exact Nat.lt_of_lt_of_le (HS.out b D) (Nat.le_trans bm.out.size a.2.size)
               · exact Nat.lt_of_lt_of_le R.out.lt a.2.size
              have CO:=HR.out (fun b=>S b∨b=w.heap.size) X a.1 fe
              unfold kF at CO
              simp only [Int.ofNat_zero,Int.natCast_zero,List.drop_zero] at CO
              go_simp
              (with_reducible refine CO.mono ?_)
              rintro e w5 ⟨fc,db,A2,m2,c2,d2,rfl,b6⟩
              go_simp
              exact o _ _ (⟨fc,a.2.maps_trans db⟩) (a.1.keep db) ⟨A2,m2,c2,d2,rfl,b6⟩
            refine StepsF.cons rfl (fun _ _=>rfl) (fun Q u X a d KK o=>?_) ?_
            · have p0:u 0=_:=d 0 rfl
              obtain ⟨A2,m2,c2,d2,p5,b6⟩:=d 5 rfl
              clear d
              generalize u 0=x0 at *
              subst p0
              generalize u 5=x5 at *
              subst p5
              have fq:=ck.out.kept (N.out.keep a.2)
              go_simp
              (with_reducible refine (tr_plus f ns cs g _ A2 m2 c2 d2 _ X fq b6).mono ?_)
              rintro e w5 ⟨b0,A4,m4,c4,d4,rfl,b7⟩
              go_simp
              exact o _ _ (⟨a.1.below b0,a.2.maps_trans (Off.of_below b0)⟩) (IntKeep.of_below b0) ⟨A4,m4,c4,d4,rfl,b7⟩
            exact StepsF.nil
          · intro Q u X a d KK o
            obtain ⟨A4,m4,c4,d4,p6,b7⟩:=d 6 (by decide)
            clear d
            generalize u 6=x6 at *
            subst p6
            have B:=a.2.blk R.out (N.out.not_map R.out)
            have d7:X.cell? ⟨w.heap.size,0,none⟩=some (.slice f ns cs):=B.cell 0
            have d8:X.cell? ⟨w.heap.size,1,none⟩=some (.bool g):=B.cell 1
            have fr:=B.lt
            have gq:=B.frozen 0
            have gr:=B.frozen 1
            have da:=a.2.blk bj.out (N.out.not_map bj.out)
            have W:=a.1.store B (.inr rfl) b3 A4 m4 c4 d4
            have d1:=LH (And.intro W.1 (And.intro ((bm.out.maps_trans a.2).maps_new W.2.1 (Nat.le_refl _)) (And.intro W.2.2.2 (And.intro (W.2.1.blk da (fun e=>by omega)) (b7.kept W.2.2.1)))))
            clear W B da
            go_simp
            exact o (fun i=>([u 0,u 1,u 2,u 3,u 4,u 5,Value.agg #[Value.slice A4 m4 c4,Value.bool d4]]:List Value).getD i undef) _ (⟨A4,m4,c4,d4,d1.out⟩)
          intro u W9 fh
          obtain ⟨A9,n9,c9,d9,g1,g2,g3,g5,g4⟩:=fh
          have ds:=LH g1
          have dw:=LH g2
          have dz:=LH g3
          have dt:=LH g5
          rw [← bw.out] at g4
          have dy:=LH g4
          clear g1 g2 g3 g4 g5
          go_wp2_with fail
          go_roundw
          case rel=>exact ⟨q+1,A9,n9,c9,d9,by omega,by go_num,ds,dw,dz,dt,dy⟩
          case measure=>simp [intOf] <;> omega
        case neg =>
         obtain rfl:q=h.n3:=by omega
         have cm:Hid (rulesT (treeN G) (G.rules.take h.n3) j 0=treeN G s 0):=LH (by rw [List.take_of_length_le (by omega),treeN_non HP.out be bd.out,dh])
         obtain ⟨F,_,_,_,a7,_⟩:=L.out.cells
         have xl:=P.out.lt
         have y0:wr.cell? ⟨I,0,none⟩=some (.int .i64 s):=O.out.cell 0
         have y1:wr.cell? ⟨I,1,none⟩=some (.int .i64 0):=O.out.cell 1
         have yl:=O.out.lt
         have gt:W0.heap.size≤w.heap.size:=b3
         go_upto_region 15 with fail
         have bc:=bl_cell wr
         refine wp_region_below_tail 5 (by kernel_rfl) (by kernel_rfl) ?_
         simp only [List.take_succ_cons,List.take_zero,List.drop_succ_cons,List.drop_zero]
         repeat (go_big_quiet_step (fail))
         refine wpQuiet_nil ?_
         rintro _ ⟨y,rfl⟩
         have m:=bl_below wr y
         have aw:=LH ((L.out.below m).less (S':=S) fun b D => .inl D)
         have du:=LH (HO.out.maps_trans (Off.of_below m))
         have bt:=LH (P.out.ext m)
         have bo:=LH (HV.out.below m)
         have fi:¬ S w.heap.size:=fun D=>Nat.lt_irrefl _ (HS.out _ D)
         clear m bc L HO P HV O y0 y1 yl F a7 xl
         generalize bl wr y=W6 at *
         obtain ⟨g9,b5⟩:=aw.out.trees
         have a5:GoodK Tryz.prog 247 (kT s 0):=keyOf_kT (by have:=bd.out;unfold nonI at this;omega) (by omega) (by omega)
         unfold kT at a5
         try simp only [Int.ofNat_zero,Int.natCast_zero] at a5
         have dd:=b5.few
         have cj:=LH b5
         have d3:=LH a5
         have d0:=LH dd
         clear b5 a5 dd
         rw [cm.out] at bo
         go_wp2_with (
          at_mapUpdate
          refine wpl_update _ rfl _ _ _ 138 rfl 248 k.t w.heap.size Tryz.keyKT Tryz.underlying138 cj.out.map d0.out (.agg #[.int .i64 s, .int .i64 0]) d3.out rfl rfl rfl ?_
          intro Z dg df
          obtain ⟨c8,a3⟩:=aw.out.putT cj.out be (by have:=bd.out;omega) (by omega) ⟨f,ns,cs,g,bt.out,bo.out⟩ fi dg df
          have E:=a3.blk bt.out (aw.out.not_map bt.out)
          have V7:=bo.out.kept (aw.out.keep a3)
          have e1:=setCell_self (i:=0) (v := .slice f ns cs) E rfl
          have cx:(Z.setCell ⟨w.heap.size,0,none⟩ (.slice f ns cs)).setCell ⟨w.heap.size,1,none⟩ (.bool g)=Z:=by rw [e1];exact setCell_self (i:=1) (v := .bool g) E rfl
          have ag:Hid (Blk ((Z.setCell ⟨w.heap.size,0,none⟩ (.slice f ns cs)).setCell ⟨w.heap.size,1,none⟩ (.bool g)) w.heap.size 77 #[.slice f ns cs, .bool g]∧CRet W0 k h G S w (treeN G s 0) (.returned (.agg #[.slice f ns cs, .bool g])) ((Z.setCell ⟨w.heap.size,0,none⟩ (.slice f ns cs)).setCell ⟨w.heap.size,1,none⟩ (.bool g))):=LH (by rw [cx];exact ⟨E,c8,du.out.maps_trans a3,f,ns,cs,g,rfl,V7⟩)
          have c0:Z.cell? ⟨w.heap.size,0,none⟩=some (.slice f ns cs):=E.cell 0
          have c1:Z.cell? ⟨w.heap.size,1,none⟩=some (.bool g):=E.cell 1
          have f0:=E.frozen 0
          have f1:=E.frozen 1
          have l5:=E.lt
          clear c8 a3 E V7 dg df e1 cx)
         refine bodyPost_ret (results_cell_row (p:=6) (by kernel_rfl) _ _ w.heap.size 77 #[.slice f ns cs, .bool g] (0,0) _ rfl ag.out.1 Tryz.underlying77 rfl (by kernel_rfl)) rfl ?_
         exact ag.out.2
end Go.Proofs.YtggbjdmpjidhgaaGreatDoor
