/- steps: the program's, walked. -/
import Derived.Test.YtggbjdmpjidhgaaGreatDoorVQCtS2
import Derived.Test.YtggbjdmpjidhgaaGreatDoorVQCtP4
set_option linter.unusedVariables false
set_option linter.unusedSimpArgs false
set_option maxHeartbeats 8000000
set_option maxRecDepth 100000
namespace Go.Proofs.YtggbjdmpjidhgaaGreatDoor
open Go.RowKit
theorem tr_Steps (h:GH) (G:Gr) (w:World) (hg:GrAt w h G) (hs:∀ t ∈ G.terms,t.name.size≤maxLen) (h1:h.n1≤100) (h2:h.n2≤100) (h3:h.n3≤100) :
 Calls Tryz.prog 88 #[GV h G.start] w fun e w'=>Below w.heap.size w w' ∧
  ((G.right=false∧e = .returned (.slice none 0 0))∨(G.right=true∧∃ g,w.heap.size≤g∧e = .returned (.slice (some ⟨g,0,none⟩) h.n2 h.n2)∧SetT w' g (stepsN G))):=by
 obtain ⟨a1,n1,c1,a2,n2,c2,a3,n3,c3⟩:=h
 have e2:G.nons.length=n2:=hg.nons.len
 have e3:G.rules.length=n3:=hg.rules.len
 have k3:=hg.rules.cap
 have k2:=hg.nons.cap
 simp only [] at h1 h2 h3 k3 k2
 have Hg:=LH hg
 have Hs:=LH hs
 have cm:=alloc_below w (.cells #[.slice a1 n1 c1, .slice a2 n2 c2, .slice a3 n3 c3, .int .i64 G.start] 26)
 have ct:=GBox.new w 26 ⟨a1,n1,c1,a2,n2,c2,a3,n3,c3⟩ G.start
 have gf:=make_sets n2 (by omega)
 clear hg hs
 go_enter Tryz.func88,Tryz.ntmps88
 have ⟨z5,z0,z1,z2,z3⟩:=ct
 simp only [] at z0 z1 z2 z3
 go_wp2_with fail
 generalize w.alloc (.cells #[.slice a1 n1 c1, .slice a2 n2 c2, .slice a3 n3 c3, .int .i64 G.start] 26)=W0 at *
 (with_reducible refine (cf_Right ⟨a1,n1,c1,a2,n2,c2,a3,n3,c3⟩ G W0 (Hg.out.below cm) Hs.out (by simp only [];omega) (by simp only [];omega)).mono ?_)
 rintro e W ⟨rfl,cq⟩
 have a4:=below_tail cm cq
 have cu:=ct.below cq
 clear z0 z1 z2 z3 z5 ct
 have ⟨y5,y0,y1,y2,y3⟩:=cu
 simp only [] at y0 y1 y2 y3
 rcases bs:G.right with _ | _
 · go_wp2_with fail
   go_ret
   exact ⟨a4, .inl ⟨bs,rfl⟩⟩
 have du:=Gr.fits bs
 have cg:=LH bs
 have ca:=LH du
 have CN:=LH fun X (L:Below W.heap.size W X)=>(tr_Nullable ⟨a1,n1,c1,a2,n2,c2,a3,n3,c3⟩ G X ((Hg.out.below a4).below L) Hs.out (by simp only [];omega) (by simp only [];omega) (by simp only [];omega)).mono fun e w' c=>And.intro (below_tail L c.1) (And.intro (LH c.1) (c.2.resolve_left fun hc=>by rw [cg.out] at hc;cases hc.1).2)
 have CP:=LH fun X (L:Below W.heap.size W X)=>(tr_Productive ⟨a1,n1,c1,a2,n2,c2,a3,n3,c3⟩ G X ((Hg.out.below a4).below L) Hs.out (by simp only [];omega) (by simp only [];omega) (by simp only [];omega)).mono fun e w' c=>And.intro (below_tail L c.1) (And.intro (LH c.1) (c.2.resolve_left fun hc=>by rw [cg.out] at hc;cases hc.1).2)
 have HS:Hid (∀ W',Below W.heap.size W W'→W'.cell? ⟨w.heap.size,0,none⟩=some (.slice a1 n1 c1)∧W'.cell? ⟨w.heap.size,1,none⟩=some (.slice a2 n2 c2)∧W'.cell? ⟨w.heap.size,2,none⟩=some (.slice a3 n3 c3)∧W'.cell? ⟨w.heap.size,3,none⟩=some (.int .i64 G.start)∧Below W.heap.size W W'):=LH fun W' L=>⟨by rw [L.cell (by exact y5)];exact y0,by rw [L.cell (by exact y5)];exact y1,by rw [L.cell (by exact y5)];exact y2,by rw [L.cell (by exact y5)];exact y3,L⟩
 have fa:=LH a4
 have fk:=LH cu
 clear bs du a4 cu cm cq
 go_upto_region 3 with fail
 refine wp_region_inv (fun listed a X=>∃ b0 u F y A B H:Bool,∃ u3 u4 u14 u15 u16 u17:Value,listed=#[b0,u,F,y,A,B,H]∧a=(⟨(GV ⟨a1,n1,c1,a2,n2,c2,a3,n3,c3⟩ G.start::Value.pointer (some ⟨w.heap.size,0,none⟩)::Value.slice none 0 0::u3::u4::undef::undef::undef::undef::undef::undef::Value.agg #[Value.slice a1 n1 c1,Value.slice a2 n2 c2,Value.slice a3 n3 c3,Value.int .i64 G.start]::Value.bool true::Value.bool false::u14::u15::u16::u17::undef::undef::undef::undef::undef::undef::undef::undef::undef::undef::undef::undef::undef::undef::undef::undef::undef::undef::undef::undef::undef::undef::undef::undef::undef::undef::undef::undef::undef::undef::undef::undef::undef::undef::undef::undef::undef::undef::undef::undef::undef::undef::undef::undef::undef::undef::undef::undef::undef::undef::undef::undef::undef::undef::undef::undef::undef::undef::undef::undef::undef::undef::[]).toArray,[]⟩:Act)∧Below W.heap.size W X ∧
  (b0=true→u14=Value.agg #[Value.slice a1 n1 c1,Value.slice a2 n2 c2,Value.slice a3 n3 c3,Value.int .i64 G.start])∧(F=true→u16=Value.agg #[Value.slice a1 n1 c1,Value.slice a2 n2 c2,Value.slice a3 n3 c3,Value.int .i64 G.start]) ∧
  (u=true→∃ C,W.heap.size≤C∧u15=Value.slice (some ⟨C,0,none⟩) n2 n2∧BoolT X C (nullN G)) ∧
  (y=true→∃ I,W.heap.size≤I∧u17=Value.slice (some ⟨I,0,none⟩) n2 n2∧BoolT X I (prodN G)) ∧
  (A=true→∃ q v,W.heap.size≤q∧u3=Value.pointer (some ⟨q,0,none⟩)∧Blk X q 97 #[v]∧(B=true→v=u15))∧(B=true→u=true∧A=true)∧(H=true→u4=u17∧y=true)) (by kernel_rfl) (by kernel_rfl) ?_ ?_ ?_
 · exact ⟨false,false,false,false,false,false,false,undef,undef,undef,undef,undef,undef,rfl,rfl,(Below.refl _ _).drew,nofun,nofun,nofun,nofun,nofun,nofun,nofun⟩
 · refine InvSteps.cons (fun listed a X Y M E K Z=>?_) ?_
   · obtain ⟨b0,u,F,y,A,B,H,u3,u4,u14,u15,u16,u17,rfl,rfl,D,N,P,O,R,S,U,T⟩:=Y
     obtain ⟨q0,q1,q2,q3,_⟩:=HS.out X D
     clear M E
     go_simp
     exact Z _ _ ⟨true,u,F,y,A,B,H,u3,u4,_,u15,u16,u17,rfl,rfl,D,fun _=>rfl,P,O,R,S,U,T⟩
   refine InvSteps.cons (fun listed a X Y M E K Z=>?_) ?_
   · obtain ⟨b0,u,F,y,A,B,H,u3,u4,u14,u15,u16,u17,rfl,rfl,D,N,P,O,R,S,U,T⟩:=Y
     have p0:b0=true:=E ⟨0, .data⟩ (by simp) rfl
     obtain rfl:=N p0
     have n1:u=false:=M
     have n5:B=true→False:=fun h=>by have:=(U h).1;rw [n1] at this;cases this
     clear M E
     go_simp
     (with_reducible refine (CN.out _ D).mono ?_)
     rintro e w2 ⟨cn,a0,C,ar,rfl,an⟩
     go_simp
     exact Z _ _ ⟨b0,true,F,y,A,B,H,u3,u4,_,_,u16,u17,rfl,rfl,cn,fun _=>rfl,P,fun _=>⟨C,Nat.le_trans D.size ar,rfl,an⟩,fun h=>(R h).imp fun I c=>⟨c.1,c.2.1,Blk.ext c.2.2 a0.out⟩,fun h=>(S h).imp fun q c=>c.imp fun v hv=>⟨hv.1,hv.2.1,Blk.ext hv.2.2.1 a0.out,fun h5=>absurd h5 n5⟩,fun h=>absurd h n5,T⟩
   refine InvSteps.cons (fun listed a X Y M E K Z=>?_) ?_
   · obtain ⟨b0,u,F,y,A,B,H,u3,u4,u14,u15,u16,u17,rfl,rfl,D,N,P,O,R,S,U,T⟩:=Y
     obtain ⟨q0,q1,q2,q3,_⟩:=HS.out X D
     clear M E
     go_simp
     exact Z _ _ ⟨b0,u,true,y,A,B,H,u3,u4,u14,u15,_,u17,rfl,rfl,D,N,fun _=>rfl,O,R,S,U,T⟩
   refine InvSteps.cons (fun listed a X Y M E K Z=>?_) ?_
   · obtain ⟨b0,u,F,y,A,B,H,u3,u4,u14,u15,u16,u17,rfl,rfl,D,N,P,O,R,S,U,T⟩:=Y
     have p2:F=true:=E ⟨2, .data⟩ (by simp) rfl
     obtain rfl:=P p2
     have gq:y=false:=M
     have n6:H=true→False:=fun h=>by have:=(T h).2;rw [gq] at this;cases this
     clear M E
     go_simp
     (with_reducible refine (CP.out _ D).mono ?_)
     rintro e w2 ⟨cn,a0,I,a6,rfl,ax⟩
     go_simp
     exact Z _ _ ⟨b0,u,F,true,A,B,H,u3,u4,u14,u15,_,_,rfl,rfl,cn,N,fun _=>rfl,fun h=>(O h).imp fun C c=>⟨c.1,c.2.1,Blk.ext c.2.2 a0.out⟩,fun _=>⟨I,Nat.le_trans D.size a6,rfl,ax⟩,fun h=>(S h).imp fun q c=>c.imp fun v hv=>⟨hv.1,hv.2.1,Blk.ext hv.2.2.1 a0.out,hv.2.2.2⟩,U,fun h=>absurd h n6⟩
   refine InvSteps.cons (fun listed a X Y M E K Z=>?_) ?_
   · obtain ⟨b0,u,F,y,A,B,H,u3,u4,u14,u15,u16,u17,rfl,rfl,D,N,P,O,R,S,U,T⟩:=Y
     have n4:A=false:=M
     have n5:B=true→False:=fun h=>by have:=(U h).2;rw [n4] at this;cases this
     clear M E
     go_simp
     exact Z _ _ ⟨b0,u,F,y,true,B,H,_,u4,u14,u15,u16,u17,rfl,rfl,below_alloc D _,N,P,fun h=>(O h).imp fun C c=>⟨c.1,c.2.1,Blk.ext c.2.2 (alloc_below _ _)⟩,fun h=>(R h).imp fun I c=>⟨c.1,c.2.1,Blk.ext c.2.2 (alloc_below _ _)⟩,fun _=>⟨_,_,D.size,rfl,Blk.new _ _ _,fun h5=>absurd h5 n5⟩,fun h=>absurd h n5,T⟩
   refine InvSteps.cons (fun listed a X Y M E K Z=>?_) ?_
   · obtain ⟨b0,u,F,y,A,B,H,u3,u4,u14,u15,u16,u17,rfl,rfl,D,N,P,O,R,S,U,T⟩:=Y
     have p1:u=true:=E ⟨1, .data⟩ (by simp) rfl
     have p4:A=true:=E ⟨4, .data⟩ (by simp) rfl
     obtain ⟨C,ar,rfl,an⟩:=O p1
     obtain ⟨q,v,br,rfl,HK,_⟩:=S p4
     have cy:C ≠ q:=by
      rintro rfl
      have h4:=an.symm.trans HK
      simp at h4
     have gg:∀ I,BoolT X I (prodN G)→I ≠ q:=by
      rintro I ax rfl
      have h4:=ax.symm.trans HK
      simp at h4
     have he:X.cell? ⟨q,0,none⟩=some v:=HK.cell 0
     have bo:=HK.frozen 0
     have hq:=HK.lt
     clear M E
     go_simp
     exact Z _ _ ⟨b0,u,F,y,A,true,H,_,u4,u14,_,u16,u17,rfl,rfl,below_set D q 0 _ br,N,P,fun _=>⟨C,ar,rfl,Blk.other an q 0 _ cy⟩,fun h=>(R h).imp fun I c=>⟨c.1,c.2.1,Blk.other c.2.2 q 0 _ (gg I c.2.2)⟩,fun _=>⟨q,_,br,rfl,Blk.set HK 0 _,fun _=>rfl⟩,fun _=>⟨p1,p4⟩,T⟩
   refine InvSteps.cons (fun listed a X Y M E K Z=>?_) ?_
   · obtain ⟨b0,u,F,y,A,B,H,u3,u4,u14,u15,u16,u17,rfl,rfl,D,N,P,O,R,S,U,T⟩:=Y
     have p3:y=true:=E ⟨3, .data⟩ (by simp) rfl
     clear M E
     go_simp
     exact Z _ _ ⟨b0,u,F,y,A,B,true,u3,_,u14,u15,u16,u17,rfl,rfl,D,N,P,O,R,S,U,fun _=>⟨rfl,p3⟩⟩
   exact InvSteps.nil
 rintro listed a w3 ⟨b0,u,F,y,A,B,H,u3,u4,u14,u15,u16,u17,rfl,rfl,co,N,P,O,R,S,U,T⟩ aj
 obtain ⟨C,ar,rfl,an⟩:=O (aj 1 (by decide))
 obtain ⟨I,a6,rfl,ax⟩:=R (aj 3 (by decide))
 obtain ⟨q,v,br,rfl,de,hv⟩:=S (aj 4 (by decide))
 obtain rfl:=hv (aj 5 (by decide))
 obtain ⟨rfl,_⟩:=T (aj 6 (by decide))
 obtain rfl:=N (aj 0 (by decide))
 obtain rfl:=P (aj 2 (by decide))
 have db:Hid (BoolT w3 C (nullN G)):=LH an
 have dc:Hid (BoolT w3 I (prodN G)):=LH ax
 have da:Hid (Blk w3 q 97 #[Value.slice (some ⟨C,0,none⟩) n2 n2]):=LH de
 have am:=LH (below_tail fa.out co)
 have b9:=LH (fk.out.below co)
 clear N P O R S U T aj ar a6 br an ax de hv co CN CP HS y0 y1 y2 y3 y5
 have ⟨y5,y0,y1,y2,y3⟩:=b9.out
 simp only [] at y0 y1 y2 y3
 go_upto_region 5 with fail
 have dl:=SetT.new w3 (List.replicate n2 0)
 have cp:=alloc_below w3 (.cells (nums .u32 (List.replicate n2 0)).toArray 49)
 generalize w3.alloc (.cells (nums .u32 (List.replicate n2 0)).toArray 49)=W4 at *
 generalize dv:w3.heap.size=f at *
 have ah:=LH dv
 have fi:=LH dl
 have fb:=LH cp
 have dr:=b9.out.below (by rw [ah.out];exact cp)
 clear dv dl cp y0 y1 y2 y3 y5 gf
 have ⟨y5,y0,y1,y2,y3⟩:=dr
 simp only [] at y0 y1 y2 y3
 clear dr
 go_wp2_with fail
 clear y0 y1 y2 y3 y5
 go_loopw [25] (fun i wr=>∃ j:Nat,j≤n3∧i = .int .i64 (j:Int)∧Hid (Below f w3 wr)∧Hid (SetT wr f (passSt (nullN G) (prodN G) (G.rules.take j) (List.replicate n2 0)))) (fun i _=>n3 - (intOf i).toNat)
 case atStart=>exact ⟨0,Nat.zero_le _,rfl,fb,LH (by simpa [passSt] using fi.out)⟩
 case round =>
  obtain ⟨j,hj,rfl,HB,V⟩:=hrel
  have cv:w3.heap.size=f:=ah.out
  have be:=LH (am.out.trans (HB.out.mono (by rw [← cv];exact am.out.size)))
  have fw:=b9.out.below (by rw [cv];exact HB.out)
  clear cv fw
  by_cases f8:j < n3
  case neg =>
   obtain rfl:j=n3:=by omega
   have Hf:Hid (SetT wr f (stepsN G)):=LH (by have:=V.out;rw [List.take_of_length_le (by omega)] at this;unfold stepsN;rw [e2];exact this)
   go_wp2_with fail
   go_ret
   exact ⟨be.out, .inr ⟨cg.out,f,by rw [← ah.out];exact am.out.size,rfl,Hf.out⟩⟩
  case pos =>
   obtain ⟨bb,hy,r,Ar,cr,rfl,dn,Hr,q0,q1,q2,d0⟩:=Hg.out.rules.get f8
   rw [← be.out.cell (by exact dn)] at q0 q1 q2
   have L:bb < wr.heap.size:=Nat.lt_of_lt_of_le dn be.out.size
   have cf:=LH d0
   have bp:=List.mem_of_getElem? Hr.out
   have fo:Hid (passSt (nullN G) (prodN G) (G.rules.take (j+1)) (List.replicate n2 0)=posSt (nullN G) (prodN G) r r.right.length (passSt (nullN G) (prodN G) (G.rules.take j) (List.replicate n2 0))):=LH (by rw [take_snoc' Hr.out,passSt_snoc])
   have ds:(passSt (nullN G) (prodN G) (G.rules.take j) (List.replicate n2 0)).length=n2:=by rw [passSt_len];simp
   have dt:=passSt_small (nullN G) (prodN G) (G.rules.take j) (Small.zero n2)
   generalize passSt (nullN G) (prodN G) (G.rules.take j) (List.replicate n2 0)=l at *
   obtain ⟨l1,l2⟩:=ca.out.left r bp
   obtain ⟨d,dx⟩:∃ d:Nat,r.left=(d:Int):=⟨r.left.toNat,by omega⟩
   have f9:d < n2:=by omega
   have fn:Hid (r.left.toNat=d):=LH (by omega)
   have hp:=ca.out.len r bp
   have c5:=ca.out.symB bp
   rw [e2] at c5
   rw [dx] at q0
   have dh:=LH c5
   have fl:=LH ds
   have fm:=LH dt
   have cs:=alloc_below wr (.cells #[.int .i64 (d:Int), .slice Ar r.right.length cr, .int .i64 r.prec] 52)
   have dk:=Blk.new wr 52 #[.int .i64 (d:Int), .slice Ar r.right.length cr, .int .i64 r.prec]
   have au:f < wr.heap.size:=V.out.lt
   clear d0 c5 ds dt l1 l2 dx bp
   go_upto_region 8 with fail
   have dd:Hid (SetT (wr.alloc (.cells #[.int .i64 (d:Int), .slice Ar r.right.length cr, .int .i64 r.prec] 52)) f l):=LH (Blk.ext V.out cs)
   have bd:=LH (HB.out.trans (cs.mono (Nat.le_of_lt au)))
   have bg:=LH dk
   have hl:f < wr.heap.size:=au
   generalize wr.alloc (.cells #[.int .i64 (d:Int), .slice Ar r.right.length cr, .int .i64 r.prec] 52)=WA at *
   generalize wr.heap.size=gR at *
   clear cs dk q0 q1 q2 V HB be L
   have gd:f < WA.heap.size:=dd.out.lt
   have fu:=bg.out.lt
   have r0:WA.cell? ⟨gR,0,none⟩=some (.int .i64 (d:Int)):=bg.out.cell 0
   have r1:WA.cell? ⟨gR,1,none⟩=some (.slice Ar r.right.length cr):=bg.out.cell 1
   have fc:=LH (am.out.trans (bd.out.mono (by rw [← ah.out];exact am.out.size)))
   have ar:C < f:=by have:=db.out.lt;rw [ah.out] at this;exact this
   have a6:I < f:=by have:=dc.out.lt;rw [ah.out] at this;exact this
   have f7:q < f:=by have:=da.out.lt;rw [ah.out] at this;exact this
   have CC:=LH (tr_Clone Ar r.right.length cr r.right WA (cf.out.below fc.out) (by omega))
   have ff:Hid ((nullN G).length=n2):=LH (by rw [nullN_grown,grownN_len];exact e2)
   have CD:=LH fun X v' (hB:Below WA.heap.size WA X) (bq:X.ownsRow WA.heap.size 3 1 v' r.right.length (ints .i64 r.right))=>(tr_Del WA.heap.size q C n2 r.right.length (nullN G) r.right v' X bq
    ⟨by rw [(hB.cell (p:=⟨q,0,none⟩) (by show q < _;omega)).trans ((bd.out.cell (p:=⟨q,0,none⟩) f7))];exact da.out.cell 0,fun i hi=>by rw [(hB.cell (p:=⟨C,i,none⟩) (by show C < _;omega)).trans ((bd.out.cell (p:=⟨C,i,none⟩) ar))];exact db.out.at (by rw [ff.out];exact hi)⟩ (by omega) (by omega) hB.size (by omega) dh.out).mono fun e w' c=>And.intro c.1 (hB.trans c.2)
   go_wp2_with (first
    | (go_at_call 70;(with_reducible refine CC.out.mono ?_);rintro e wc ⟨v',rfl,bq,di⟩)
    | (go_at_call 146;(with_reducible refine (CD.out _ _ di bq).mono ?_);rintro e wd ⟨⟨Ab,cb,rfl,dp⟩,a5⟩;have gy:=(a5.cell (p:=⟨gR,1,none⟩) fu).trans r1))
   have fd:=LH (bd.out.trans (a5.mono (Nat.le_of_lt gd)))
   have fh:=LH (Blk.ext bg.out a5)
   have b7:Hid (SetT wd f l):=LH (Blk.ext dd.out a5)
   have b8:=LH dp
   have ge:f < wd.heap.size:=b7.out.lt
   have hd:=cf.out.cap
   clear bq di a5 dp gy r0 r1 CC CD
   go_loopw [37] (fun i wz=>∃ kk:Nat,kk≤r.right.length∧i = .int .i64 (kk:Int)∧Hid (SetT wz f (posSt (nullN G) (prodN G) r kk l))∧Hid (wd.grownBy wz (some f))) (fun i _=>r.right.length - (intOf i).toNat)
   case atStart=>exact ⟨0,Nat.zero_le _,rfl,b7,LH (grown_refl _ _)⟩
   case round =>
    obtain ⟨kk,ho,rfl,V,ad⟩:=hrel
    have fv:gR ≠ f:=by omega
    have bn:=fh.out.grown ad.out (by intro e;injection e with e;exact fv e)
    have r0:wr.cell? ⟨gR,0,none⟩=some (.int .i64 (d:Int)):=bn.cell 0
    have g9:gR < wr.heap.size:=bn.lt
    have bx:=LH (fd.out.trans (grown_is_below ad.out (Nat.le_of_lt ge) (Nat.le_refl _)))
    have fe:=LH (am.out.trans (bx.out.mono (by rw [← ah.out];exact am.out.size)))
    have al:(posSt (nullN G) (prodN G) r kk l).length=n2:=by rw [posSt_len];exact fl.out
    have af:=posSt_small (nullN G) (prodN G) r fm.out kk
    have fp:=LH (cf.out.below fe.out)
    have au:f < wr.heap.size:=V.out.lt
    by_cases gc:kk < r.right.length
    case neg =>
     obtain rfl:kk=r.right.length:=by omega
     clear al af bn
     go_wp2_with fail
     go_roundw
     case rel=>exact ⟨j+1,by omega,by go_num,bx,LH (by rw [fo.out];exact V.out)⟩
     case measure=>simp [intOf];omega
    case pos =>
     obtain ⟨sb,so,s,rfl,hr,Hs,qs⟩:=fp.out.get gc
     have gj:=dh.out s (List.mem_of_getElem? Hs.out)
     have dz:=posSt_succ (nullN G) (prodN G) r kk l
     have dw:growSt (nullN G) (prodN G) r kk (posSt (nullN G) (prodN G) r kk l)=if standsR (nullN G) (prodN G) r.right kk s then addAt d (bitN (-1 - s)) (posSt (nullN G) (prodN G) r kk l) else posSt (nullN G) (prodN G) r kk l:=by unfold growSt;rw [Hs.out];simp only [fn.out]
     have cd:=LH (dz.trans dw)
     have dm:=V.out.at (i:=d) (by rw [al];exact f9)
     have dj:BoolT wr I (prodN G):=Blk.below dc.out bx.out a6
     have fg:Hid ((prodN G).length=n2):=LH (by rw [prodN_len];exact e2)
     have c4:=(stands_eq (null_prod G) Hs.out).symm
     unfold standsP at c4
     have dq:∀ k,k < (bareL (nullN G) r.right).length→∃ b o x,Ab=some ⟨b,o,none⟩∧b < wr.heap.size∧Hid ((bareL (nullN G) r.right)[k]? = some x)∧wr.cell? ⟨b,o+k,none⟩=some (.int .i64 x):=fun k hk=>by
      obtain ⟨b,o,x,e,L,Hx,hc⟩:=b8.out.get hk
      have cy:b ≠ f:=by
       rintro rfl
       have h2:=b7.out.cell (o+k)
       rw [hc] at h2
       have h3:((nums .u32 l).toArray)[o+k]? = some (Value.int .i64 x):=h2.symm
       simp [nums] at h3
      exact ⟨b,o,x,e,Nat.lt_of_lt_of_le L ad.out.size,Hx,(grown_frozen ad.out L cy).trans hc⟩
     have ha:=b8.out.cap
     have aa:=LH c4
     have fj:=LH dq
     clear dz dw c4 bn dq b8
     generalize bareL (nullN G) r.right=lb at *
     have bi:Hid (standsR (nullN G) (prodN G) r.right kk s=false→Hid (SetT wr f (posSt (nullN G) (prodN G) r (kk+1) l))):=LH fun hf=>LH (by rw [cd.out,hf];exact V.out)
     by_cases h0:0≤s
     · have Hf:=bi.out (by rw [aa.out,show decide (s < 0)=false by rw [decide_eq_false_iff_not];omega];rfl)
       clear al af
       go_wp2_with fail
       go_roundw
       case rel=>exact ⟨kk+1,by omega,by go_num,Hf,ad⟩
       case measure=>simp [intOf];omega
     have gh:decide (s < 0)=true:=by rw [decide_eq_true_iff];omega
     obtain ⟨J,ga,dy,hw⟩:=non_place (s:=s) (n:=n2) (by omega) gj.1 (by omega)
     have c0:=BoolT.at dj (i:=J) (by rw [fg.out];exact ga)
     have cc:=LH dy
     have dg:Hid (standsR (nullN G) (prodN G) r.right kk s=((true && (prodN G).getD J false) && (decide (lb.length=0) || (decide (lb.length=1) && decide (lb[0]? = some s))))):=LH (by rw [aa.out,gh,cc.out])
     clear dy dj aa
     have aa:=dg
     clear dg
     generalize (prodN G).getD J false=pv at *
     rcases pv with _ | _
     · have Hf:=bi.out (by rw [aa.out];rfl)
       clear al af
       go_wp2_with fail
       go_roundw
       case rel=>exact ⟨kk+1,by omega,by go_num,Hf,ad⟩
       case measure=>simp [intOf];omega
     rcases (by omega:lb.length=0∨lb.length=1∨2≤lb.length) with hm | hm | hm
     · have Hm:=LH hm
       rw [hm] at aa
       generalize lb.length=m at *
       subst hm
       have a7:standsR (nullN G) (prodN G) r.right kk s=true:=by rw [aa.out];rfl
       have ao:Hid (posSt (nullN G) (prodN G) r (kk+1) l=addAt d (bitN (-1 - s)) (posSt (nullN G) (prodN G) r kk l)):=LH (by rw [cd.out,a7];rfl)
       have cz:-1 - s=(J:Int):=by have:=cc.out;unfold nonI at this;omega
       rw [cz] at ao
       have cx:=af.get d
       have cw:=bitN_lt (J:Int)
       have gi:=or32 ((posSt (nullN G) (prodN G) r kk l).getD d 0) (bitN (J:Int)) cx cw
       have ce:=LH fun x:Ext wr=>SetT.put (Blk.ext V.out (bl_below wr x):SetT (bl wr x) f (posSt (nullN G) (prodN G) r kk l)) d ((posSt (nullN G) (prodN G) r kk l).getD d 0 ||| bitN (J:Int))
       have bo:=Blk.frozen V.out d
       have CB:=LH fun x:Ext wr=>tr_one (J:Int) (bl wr x)
       unfold addAt at ao
       generalize (posSt (nullN G) (prodN G) r kk l).getD d 0 ||| bitN (J:Int)=z at *
       generalize (posSt (nullN G) (prodN G) r kk l).getD d 0=gt at *
       generalize bitN (J:Int)=bv at *
       have bc:=bl_cell wr
       have bf:=bl_frozen wr
       clear a7 al af
       go_upto_region 13 with fail
       refine wp_region_below_tail 10 (by kernel_rfl) (by kernel_rfl) ?_
       simp only [List.take_succ_cons,List.take_zero,List.drop_succ_cons,List.drop_zero]
       repeat (go_big_quiet_step ((go_at_call 90;with_reducible exact bl_of (CB.out _))))
       refine wpQuiet_nil ?_
       rintro _ ⟨x,rfl⟩
       have fx:=(bc x f d au).trans dm
       have fz:=(bf x f d au).trans bo
       have gk:=bl_size wr x
       go_wp2_with fail
       go_roundw
       case rel=>exact ⟨kk+1,by omega,by go_num,LH (by rw [ao.out];exact ce.out x),LH (grown_trans (grown_trans ad.out (grown_below _ (bl_below wr x))) (grown_set _ _ _ _))⟩
       case measure=>simp [intOf];omega
     · obtain ⟨xb,xo,x,rfl,hx,Hx,qx⟩:=fj.out 0 (by omega)
       have fq:Hid (decide (lb[0]? = some s)=decide (x=s)):=LH (by rw [Hx.out];simp)
       rw [hm,fq.out] at aa
       have hu:wr.cell? ⟨xb,xo,none⟩=some (.int .i64 x):=qx
       generalize lb.length=m at *
       subst hm
       clear qx
       by_cases d2:x=s
       · subst d2
         have a7:standsR (nullN G) (prodN G) r.right kk x=true:=by rw [aa.out];simp
         have ao:Hid (posSt (nullN G) (prodN G) r (kk+1) l=addAt d (bitN (-1 - x)) (posSt (nullN G) (prodN G) r kk l)):=LH (by rw [cd.out,a7];rfl)
         have cz:-1 - x=(J:Int):=by have:=cc.out;unfold nonI at this;omega
         rw [cz] at ao
         have cx:=af.get d
         have cw:=bitN_lt (J:Int)
         have gi:=or32 ((posSt (nullN G) (prodN G) r kk l).getD d 0) (bitN (J:Int)) cx cw
         have ce:=LH fun x:Ext wr=>SetT.put (Blk.ext V.out (bl_below wr x):SetT (bl wr x) f (posSt (nullN G) (prodN G) r kk l)) d ((posSt (nullN G) (prodN G) r kk l).getD d 0 ||| bitN (J:Int))
         have bo:=Blk.frozen V.out d
         have CB:=LH fun x:Ext wr=>tr_one (J:Int) (bl wr x)
         unfold addAt at ao
         generalize (posSt (nullN G) (prodN G) r kk l).getD d 0 ||| bitN (J:Int)=z at *
         generalize (posSt (nullN G) (prodN G) r kk l).getD d 0=gt at *
         generalize bitN (J:Int)=bv at *
         have bc:=bl_cell wr
         have bf:=bl_frozen wr
         clear a7 al af
         go_upto_region 13 with fail
         refine wp_region_below_tail 10 (by kernel_rfl) (by kernel_rfl) ?_
         simp only [List.take_succ_cons,List.take_zero,List.drop_succ_cons,List.drop_zero]
         repeat (go_big_quiet_step ((go_at_call 90;with_reducible exact bl_of (CB.out _))))
         refine wpQuiet_nil ?_
         rintro _ ⟨x,rfl⟩
         have fx:=(bc x f d au).trans dm
         have fz:=(bf x f d au).trans bo
         have gk:=bl_size wr x
         go_wp2_with fail
         go_roundw
         case rel=>exact ⟨kk+1,by omega,by go_num,LH (by rw [ao.out];exact ce.out x),LH (grown_trans (grown_trans ad.out (grown_below _ (bl_below wr x))) (grown_set _ _ _ _))⟩
         case measure=>simp [intOf];omega
       · have Hf:=bi.out (by rw [aa.out,show decide (x=s)=false by rw [decide_eq_false_iff_not];exact d2];rfl)
         clear al af
         go_wp2_with fail
         go_roundw
         case rel=>exact ⟨kk+1,by omega,by go_num,Hf,ad⟩
         case measure=>simp [intOf];omega
     · have Hf:=bi.out (by rw [aa.out,show decide (lb.length=0)=false by rw [decide_eq_false_iff_not];omega,show decide (lb.length=1)=false by rw [decide_eq_false_iff_not];omega];rfl)
       have g0:¬ ((lb.length:Int)=0):=by omega
       have g1:¬ ((lb.length:Int)=1):=by omega
       generalize lb.length=m at *
       clear al af
       go_wp2_with fail
       go_roundw
       case rel=>exact ⟨kk+1,by omega,by go_num,Hf,ad⟩
       case measure=>simp [intOf];omega
theorem stepsSaid:StepsSaid:=tr_Steps
end Go.Proofs.YtggbjdmpjidhgaaGreatDoor
