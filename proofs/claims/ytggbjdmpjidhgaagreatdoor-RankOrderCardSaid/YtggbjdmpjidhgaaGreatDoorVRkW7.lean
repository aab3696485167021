/- ranks: a teller's tree (walked). -/
import Derived.Test.YtggbjdmpjidhgaaGreatDoorVRkP3
import Derived.Test.YtggbjdmpjidhgaaGreatDoorVRkW5
set_option linter.unusedVariables false
set_option linter.unusedSimpArgs false
set_option maxHeartbeats 8000000
set_option maxRecDepth 100000
namespace Go.Proofs.YtggbjdmpjidhgaaGreatDoor
open Go.RowKit
theorem tr_ttree {W0:World} {k:BkH} {h:GH} {G:Gr} (hB:BkG W0 h G) (hP:Plain G) (m:Nat) (HF:FT W0 k h G m):TT W0 k h G (m+1):=by
 intro B s n r t z w gd h0 hl hT dl hn f1
 obtain ⟨D,d,q,t1,ax,dx,hU,dt,rfl⟩:=hT
 have ci:aheadR (treeN G) G.rules (nonI s) (D+1) n≤treeN G s n:=by
  rw [treeN_non hP h0 hl]
  exact aheadR_le _ _ _ _ _
 have hq:q < forestT (treeN G) d.right n:=hU.lt hP (InG.at hP.fits ax)
 rw [aheadR_succ _ ax,if_pos dx] at ci
 have g8:D < G.rules.length:=(List.getElem?_eq_some_iff.1 ax).1
 have dw:d.left=(nonI s:Int):=by
  have:=(hP.fits.left d (List.mem_of_getElem? ax)).1
  omega
 have c1:Hid (∀ (j:Nat) (x:Rul),G.rules[j]? = some x→KeyOK x.right n∧(∀ s ∈ x.right,G.has s=true)∧0≤x.left):=LH fun j x hx=>by
  have h1:=key_rule hP.fits (List.mem_of_getElem? hx) hn
  exact ⟨h1.1,h1.2,(hP.fits.left x (List.mem_of_getElem? hx)).1⟩
 have c2:Hid (∀ (j:Nat) (x:Rul),G.rules[j]? = some x→aheadR (treeN G) G.rules (nonI s) (j+1) n=aheadR (treeN G) G.rules (nonI s) j n+(if x.left.toNat=nonI s then forestT (treeN G) x.right n else 0)):=LH fun j x hx=>aheadR_succ _ hx _ _
 have fj:Hid (∀ j,j≤D→aheadR (treeN G) G.rules (nonI s) j n≤aheadR (treeN G) G.rules (nonI s) D n):=LH fun j hj=>aheadR_mono _ _ _ _ hj
 have d8:Hid (InG G d.right):=LH (InG.at hP.fits ax)
 obtain ⟨S,A,c,U⟩:=f1
 obtain ⟨Z,hZ⟩:∃ Z,t1.map (fun i:Nat=>(i:Int))++z=Z:=⟨_,rfl⟩
 have U:TlIn W0 k h G B ((D:Int)::Z) S A c w:=by rw [← hZ];exact U
 obtain ⟨a1,n1,d1,a2,n2,d2,a3,n3,d3⟩:=h
 obtain ⟨gc,gt⟩:=k
 have he:n3=G.rules.length:=hB.at_.rules.len.symm
 have f4:=hB.at_.rules.cap
 have hh:=hP.fits.n3.2
 obtain ⟨J,L,fu,am,ds⟩:=hB.at_.rules.2.2.2 (by show 0 < n3;omega)
 obtain rfl:a3=some ⟨J,L,none⟩:=fu
 obtain ⟨ab,ao,i1,rfl,g6,c0,du⟩:=U.row.get (j:=0) (by simp)
 obtain rfl:(D:Int)=i1:=by
  have:=c0.out
  simpa using this
 have f5:=U.row.cap
 rw [List.length_cons] at f5
 obtain ⟨At,ft⟩:∃ At:Option Addr,(if c=1 then some (⟨ab,ao,none⟩:Addr) else some ⟨ab,ao+1,none⟩)=At:=⟨_,rfl⟩
 have dg:=U.next ft
 have ct:=LH ds
 have c7:=LH dw
 clear dw
 have HB:=LH hB
 have d6:=LH HF
 have HU:=LH hU
 have c6:=LH ax
 have cz:=LH dl
 have bw:=LH dg
 have c4:=LH ci
 have fn:=LH dt
 have Hq:=LH hq
 have HZ:=LH hZ
 have g0:w.cell? ⟨B,0,none⟩=some (.pointer (some ⟨gc,0,none⟩)):=U.box.cell 0
 have g2:w.cell? ⟨B,1,none⟩=some (.slice (some ⟨ab,ao,none⟩) (Z.length+1) c):=U.box.cell 1
 have g3:=U.box.frozen 1
 have g1:=U.box.lt
 have e0:w.cell? ⟨ab,ao,none⟩=some (.int .i64 (D:Int)):=du
 have hg:(1:Int)≤(Z.length:Int)+1:=by omega
 have g7:(1:Int)≤(c:Int):=by omega
 clear hB hP HF hU ax dx dl U dg ci dt hq h0 hl hZ ds c0 du
 go_enter Tryz.func73,Tryz.ntmps73
 go_upto_region 3 with fail
 generalize w.setCell ⟨B,1,none⟩ (.slice At Z.length (c - 1))=W1 at *
 clear g0 g1 g2 g3 e0
 have R:=bw.out.1
 have cn:=LH bw.out.2
 have fe:=LH R
 clear bw
 have g0:W1.cell? ⟨B,0,none⟩=some (.pointer (some ⟨gc,0,none⟩)):=R.box.cell 0
 have g1:=R.box.lt
 have b2:W1.cell? ⟨gc,2,none⟩=some (.slice (some ⟨J,L,none⟩) n3 d3):=R.bk.box.cell 2
 have b4:=R.bk.box.lt
 obtain ⟨T,V,q0,q1,q2,de⟩:=ct.out D d c6.out
 have e0:=(R.bk.base.cell (p:=⟨J,L+D * 3,none⟩) am).trans q0
 have e1:=(R.bk.base.cell (p:=⟨J,L+D * 3+1,none⟩) am).trans q1
 have e2:=(R.bk.base.cell (p:=⟨J,L+D * 3+2,none⟩) am).trans q2
 have cf:=Nat.lt_of_lt_of_le am R.bk.base.size
 have d9:=LH de
 have ag:=alloc_below W1 (.cells #[.int .i64 d.left, .slice T d.right.length V, .int .i64 d.prec] 52)
 have Y:=Blk.new W1 52 #[.int .i64 d.left, .slice T d.right.length V, .int .i64 d.prec]
 have cp:=LH (R.below ag)
 have co:=LH (cn.out.trans (.of_below ag))
 clear R q0 q1 q2 de ag fe cn
 go_upto_region 4 with fail
 clear g0 g1 b2 b4 e0 e1 e2 cf
 generalize W1.alloc (.cells #[.int .i64 d.left, .slice T d.right.length V, .int .i64 d.prec] 52)=W2 at *
 generalize W1.heap.size=W at *
 have bh:=LH Y
 have y1:W2.cell? ⟨W,1,none⟩=some (.slice T d.right.length V):=Y.cell 1
 have yl:=Y.lt
 have bb:=c1.out D d c6.out
 have CF:=LH (d6.out B d.right n q t1 z T V W2 (by rw [List.length_cons] at gd;omega) HU.out d8.out (by have h1:=c4.out;have h2:=cz.out;omega) bb.1 bb.2.1 d9.out ⟨S,At,c - 1,by rw [HZ.out];exact cp.out⟩)
 clear Y bb
 go_upto_region 5 with (first
  | (go_at_call 123
     (with_reducible refine CF.out.mono ?_)
     rintro e W3 ⟨A3,c3,rfl,dp,dj,cg⟩
     have cr:=LH dp
     have cu:=LH dj
     have fb:=LH (co.out.trans cg)
     have bi:Hid (Blk W3 W 52 #[.int .i64 d.left, .slice T d.right.length V, .int .i64 d.prec]):=LH ((cg.2 W bh.out.lt ⟨0, .i64,d.left,bh.out.cell 0⟩).trans bh.out)
     clear dp dj cg))
 obtain ⟨S5,A5,c5,T5⟩:=cu.out
 have g0:W3.cell? ⟨B,0,none⟩=some (.pointer (some ⟨gc,0,none⟩)):=T5.box.cell 0
 have g1:=T5.box.lt
 have b2:W3.cell? ⟨gc,2,none⟩=some (.slice (some ⟨J,L,none⟩) n3 d3):=T5.bk.box.cell 2
 have b4:=T5.bk.box.lt
 have cw:=LH T5
 have ha:(D:Int)≤(d3:Int):=by have:=f4.1;omega
 have hc:(0:Int)≤(D:Int):=by omega
 clear T5 cu CF bh co cp y1 yl
 go_upto_region 6 with fail
 go_loopw [6,53] (fun v i wr=>∃ (j:Nat) (Av:Option Addr) (cv:Nat) (S A:_) (c:Nat),i = .int .i64 (j:Int)∧j≤D∧v = .slice Av (limbs (q+aheadR (treeN G) G.rules (nonI s) j n)).length cv∧Hid (Nums .u32 wr Av (limbs (q+aheadR (treeN G) G.rules (nonI s) j n)).length cv (limbs (q+aheadR (treeN G) G.rules (nonI s) j n)))∧Hid (TlIn W0 ⟨gc,gt⟩ ⟨a1,n1,d1,a2,n2,d2,some ⟨J,L,none⟩,n3,d3⟩ G B z S A c wr)∧Hid (IntKeep W3 wr)) (fun _ i _=>D - (intOf i).toNat)
 case atStart=>exact ⟨0,A3,c3,S5,A5,c5,rfl,Nat.zero_le _,by rw [aheadR_zero,Nat.add_zero],LH (by rw [aheadR_zero,Nat.add_zero];exact cr.out),cw,LH ⟨Nat.le_refl _,fun _ _ _=>rfl⟩⟩
 case round =>
  clear cr cw g0 g1 b2 b4
  obtain ⟨j,Av,cv,S',A',c',rfl,hj,rfl,HN,HM,a7⟩:=hrel
  obtain ⟨v,hv⟩:∃ v,q+aheadR (treeN G) G.rules (nonI s) j n=v:=⟨_,rfl⟩
  rw [hv] at HN ⊢
  have Hv:=LH hv
  clear hv
  have M:=HM.out
  have X5:=(a7.out.2 W bi.out.lt ⟨0, .i64,d.left,bi.out.cell 0⟩).trans bi.out
  have f0:wr.cell? ⟨W,0,none⟩=some (.int .i64 d.left):=Blk.cell (cs:=#[.int .i64 d.left, .slice T d.right.length V, .int .i64 d.prec]) X5 0
  have fl:=Nat.lt_of_lt_of_le bi.out.lt a7.out.1
  by_cases hd:j < D
  case neg =>
   obtain rfl:j=D:=by omega
   have bu:=LH (fb.out.trans a7.out)
   have Hr:Hid (v=r):=LH (by have h1:=Hv.out;have h2:=fn.out;omega)
   clear M X5
   go_wp2_with fail
   go_ret2
   have hr:=Hr.out
   subst hr
   exact ⟨Av,cv,rfl,HN.out,⟨S',A',c',HM.out⟩,bu.out⟩
  case pos =>
   obtain ⟨y,hy⟩:∃ y,G.rules[j]? = some y:=⟨_,List.getElem?_eq_getElem (by omega)⟩
   obtain ⟨Ay,cy,q0,q1,q2,df⟩:=ct.out j y hy
   have e0:=(M.bk.base.cell (p:=⟨J,L+j * 3,none⟩) am).trans q0
   have e1:=(M.bk.base.cell (p:=⟨J,L+j * 3+1,none⟩) am).trans q1
   have e2:=(M.bk.base.cell (p:=⟨J,L+j * 3+2,none⟩) am).trans q2
   have cf:=Nat.lt_of_lt_of_le am M.bk.base.size
   have fa:=LH df
   have Hy:=LH hy
   have ag:=alloc_below wr (.cells #[.int .i64 y.left, .slice Ay y.right.length cy, .int .i64 y.prec] 52)
   have Y:=Blk.new wr 52 #[.int .i64 y.left, .slice Ay y.right.length cy, .int .i64 y.prec]
   have dk:Blk wr W 52 #[.int .i64 d.left, .slice T d.right.length V, .int .i64 d.prec]:=X5
   have cd:=dk.ext ag
   have P:=LH (M.below ag)
   have bt:=LH (a7.out.trans (.of_below ag))
   have bx:=LH (HN.out.below ag)
   clear M X5 dk q0 q1 q2 df hy ag HM HN a7
   go_upto_region 8 with fail
   clear e0 e1 e2 cf f0 fl
   generalize wr.alloc (.cells #[.int .i64 y.left, .slice Ay y.right.length cy, .int .i64 y.prec] 52)=W4 at *
   generalize wr.heap.size=g9 at *
   have z0:W4.cell? ⟨g9,0,none⟩=some (.int .i64 y.left):=Y.cell 0
   have z1:W4.cell? ⟨g9,1,none⟩=some (.slice Ay y.right.length cy):=Y.cell 1
   have zl:=Y.lt
   have f0:W4.cell? ⟨W,0,none⟩=some (.int .i64 d.left):=cd.cell 0
   have fl:=cd.lt
   have bz:=LH Y
   clear Y cd
   have bn:=c1.out j y Hy.out
   have fc:=LH bn.1
   have fi:=LH bn.2.1
   have hf:=bn.2.2
   clear bn
   by_cases bp:y.left=d.left
   case neg =>
    have f9:(y.left == d.left)=false:=by rw [beq_eq_false_iff_ne];exact bp
    have ay:Hid (q+aheadR (treeN G) G.rules (nonI s) (j+1) n=v):=LH (by
     have h1:=c7.out
     rw [c2.out j y Hy.out,if_neg (by omega)]
     exact Hv.out)
    clear bp
    go_wp2_with fail
    go_roundw
    case rel=>exact ⟨j+1,Av,cv,S',A',c',by go_num,by omega,by rw [ay.out],LH (by rw [ay.out];exact bx.out),P,bt⟩
    case measure=>simp [intOf] <;> omega
   case pos =>
    have f9:(y.left == d.left)=true:=by rw [beq_iff_eq];exact bp
    obtain ⟨x,c8⟩:∃ x,Hid (forestT (treeN G) y.right n=x):=⟨_,LH rfl⟩
    have gb:aheadR (treeN G) G.rules (nonI s) (j+1) n=aheadR (treeN G) G.rules (nonI s) j n+x:=by
     have h1:=c7.out
     rw [c2.out j y Hy.out,if_pos (by omega),c8.out]
    have ay:Hid (q+aheadR (treeN G) G.rules (nonI s) (j+1) n=v+x):=LH (by have:=Hv.out;omega)
    have dv:v+x < big:=by
     have h1:=ay.out
     have h2:=fj.out (j+1) (by omega)
     have h3:=c4.out
     have h4:=Hq.out
     have h5:=cz.out
     omega
    have fo:=LH dv
    have d7:Hid (x < big):=LH (by omega)
    clear bp gb dv
    go_upto_region 9 with fail
    generalize v=vv at *
    refine wp_region_freeA (Γ:=Unit) (fun _ b u X=>(BkAt W0 ⟨gc,gt⟩ ⟨a1,n1,d1,a2,n2,d2,some ⟨J,L,none⟩,n3,d3⟩ G S' X∧Off (BkH.map ⟨gc,gt⟩) W4 X)∧KeepV b u 11 (.slice Av (limbs vv).length cv)) (fun X X'=>IntKeep X X') () (fun u=>(⟨(.pointer (some ⟨B,0,none⟩)::undef :: .slice none 0 0 :: .int .i64 0 :: .int .i64 (D:Int) :: .pointer (some ⟨W,0,none⟩)::u 11 :: .int .i64 (n:Int)::undef :: .pointer (some ⟨g9,0,none⟩) :: .pointer (some ⟨B,0,none⟩) :: .pointer (some ⟨B,0,none⟩) :: .pointer (some ⟨B,1,none⟩) :: .slice (some ⟨ab,ao,none⟩) (Z.length+1) c :: .pointer (some ⟨ab,ao,none⟩) :: .int .i64 (D:Int) :: .pointer (some ⟨B,0,none⟩) :: .pointer (some ⟨B,0,none⟩) :: .pointer (some ⟨B,0,none⟩) :: .pointer (some ⟨B,1,none⟩) :: .slice (some ⟨ab,ao,none⟩) (Z.length+1) c :: .slice At Z.length (c - 1) :: .pointer (some ⟨B,0,none⟩) :: .pointer (some ⟨B,1,none⟩) :: .pointer (some ⟨B,0,none⟩) :: .pointer (some ⟨B,0,none⟩) :: .pointer (some ⟨B,0,none⟩) :: .pointer (some ⟨gc,0,none⟩) :: .pointer (some ⟨gc,0,none⟩) :: .pointer (some ⟨gc,0,none⟩) :: .pointer (some ⟨gc,2,none⟩) :: .slice (some ⟨J,L,none⟩) G.rules.length d3 :: .int .i64 (D:Int) :: .pointer (some ⟨J,L+D * 3,none⟩) :: .agg #[.int .i64 d.left, .slice T d.right.length V, .int .i64 d.prec] :: .tuple #[.slice A3 (limbs q).length c3, .int .i64 (n:Int)] :: .pointer (some ⟨B,0,none⟩) :: .pointer (some ⟨W,1,none⟩) :: .slice T d.right.length V :: .tuple #[.slice A3 (limbs q).length c3, .int .i64 (n:Int)] :: .slice A3 (limbs q).length c3 :: .int .i64 (n:Int) :: .pointer (some ⟨B,0,none⟩) :: .pointer (some ⟨B,0,none⟩) :: .pointer (some ⟨B,0,none⟩) :: .pointer (some ⟨gc,0,none⟩) :: .pointer (some ⟨gc,0,none⟩) :: .pointer (some ⟨gc,0,none⟩) :: .pointer (some ⟨gc,2,none⟩) :: .slice (some ⟨J,L,none⟩) G.rules.length d3 :: .int .i64 (D:Int) :: .slice (some ⟨J,L,none⟩) D d3 :: .int .i64 (D:Int) :: .int .i64 (j:Int) :: .bool true :: .pointer (some ⟨J,L+j * 3,none⟩) :: .agg #[.int .i64 y.left, .slice Ay y.right.length cy, .int .i64 y.prec] :: .pointer (some ⟨g9,0,none⟩) :: .int .i64 y.left :: .pointer (some ⟨W,0,none⟩) :: .int .i64 d.left :: .bool true::u 0::u 1::u 2::u 3::u 4::u 5::u 6::u 7::u 8::u 9::u 10::u73::undef::undef::[]).toArray,[]⟩:Act)) [u62,u63,u64,u65,u66,u67,u68,u69,u70,u71,u72, .slice Av (limbs vv).length cv] [fun v X=>v = .slice Av (limbs vv).length cv,fun v X=>v = .pointer (some ⟨B,0,none⟩),fun v X=>v = .pointer (some ⟨B,0,none⟩),fun v X=>v = .pointer (some ⟨B,0,none⟩),fun v X=>v = .pointer (some ⟨gc,0,none⟩),fun v X=>v = .pointer (some ⟨g9,1,none⟩),fun v X=>v = .slice Ay y.right.length cy,fun v X=>v = .int .i64 (n:Int),fun v X=>∃ A1 ap aj av,v = .agg #[.slice A1 ap aj, .bool av]∧ValN X A1 ap aj av x,fun v X=>∃ H I,v = .slice H (limbs (x)).length I∧Nums .u32 X H (limbs (x)).length I (limbs (x)),fun v X=>∃ H I,v = .slice H (limbs (vv+x)).length I∧Nums .u32 X H (limbs (vv+x)).length I (limbs (vv+x)),fun v X=>∃ H I,v = .slice H (limbs (vv+x)).length I∧Nums .u32 X H (limbs (vv+x)).length I (limbs (vv+x))] (l:=[_,_,_,_,_,_,_,_,_,_,_,_]) (by kernel_rfl) (by kernel_rfl) rfl ⟨⟨P.out.bk.below (Below.refl _ _).drew,Off.of_below (Below.refl _ _).drew⟩,fun _=>rfl⟩ ⟨fun _ _ _ h _=>h,fun _ _ _ h _=>h,fun _ _ _ h _=>h,fun _ _ _ h _=>h,fun _ _ _ h _=>h,fun _ _ _ h _=>h,fun _ _ _ h _=>h,fun _ _ _ h _=>h,(fun v X X' ⟨A1,ap,aj,av,e,h⟩ N=>⟨A1,ap,aj,av,e,h.kept N⟩),(fun v X X' ⟨H,I,e,h⟩ N=>⟨H,I,e,h.kept N⟩),(fun v X X' ⟨H,I,e,h⟩ N=>⟨H,I,e,h.kept N⟩),(fun v X X' ⟨H,I,e,h⟩ N=>⟨H,I,e,h.kept N⟩),trivial⟩ ?_ ?_
    · refine StepsG.cons rfl (fun _ _=>rfl) (fun Q g b u X C O a f K E=>?_) ?_
      · have f3:b 11=false:=Bool.eq_false_iff.2 fun h=>by
         have h0:=C 11 _ rfl h 10 rfl
         have h1:=C 10 _ rfl h0 0 rfl
         exact absurd (O.symm.trans h1) (by decide)
        have bb:u 11=_:=a.2 f3
        have F:=fun v=>a.2.other 0 v (by decide)
        have o:=a.1
        clear f a C
        generalize u 11=xk at *
        subst bb
        go_simp
        exact E _ () _ ⟨Nat.le_refl _,fun _ _ _=>rfl⟩ ⟨o,F _⟩ rfl
      refine StepsG.cons rfl (fun _ _=>rfl) (fun Q g b u X C O a f K E=>?_) ?_
      · have F:=fun v=>a.2.other 1 v (by decide)
        have o:=a.1
        clear f a C
        go_simp
        exact E _ () _ ⟨Nat.le_refl _,fun _ _ _=>rfl⟩ ⟨o,F _⟩ rfl
      refine StepsG.cons rfl (fun _ _=>rfl) (fun Q g b u X C O a f K E=>?_) ?_
      · have p1:u 1=_:=(f 1 rfl).2
        have F:=fun v=>a.2.other 2 v (by decide)
        have o:=a.1
        clear f a C
        generalize u 1=x1 at *
        subst p1
        go_simp
        exact E _ () _ ⟨Nat.le_refl _,fun _ _ _=>rfl⟩ ⟨o,F _⟩ rfl
      refine StepsG.cons rfl (fun _ _=>rfl) (fun Q g b u X C O a f K E=>?_) ?_
      · have p2:u 2=_:=(f 2 rfl).2
        have F:=fun v=>a.2.other 3 v (by decide)
        have o:=a.1
        clear f a C
        generalize u 2=x2 at *
        subst p2
        go_simp
        exact E _ () _ ⟨Nat.le_refl _,fun _ _ _=>rfl⟩ ⟨o,F _⟩ rfl
      refine StepsG.cons rfl (fun _ _=>rfl) (fun Q g b u X C O a f K E=>?_) ?_
      · have p3:u 3=_:=(f 3 rfl).2
        have F:=fun v=>a.2.other 4 v (by decide)
        have o:=a.1
        have gX:=o.2.blk P.out.box (P.out.bk.not_map P.out.box)
        have y0:X.cell? ⟨B,0,none⟩=some (.pointer (some ⟨gc,0,none⟩)):=gX.cell 0
        have yl:=gX.lt
        clear gX
        clear f a C
        generalize u 3=x3 at *
        subst p3
        go_simp
        exact E _ () _ ⟨Nat.le_refl _,fun _ _ _=>rfl⟩ ⟨o,F _⟩ rfl
      refine StepsG.cons rfl (fun _ _=>rfl) (fun Q g b u X C O a f K E=>?_) ?_
      · have F:=fun v=>a.2.other 5 v (by decide)
        have o:=a.1
        clear f a C
        go_simp
        exact E _ () _ ⟨Nat.le_refl _,fun _ _ _=>rfl⟩ ⟨o,F _⟩ rfl
      refine StepsG.cons rfl (fun _ _=>rfl) (fun Q g b u X C O a f K E=>?_) ?_
      · have p5:u 5=_:=(f 5 rfl).2
        have F:=fun v=>a.2.other 6 v (by decide)
        have o:=a.1
        have gX:=o.2.blk bz.out (P.out.bk.not_map bz.out)
        have y0:X.cell? ⟨g9,1,none⟩=some (.slice Ay y.right.length cy):=gX.cell 1
        have yl:=gX.lt
        clear gX
        clear f a C
        generalize u 5=x5 at *
        subst p5
        go_simp
        exact E _ () _ ⟨Nat.le_refl _,fun _ _ _=>rfl⟩ ⟨o,F _⟩ rfl
      refine StepsG.cons rfl (fun _ _=>rfl) (fun Q g b u X C O a f K E=>?_) ?_
      · have F:=fun v=>a.2.other 7 v (by decide)
        have o:=a.1
        clear f a C
        go_simp
        exact E _ () _ ⟨Nat.le_refl _,fun _ _ _=>rfl⟩ ⟨o,F _⟩ rfl
      refine StepsG.cons rfl (fun _ _=>rfl) (fun Q g b u X C O a f K E=>?_) ?_
      · have p4:u 4=_:=(f 4 rfl).2
        have p6:u 6=_:=(f 6 rfl).2
        have p7:u 7=_:=(f 7 rfl).2
        have F:=fun v=>a.2.other 8 v (by decide)
        have o:=a.1
        have CC:=tr_bof HB.out fc.out fi.out S' X Ay cy o.1 (fun b N=>Nat.lt_of_lt_of_le (P.out.lt b N) o.2.size) (fa.out.below o.1.base)
        clear f a C
        generalize u 4=x4 at *
        subst p4
        generalize u 6=x6 at *
        subst p6
        generalize u 7=x7 at *
        subst p7
        go_simp
        go_at_call 125
        (with_reducible refine CC.mono ?_)
        rintro e X' ⟨fx,di,A1,ap,aj,av,rfl,hv⟩
        rw [c8.out] at hv
        go_simp
        exact E _ () _ (o.1.keep di) ⟨⟨fx,o.2.map_trans di⟩,F _⟩ ⟨A1,ap,aj,av,rfl,hv⟩
      refine StepsG.cons rfl (fun _ _=>rfl) (fun Q g b u X C O a f K E=>?_) ?_
      · obtain ⟨A1,ap,aj,av,p8,hv⟩:=(f 8 rfl).2
        have F:=fun v=>a.2.other 9 v (by decide)
        have o:=a.1
        have dh:Nums .u32 X A1 ap aj (limbs x):=by
         have h1:=hv.2
         rwa [capV_small d7.out] at h1
        obtain rfl:=dh.len
        clear f a C
        generalize u 8=x8 at *
        subst p8
        go_simp
        exact E _ () _ ⟨Nat.le_refl _,fun _ _ _=>rfl⟩ ⟨o,F _⟩ ⟨_,_,rfl,dh⟩
      refine StepsG.cons rfl (fun _ _=>rfl) (fun Q g b u X C O a f K E=>?_) ?_
      · have p0:u 0=_:=(f 0 rfl).2
        obtain ⟨H,I,p9,ch⟩:=(f 9 rfl).2
        have F:=fun v=>a.2.other 10 v (by decide)
        have o:=a.1
        have fy:=bx.out.kept (P.out.bk.keep o.2)
        have CC:=tr_radd Av cv vv H I x X fy ch fo.out
        clear f a C
        generalize u 0=d at *
        subst p0
        generalize u 9=x9 at *
        subst p9
        go_simp
        go_at_call 124
        (with_reducible refine CC.mono ?_)
        rintro e X' ⟨A9,c9,rfl,f8,N⟩
        go_simp
        exact E _ () _ (.of_below N) ⟨⟨o.1.below N,o.2.map_trans (Off.of_below N)⟩,F _⟩ ⟨A9,c9,rfl,f8⟩
      refine StepsG.cons rfl (fun _ _=>rfl) (fun Q g b u X C O a f K E=>?_) ?_
      · obtain ⟨H,I,gh,ch⟩:=(f 10 rfl).2
        have F:=fun v=>a.2.done 11 v
        have o:=a.1
        clear f a C
        generalize u 10=h8 at *
        subst gh
        go_simp
        exact E _ () _ ⟨Nat.le_refl _,fun _ _ _=>rfl⟩ ⟨o,F _⟩ ⟨_,_,rfl,ch⟩
      exact StepsG.nil
    intro _ b9 u X9 f2 a6 f
    obtain ⟨a6,f6⟩:=a6
    clear f2 f6
    obtain ⟨H,I,dy,dq⟩:=f 11 (by decide)
    clear f b9
    rw [dy]
    clear dy
    generalize u 0=w0 at *
    generalize u 1=w1 at *
    generalize u 2=w2 at *
    generalize u 3=w3 at *
    generalize u 4=w4 at *
    generalize u 5=w5 at *
    generalize u 6=w6 at *
    generalize u 7=w7 at *
    generalize u 8=w8 at *
    generalize u 9=w9 at *
    generalize u 10=hk at *
    clear u
    have fd:=LH (P.out.off a6.1 a6.2)
    have bu:=LH (bt.out.trans (P.out.bk.keep a6.2))
    have ff:=LH dq
    clear z0 z1 zl f0 fl a6 dq P bt bx bz
    go_wp2_with fail
    go_roundw
    case rel=>exact ⟨j+1,H,I,S',A',c',by go_num,by omega,by rw [ay.out],LH (by rw [ay.out];exact ff.out),fd,bu⟩
    case measure=>simp [intOf] <;> omega
section
variable {w:World}
theorem wpl_span {ops:Array Oper} {rest:List Oper} {o:Oper} {a:Act} {Q:Exit→Act→World→Prop} (f:o.guard=none) (x:Operand) (g:o.op = .field 174 x 0) (A:Option Addr) (n c:Nat) (d:Bool) (j:a.eval x = .agg #[.slice A n c, .bool d])
 (h:wpList Tryz.prog ops Q rest (a.put o.dst (.slice A n c)) w):wpList Tryz.prog ops Q (o::rest) a w:=by
 refine wpList_plain f fun K b=>?_
 unfold Oper.wp execOp
 simp only [g,j]
 go_simp
 exact b _ _ h
end
theorem tr_tforest {N:World} {k:BkH} {h:GH} {G:Gr} (hB:BkG N h G) (hP:Plain G) (m:Nat) (HT:TT N k h G m):FT N k h G m:=by
 intro I l
 induction l with
 | nil =>
   intro n r t z Al O w dc hU ai a3 f hh hl a0
   cases hU
   have dw:=LH a0
   clear ai a3 f hh hl a0
   go_enter Tryz.func123,Tryz.ntmps123
   go_wp2_with fail
   go_ret2
   exact ⟨none,0,by rw [limbs_zero];rfl,by rw [limbs_zero];exact Nums.nil _ _ _ _ (by omega),dw.out,⟨Nat.le_refl _,fun _ _ _=>rfl⟩⟩
 | cons s E ih =>
   intro n r t z Al O w dc hU ai a3 f hh hl a0
   obtain ⟨kk,q,U,t1,t2,fn,da,bs,hq,cw,rfl,c2,c0⟩:=hU.parts hP ai
   obtain ⟨cu,hF,c7⟩:=part_small fn hq bs a3
   have cy:=hU.lt hP ai
   obtain ⟨V,Y,s',rfl,cx,cf,db⟩:=hl.get (j:=0) (by simp)
   obtain rfl:s=s':=by
    have:=cf.out
    simpa using this
   have fo:=hl.cap
   have fp:=f.len
   have gi:=f.n
   have az:=hl.tail1
   rw [show (s::E).length - 1=E.length from rfl] at az
   obtain ⟨At,fd⟩:∃ At:Option Addr,(if O=1 then some (⟨V,Y,none⟩:Addr) else some ⟨V,Y+1,none⟩)=At:=⟨_,rfl⟩
   rw [fd] at az
   have a1:TlAt N k h G I (t1.map (fun i:Nat=>(i:Int))++(t2.map (fun i:Nat=>(i:Int))++z)) w:=by
    rw [← List.append_assoc,← List.map_append]
    exact a0
   rw [List.length_append] at dc
   simp only [List.length_cons] at fp fo ⊢
   have gd:(1:Int)≤(O:Int):=by omega
   have gh:(1:Int)≤(E.length:Int)+1:=by omega
   have gg:((E.length:Int)+1 == 0)=false:=by rw [beq_eq_false_iff_ne];omega
   have K2:Hid (KeyOK E (n - kk)):=LH ⟨fun x hx=>f.sym x (.tail _ hx),by omega,by omega⟩
   have H2:Hid (∀ x ∈ E,G.has x=true):=LH fun x hx=>hh x (.tail _ hx)
   have gk:=(f.sym s (List.mem_cons_self ..)).1
   have gm:=(f.sym s (List.mem_cons_self ..)).2
   have CF:Hid (∀ W,TlAt N k h G I (t2.map (fun i:Nat=>(i:Int))++z) W→Calls Tryz.prog 123 #[.pointer (some ⟨I,0,none⟩), .slice At E.length (O - 1)] W (TlRet N k h G I z (n - kk) U W)):=LH fun W hW=>ih (n - kk) U t2 z At (O - 1) W (by omega) cw ai.tail hF K2.out H2.out az hW
   have CT:Hid (s < 0→Calls Tryz.prog 73 #[.pointer (some ⟨I,0,none⟩)] w (TlRet N k h G I (t2.map (fun i:Nat=>(i:Int))++z) kk q w)):=LH fun hs=>HT I s kk q t1 _ w (by omega) hs (ai s (List.mem_cons_self ..) hs) (c0 hs) cu (by omega) a1
   have b8:Hid (0≤s→q=0∧kk=1∧TlAt N k h G I (t2.map (fun i:Nat=>(i:Int))++z) w):=LH fun hs=>by
    obtain ⟨e1,e2,e3⟩:=c2 hs
    subst e1
    exact ⟨e2,e3,a1⟩
   have dx:=LH a1
   have HB:=LH hB
   have HL:=LH hl
   have di:=LH az
   have HK:=LH f
   have Hh:=LH hh
   have ce:=LH da
   have d2:=LH bs
   have HF:=LH hF
   have ga:=LH c7
   have cd:=LH cy
   have cc:=LH a3
   have bp:Below N.heap.size N w:=by
    obtain ⟨S,A,c,M⟩:=a1
    exact M.bk.base
   have e0:w.cell? ⟨V,Y,none⟩=some (.int .i64 s):=(bp.cell (p:=⟨V,Y+0,none⟩) cx).trans db
   have el:=Nat.lt_of_lt_of_le cx bp.size
   have gj:IntKind.i64.wrap ((kk:Int)+((n - kk:Nat):Int))=(n:Int):=by rw [IntWalk.i64_in _ (by omega)];omega
   clear hB hP HT ih hU ai a3 f hh hl a0 a1 da bs hq cw c2 c0 cu hF c7 cy az db cf bp
   go_enter Tryz.func123,Tryz.ntmps123
   go_upto_if 20 with fail
   go_cut [6,7] (fun v6 v7 wx=>∃ (A6:Option Addr) (c6:Nat),v6 = .slice A6 (limbs q).length c6∧v7 = .int .i64 (kk:Int)∧Hid (Nums .u32 wx A6 (limbs q).length c6 (limbs q))∧Hid (TlAt N k h G I (t2.map (fun i:Nat=>(i:Int))++z) wx)∧Hid (IntKeep w wx))
   case first =>
    by_cases hs:s < 0
    case pos =>
     have CT:=LH (CT.out hs)
     go_wp2_with (first
      | (go_at_call 73
         (with_reducible refine CT.out.mono ?_)
         rintro e W2 ⟨A6,c6,rfl,fq,bb,fl⟩))
     go_meet
     exact ⟨A6,c6,rfl,rfl,LH fq,LH bb,LH fl⟩
    case neg =>
     obtain ⟨rfl,rfl,bb⟩:=b8.out (by omega)
     have a8:=LH bb
     clear bb
     go_wp2_with fail
     go_meet
     exact ⟨none,0,by rw [limbs_zero];rfl,rfl,LH (by rw [limbs_zero];exact Nums.nil _ _ _ _ (by omega)),a8,LH ⟨Nat.le_refl _,fun _ _ _=>rfl⟩⟩
   case rest =>
    obtain ⟨A6,c6,rfl,rfl,b5,a8,b3⟩:=hcut
    have bx:=LH (CF.out wc a8.out)
    clear CF CT b8 dx a8 e0 el
    go_upto_region 8 with (first
     | (go_at_call 123
        (with_reducible refine bx.out.mono ?_)
        rintro e W3 ⟨A3,c3,rfl,cz,ct,bq⟩
        have b4:=LH cz
        have ca:=LH ct
        have b6:=LH (b5.out.kept bq)
        have b2:=LH (b3.out.trans bq)
        clear cz ct bq))
    clear bx b5 b3
    go_upto_region 10 with fail
    obtain ⟨S3,A5,c5,T3⟩:=ca.out
    have cb:=LH T3
    clear T3 ca
    go_loopw [8,37] (fun v i wr=>∃ (j:Nat) (Av:Option Addr) (cv:Nat),i = .int .i64 (j:Int)∧j≤kk∧v = .slice Av (limbs (U+aheadK (treeN G) s E n j)).length cv∧Hid (Nums .u32 wr Av (limbs (U+aheadK (treeN G) s E n j)).length cv (limbs (U+aheadK (treeN G) s E n j)))∧Hid (TlIn N k h G I z S3 A5 c5 wr)∧Hid (IntKeep W3 wr)) (fun _ i _=>kk - (intOf i).toNat)
    case atStart=>exact ⟨0,A3,c3,rfl,Nat.zero_le _,by rw [aheadK_zero,Nat.add_zero],LH (by rw [aheadK_zero,Nat.add_zero];exact b4.out),cb,LH ⟨Nat.le_refl _,fun _ _ _=>rfl⟩⟩
    case round =>
     clear b4 cb
     obtain ⟨j,Av,cv,rfl,hj,rfl,HN,J,a7⟩:=hrel
     obtain ⟨v,hv⟩:∃ v,U+aheadK (treeN G) s E n j=v:=⟨_,rfl⟩
     rw [hv] at HN ⊢
     have Hv:=LH hv
     clear hv
     have g0:wr.cell? ⟨I,0,none⟩=some (.pointer (some ⟨k.c,0,none⟩)):=J.out.box.cell 0
     have gl:=J.out.box.lt
     by_cases gf:j < kk
     case pos =>
      obtain ⟨x,hx⟩:∃ x,treeN G s j * forestT (treeN G) E (n - j)=x:=⟨_,rfl⟩
      have bh:Hid (U+aheadK (treeN G) s E n (j+1)=v+x):=LH (by
       rw [aheadK_succ,hx]
       have:=Hv.out
       omega)
      have cg:Hid (v+x < big):=LH (by
       have h1:=bh.out
       have h2:=aheadK_mono (treeN G) s E n (show j+1≤kk by omega)
       have h3:=ce.out
       have h4:=cd.out
       have h5:=cc.out
       omega)
      have dy:Hid (x < big):=LH (by have:=cg.out;omega)
      have CP:Calls Tryz.prog 176 #[.pointer (some ⟨k.c,0,none⟩), .slice (some ⟨V,Y,none⟩) (E.length+1) O, .int .i64 (j:Int), .int .i64 (n:Int)] wr (BkRet N k h G S3 wr x):=by
       have h1:=tr_pair HB.out (s:=s) (l:=E) (kk:=j) (n:=n) HK.out (by omega) Hh.out S3 wr (some ⟨V,Y,none⟩) O J.out.bk J.out.lt HL.out
       rw [fsingle,hx] at h1
       exact h1
      have CP:=LH CP
      clear hx
      go_wp2_with (first
       | (go_at_call 176
          (with_reducible refine CP.out.mono ?_)
          rintro e W4 ⟨cp,bn,A8,n8,c8,d8,rfl,dd⟩
          have bm:Nums .u32 W4 A8 n8 c8 (limbs x):=by
           have h1:=dd.2
           rwa [capV_small dy.out] at h1
          obtain rfl:=bm.len
          have br:=J.out.bk.keep bn
          have dr:=LH (J.out.off cp bn)
          have dl:=LH (a7.out.trans br)
          have CO:=LH (tr_radd Av cv v A8 c8 x W4 (HN.out.kept br) bm cg.out)
          clear cp bn dd br bm)
       | (refine wpl_span rfl _ rfl A8 _ c8 d8 rfl ?_)
       | (go_at_call 124
          (with_reducible refine CO.out.mono ?_)
          rintro e W5 ⟨A9,c9,rfl,P,au⟩
          have ds:=LH (dr.out.below au)
          have dm:=LH (dl.out.trans (.of_below au))
          have du:=LH P
          clear au P))
      go_roundw
      case rel=>exact ⟨j+1,A9,c9,by go_num,by omega,by rw [bh.out],LH (by rw [bh.out];exact du.out),ds,dm⟩
      case measure=>simp [intOf] <;> omega
     case neg =>
      obtain rfl:j=kk:=by omega
      obtain ⟨F,ba⟩:∃ F,Hid (forestT (treeN G) E (n - j)=F):=⟨_,LH rfl⟩
      have b1:Hid (F < big):=LH (by rw [← ba.out];exact HF.out)
      have a9:Hid (v+q * F=r):=LH (by
       rw [← ba.out]
       have h1:=Hv.out
       have h2:=ce.out
       omega)
      have bg:Hid (r < big):=LH (by have h1:=cd.out;have h2:=cc.out;omega)
      have d0:Hid (q < big):=LH (by
       have h1:=a9.out
       have h2:=bg.out
       have h3:0 < F:=by rw [← ba.out];have:=d2.out;omega
       have h4:q≤q * F:=Nat.le_mul_of_pos_right _ h3
       omega)
      have HQ:=LH (b6.out.kept a7.out)
      have dn:=LH (b2.out.trans a7.out)
      clear b6 b2 a7
      have d1:Hid (q * F < big):=LH (by have h1:=a9.out;have h2:=bg.out;omega)
      go_upto_region 14 with fail
      refine wp_region_freeA (Γ:=Unit) (fun _ b u X=>(BkAt N k h G S3 X∧Off k.map wr X)∧KeepV b u 99 undef) (fun X R=>IntKeep X R) () (fun u=>(⟨(.pointer (some ⟨I,0,none⟩) :: .slice (some ⟨V,Y,none⟩) (E.length+1) O::undef::undef :: .slice none 0 0 :: .int .i64 0 :: .slice A6 (limbs q).length c6 :: .int .i64 (j:Int) :: .slice Av (limbs v).length cv :: .int .i64 ((n - j:Nat):Int) :: .int .i64 (n:Int)::u11::u 14::u 15::u14::u15::u16::u17::u18::u19::u20::u21::u22::u23::u24::u25 :: .tuple #[.slice A3 (limbs U).length c3, .int .i64 ((n - j:Nat):Int)] :: .pointer (some ⟨I,0,none⟩) :: .slice (some ⟨V,Y,none⟩) (E.length+1) O :: .slice At E.length (O - 1) :: .tuple #[.slice A3 (limbs U).length c3, .int .i64 ((n - j:Nat):Int)] :: .slice A3 (limbs U).length c3 :: .int .i64 ((n - j:Nat):Int) :: .int .i64 (j:Int) :: .int .i64 ((n - j:Nat):Int) :: .int .i64 (n:Int) :: .int .i64 (j:Int) :: .int .i64 (j:Int) :: .bool false::u39::u40::u41::u42::u43::u44::u45::u46::u47::u48::u49::u50::u51::u 11::u 0::u 1::u 2::u 3::u 4::u 5::u 6::u 7::u 8::u 9::u 10::u 12::u 13::u66::u67::u68::u69::[]).toArray,[]⟩:Act)) [u53,u54,u55,u56,u57,u58,u59,u60,u61,u62,u63,u52,u64,u65,undef,undef] [fun v X=>v = .slice A6 (limbs q).length c6,fun v X=>v = .pointer (some ⟨I,0,none⟩),fun v X=>v = .pointer (some ⟨I,0,none⟩),fun v X=>v = .pointer (some ⟨I,0,none⟩),fun v X=>v = .pointer (some ⟨k.c,0,none⟩),fun v X=>v = .slice (some ⟨V,Y,none⟩) (E.length+1) O,fun v X=>v = .slice At E.length (O - 1),fun v X=>v = .int .i64 ((n - j:Nat):Int),fun v X=>∃ Z ag ad ah,v = .agg #[.slice Z ag ad, .bool ah]∧ValN X Z ag ad ah F,fun v X=>∃ y B,v = .slice y (limbs (F)).length B∧Nums .u32 X y (limbs (F)).length B (limbs (F)),fun v X=>∃ y B T,v = .tuple #[.slice y (limbs (q * F)).length B, .int .i64 T]∧Nums .u32 X y (limbs (q * F)).length B (limbs (q * F)),fun v X=>∃ y B T,v = .tuple #[.slice y (limbs (q * F)).length B, .int .i64 T]∧Nums .u32 X y (limbs (q * F)).length B (limbs (q * F)),fun v X=>∃ y B,v = .slice y (limbs (q * F)).length B∧Nums .u32 X y (limbs (q * F)).length B (limbs (q * F)),fun v X=>∃ z9:Int,v = .int .i64 z9,fun v X=>∃ y B,v = .slice y (limbs (q * F)).length B∧Nums .u32 X y (limbs (q * F)).length B (limbs (q * F)),fun v X=>∃ z9:Int,v = .int .i64 z9] (l:=[_,_,_,_,_,_,_,_,_,_,_,_,_,_,_,_]) (by kernel_rfl) (by kernel_rfl) rfl ⟨⟨J.out.bk.below (Below.refl _ _).drew,Off.of_below (Below.refl _ _).drew⟩,fun _=>rfl⟩ ⟨fun _ _ _ h _=>h,fun _ _ _ h _=>h,fun _ _ _ h _=>h,fun _ _ _ h _=>h,fun _ _ _ h _=>h,fun _ _ _ h _=>h,fun _ _ _ h _=>h,fun _ _ _ h _=>h,(fun v X R ⟨Z,ag,ad,ah,e,h⟩ H=>⟨Z,ag,ad,ah,e,h.kept H⟩),(fun v X R ⟨y,B,e,h⟩ H=>⟨y,B,e,h.kept H⟩),(fun v X R ⟨y,B,T,e,h⟩ H=>⟨y,B,T,e,h.kept H⟩),(fun v X R ⟨y,B,T,e,h⟩ H=>⟨y,B,T,e,h.kept H⟩),(fun v X R ⟨y,B,e,h⟩ H=>⟨y,B,e,h.kept H⟩),(fun v X R h _=>h),(fun v X R ⟨y,B,e,h⟩ H=>⟨y,B,e,h.kept H⟩),(fun v X R h _=>h),trivial⟩ ?_ ?_
      · refine StepsG.cons rfl (fun _ _=>rfl) (fun Q g b u X D L a d K f=>?_) ?_
        · have C:=fun v=>a.2.other 0 v (by decide)
          have o:=a.1
          clear d a D
          go_simp
          exact f _ () _ ⟨Nat.le_refl _,fun _ _ _=>rfl⟩ ⟨o,C _⟩ rfl
        refine StepsG.cons rfl (fun _ _=>rfl) (fun Q g b u X D L a d K f=>?_) ?_
        · have C:=fun v=>a.2.other 1 v (by decide)
          have o:=a.1
          clear d a D
          go_simp
          exact f _ () _ ⟨Nat.le_refl _,fun _ _ _=>rfl⟩ ⟨o,C _⟩ rfl
        refine StepsG.cons rfl (fun _ _=>rfl) (fun Q g b u X D L a d K f=>?_) ?_
        · have p1:u 1=_:=(d 1 rfl).2
          have C:=fun v=>a.2.other 2 v (by decide)
          have o:=a.1
          clear d a D
          generalize u 1=x1 at *
          subst p1
          go_simp
          exact f _ () _ ⟨Nat.le_refl _,fun _ _ _=>rfl⟩ ⟨o,C _⟩ rfl
        refine StepsG.cons rfl (fun _ _=>rfl) (fun Q g b u X D L a d K f=>?_) ?_
        · have p2:u 2=_:=(d 2 rfl).2
          have C:=fun v=>a.2.other 3 v (by decide)
          have o:=a.1
          clear d a D
          generalize u 2=x2 at *
          subst p2
          go_simp
          exact f _ () _ ⟨Nat.le_refl _,fun _ _ _=>rfl⟩ ⟨o,C _⟩ rfl
        refine StepsG.cons rfl (fun _ _=>rfl) (fun Q g b u X D L a d K f=>?_) ?_
        · have p3:u 3=_:=(d 3 rfl).2
          have C:=fun v=>a.2.other 4 v (by decide)
          have o:=a.1
          have gX:=o.2.blk J.out.box (J.out.bk.not_map J.out.box)
          have y0:X.cell? ⟨I,0,none⟩=some (.pointer (some ⟨k.c,0,none⟩)):=gX.cell 0
          have yl:=gX.lt
          clear gX
          clear d a D
          generalize u 3=x3 at *
          subst p3
          go_simp
          exact f _ () _ ⟨Nat.le_refl _,fun _ _ _=>rfl⟩ ⟨o,C _⟩ rfl
        refine StepsG.cons rfl (fun _ _=>rfl) (fun Q g b u X D L a d K f=>?_) ?_
        · have C:=fun v=>a.2.other 5 v (by decide)
          have o:=a.1
          clear d a D
          go_simp
          exact f _ () _ ⟨Nat.le_refl _,fun _ _ _=>rfl⟩ ⟨o,C _⟩ rfl
        refine StepsG.cons rfl (fun _ _=>rfl) (fun Q g b u X D L a d K f=>?_) ?_
        · have p5:u 5=_:=(d 5 rfl).2
          have C:=fun v=>a.2.other 6 v (by decide)
          have o:=a.1
          clear d a D
          generalize u 5=x5 at *
          subst p5
          go_simp
          exact f _ () _ ⟨Nat.le_refl _,fun _ _ _=>rfl⟩ ⟨o,C _⟩ rfl
        refine StepsG.cons rfl (fun _ _=>rfl) (fun Q g b u X D L a d K f=>?_) ?_
        · have C:=fun v=>a.2.other 7 v (by decide)
          have o:=a.1
          clear d a D
          go_simp
          exact f _ () _ ⟨Nat.le_refl _,fun _ _ _=>rfl⟩ ⟨o,C _⟩ rfl
        refine StepsG.cons rfl (fun _ _=>rfl) (fun Q g b u X D L a d K f=>?_) ?_
        · have p4:u 4=_:=(d 4 rfl).2
          have p6:u 6=_:=(d 6 rfl).2
          have p7:u 7=_:=(d 7 rfl).2
          have C:=fun v=>a.2.other 8 v (by decide)
          have o:=a.1
          have CC:=tr_bof HB.out K2.out H2.out S3 X At (O - 1) o.1 (fun b H=>Nat.lt_of_lt_of_le (J.out.lt b H) o.2.size) (di.out.below o.1.base)
          clear d a D
          generalize u 4=x4 at *
          subst p4
          generalize u 6=x6 at *
          subst p6
          generalize u 7=x7 at *
          subst p7
          go_simp
          go_at_call 125
          (with_reducible refine CC.mono ?_)
          rintro e R ⟨fh,cs,Z,ag,ad,ah,rfl,hv⟩
          rw [ba.out] at hv
          go_simp
          exact f _ () _ (o.1.keep cs) ⟨⟨fh,o.2.map_trans cs⟩,C _⟩ ⟨Z,ag,ad,ah,rfl,hv⟩
        refine StepsG.cons rfl (fun _ _=>rfl) (fun Q g b u X D L a d K f=>?_) ?_
        · obtain ⟨Z,ag,ad,ah,p8,hv⟩:=(d 8 rfl).2
          have C:=fun v=>a.2.other 9 v (by decide)
          have o:=a.1
          have cr:Nums .u32 X Z ag ad (limbs F):=by
           have h1:=hv.2
           rwa [capV_small b1.out] at h1
          obtain rfl:=cr.len
          clear d a D
          generalize u 8=x8 at *
          subst p8
          go_simp
          exact f _ () _ ⟨Nat.le_refl _,fun _ _ _=>rfl⟩ ⟨o,C _⟩ ⟨_,_,rfl,cr⟩
        refine StepsG.cons rfl (fun _ _=>rfl) (fun Q g b u X D L a d K f=>?_) ?_
        · have p0:u 0=_:=(d 0 rfl).2
          obtain ⟨y,B,p9,P⟩:=(d 9 rfl).2
          have C:=fun v=>a.2.other 10 v (by decide)
          have o:=a.1
          have fi:=HQ.out.kept (J.out.bk.keep o.2)
          have CC:=nat_mul A6 _ c6 (limbs q) y _ B (limbs F) X fi P (limbs_lim _) (limbs_lim _)
          rw [mulN_limbs q F d0.out b1.out,fitN_ok d1.out] at CC
          clear d a D
          generalize u 0=x0 at *
          subst p0
          generalize u 9=x9 at *
          subst p9
          go_simp
          go_at_call 177
          (with_reducible refine CC.mono ?_)
          rintro e R ⟨A9,c9,rfl,fr,H⟩
          go_simp
          exact f _ () _ (.of_below H) ⟨⟨o.1.below H,o.2.map_trans (Off.of_below H)⟩,C _⟩ ⟨A9,c9,_,rfl,fr⟩
        refine StepsG.cons rfl (fun _ _=>rfl) (fun Q g b u X D L a d K f=>?_) ?_
        · obtain ⟨y,B,T,fv,P⟩:=(d 10 rfl).2
          have C:=fun v=>a.2.other 11 v (by decide)
          have o:=a.1
          clear d a D
          generalize u 10=g4 at *
          subst fv
          go_simp
          exact f _ () _ ⟨Nat.le_refl _,fun _ _ _=>rfl⟩ ⟨o,C _⟩ ⟨_,_,_,rfl,P⟩
        refine StepsG.cons rfl (fun _ _=>rfl) (fun Q g b u X D L a d K f=>?_) ?_
        · obtain ⟨y,B,T,bt,P⟩:=(d 11 rfl).2
          have C:=fun v=>a.2.other 12 v (by decide)
          have o:=a.1
          clear d a D
          generalize u 11=f9 at *
          subst bt
          go_simp
          exact f _ () _ ⟨Nat.le_refl _,fun _ _ _=>rfl⟩ ⟨o,C _⟩ ⟨_,_,rfl,P⟩
        refine StepsG.cons rfl (fun _ _=>rfl) (fun Q g b u X D L a d K f=>?_) ?_
        · obtain ⟨y,B,T,bt,P⟩:=(d 11 rfl).2
          have C:=fun v=>a.2.other 13 v (by decide)
          have o:=a.1
          clear d a D
          generalize u 11=f9 at *
          subst bt
          go_simp
          exact f _ () _ ⟨Nat.le_refl _,fun _ _ _=>rfl⟩ ⟨o,C _⟩ ⟨_,rfl⟩
        refine StepsG.cons rfl (fun _ _=>rfl) (fun Q g b u X D L a d K f=>?_) ?_
        · obtain ⟨y,B,fw,P⟩:=(d 12 rfl).2
          have C:=fun v=>a.2.other 14 v (by decide)
          have o:=a.1
          clear d a D
          generalize u 12=g5 at *
          subst fw
          go_simp
          exact f _ () _ ⟨Nat.le_refl _,fun _ _ _=>rfl⟩ ⟨o,C _⟩ ⟨_,_,rfl,P⟩
        refine StepsG.cons rfl (fun _ _=>rfl) (fun Q g b u X D L a d K f=>?_) ?_
        · obtain ⟨z9,fx⟩:=(d 13 rfl).2
          have C:=fun v=>a.2.other 15 v (by decide)
          have o:=a.1
          clear d a D
          generalize u 13=g6 at *
          subst fx
          go_simp
          exact f _ () _ ⟨Nat.le_refl _,fun _ _ _=>rfl⟩ ⟨o,C _⟩ ⟨_,rfl⟩
        exact StepsG.nil
      intro _ b9 u X9 fk aj d
      obtain ⟨aj,fm⟩:=aj
      clear fk fm
      obtain ⟨y,B,df,c1⟩:=d 14 (by decide)
      obtain ⟨hk,dg⟩:=d 15 (by decide)
      clear d b9
      rw [df,dg]
      clear df dg
      generalize u 0=w0 at *
      generalize u 1=w1 at *
      generalize u 2=w2 at *
      generalize u 3=w3 at *
      generalize u 4=w4 at *
      generalize u 5=w5 at *
      generalize u 6=w6 at *
      generalize u 7=w7 at *
      generalize u 8=w8 at *
      generalize u 9=w9 at *
      generalize u 10=gp at *
      generalize u 11=gq at *
      generalize u 12=gr at *
      generalize u 13=gs at *
      clear u
      have dt:=LH (J.out.off aj.1 aj.2)
      have dp:=LH (dn.out.trans (J.out.bk.keep aj.2))
      have CO:=tr_radd Av cv v y B (q * F) X9 (HN.out.kept (J.out.bk.keep aj.2)) c1 (by have h1:=a9.out;have h2:=bg.out;omega)
      rw [a9.out] at CO
      have CO:=LH CO
      clear aj c1 g0 gl
      go_wp2_with (first
       | (go_at_call 124
          (with_reducible refine CO.out.mono ?_)
          rintro e W5 ⟨A9,c9,rfl,P,au⟩))
      go_ret2
      exact ⟨A9,c9,rfl,P,⟨S3,A5,c5,dt.out.below au⟩,dp.out.trans (.of_below au)⟩
end Go.Proofs.YtggbjdmpjidhgaaGreatDoor
