/- ranks: a maker's forest (walked). -/
import Derived.Test.YtggbjdmpjidhgaaGreatDoorVRkN
import Derived.Test.YtggbjdmpjidhgaaGreatDoorVRkW3
set_option linter.unusedVariables false
set_option linter.unusedSimpArgs false
set_option maxHeartbeats 8000000
set_option maxRecDepth 100000
namespace Go.Proofs.YtggbjdmpjidhgaaGreatDoor
open Go.RowKit
def slLen:Value→Nat
 | .slice _ n _=>n
 | _=>0
theorem fsingle (T:Int→Nat→Nat) (s:Int) (n:Nat):forestT T [s] n=T s n:=forest_single T s n
theorem part_small {T:Int→Nat→Nat} {s:Int} {l:List Int} {n k q c:Nat} (j:k≤n) (m:q < T s k) (d:c < forestT T l (n - k)) (h:forestT T (s::l) n < big) :
 T s k < big∧forestT T l (n - k) < big∧q * forestT T l (n - k)+c < T s k * forestT T l (n - k):=by
 have h1:aheadK T s l n (k+1)≤forestT T (s::l) n:=by
  rw [← aheadK_all]
  exact aheadK_mono T s l n (by omega)
 rw [aheadK_succ] at h1
 have f:T s k≤T s k * forestT T l (n - k):=Nat.le_mul_of_pos_right _ (by omega)
 have g:forestT T l (n - k)≤T s k * forestT T l (n - k):=Nat.le_mul_of_pos_left _ (by omega)
 have b:=part_lt (a:=0) (q:=q) (by omega:0+q < T s k) d
 rw [Nat.zero_add] at b
 exact ⟨by omega,by omega,b⟩
theorem tr_mforest {W:World} {k:BkH} {h:GH} {G:Gr} (hB:BkG W h G) (hP:Plain G) (m:Nat) (HT:TC W k h G m):FC W k h G m:=by
 intro mk cs l n r t Al cl Ar cr w d9 hU dk du B hh hl hr a
 have HB:=LH hB
 have HP:=LH hP
 have fh:=LH HT
 have HU:=LH hU
 have al:=LH dk
 have a0:=LH du
 have HK:=LH B
 have Hh:=LH hh
 have HL:=LH hl
 have HR:=LH hr
 have O:=LH a
 clear hB hP HT hU dk du B hh hl hr a
 go_enter Tryz.func130,Tryz.ntmps130
 go_wp2_with fail
 go_loopw [1,2,3] (fun v1 v2 v3 wr=>∃ (Z:List Int) (Al:Option Addr) (cl E r':Nat) (R:Option Addr) (T:Nat) (t' V:List Nat),v1 = .slice Al Z.length cl∧v2 = .int .i64 (E:Int)∧v3 = .slice R (limbs r').length T∧Hid (UnL G Z E r' t')∧Hid (InG G Z)∧Hid (forestT (treeN G) Z E < big)∧Hid (KeyOK Z E)∧Hid (∀ s ∈ Z,G.has s=true)∧Hid (Ints .i64 W Al Z.length cl Z)∧Hid (Nums .u32 wr R (limbs r').length T (limbs r'))∧Hid (MkAt W k h G mk V wr)∧Hid (NatKeep w wr)∧Hid (V++t'=cs++t)∧Hid (t'.length≤m)) (fun v1 _ _ _=>slLen v1)
 case atStart=>exact ⟨l,Al,cl,n,r,Ar,cr,t,cs,rfl,rfl,rfl,HU,al,a0,HK,Hh,HL,HR,O,LH (NatKeep.refl _),LH rfl,LH d9⟩
 case round =>
  clear HU al a0 HK Hh HL HR O d9
  obtain ⟨Z,gq,Y,E,r',R,T,t',V,rfl,rfl,rfl,HU,al,a0,HK,Hh,HL,HN,bl,b4,bo,cd⟩:=hrel
  rcases Z with _ | ⟨s,I⟩
  case nil =>
   have e:t'=[]:=by
    have:=HU.out
    cases this
    rfl
   subst e
   go_wp2_with fail
   go_ret
   obtain ⟨S,A,c,M⟩:=bl.out
   have dv:=bo.out
   rw [List.append_nil] at dv
   subst dv
   have:=M.few
   rw [List.length_append] at this
   exact ⟨b4.out, .inl ⟨this,rfl,bl.out⟩⟩
  case cons =>
   obtain ⟨kk,q,L,t1,t2,fx,d6,cm,hq,ds,rfl,d4,a3⟩:=HU.out.parts HP.out al.out
   obtain ⟨dq,hF,d5⟩:=part_small fx hq cm a0.out
   have dz:=HU.out.lt HP.out al.out
   have cc:=LH d6
   have de:=LH cm
   have Hq:=LH hq
   have ca:=LH ds
   have fm:=LH d4
   have fl:=LH a3
   have fi:=LH dq
   have HF:=LH hF
   have fn:=LH d5
   have dd:=LH dz
   have g3:=HK.out.n
   have f0:=HK.out.len
   have fz:=HL.out.cap
   clear d6 cm hq ds d4 a3 dq hF d5 dz
   obtain ⟨S,A,c,dl⟩:=bl.out
   have c3:=LH dl
   clear bl dl
   obtain ⟨ab,ao,s',rfl,dt,df,f2⟩:=HL.out.get (j:=0) (by simp)
   obtain rfl:s=s':=by
    have:=df.out
    simpa using this
   have br:=HL.out.tail1
   rw [show (s::I).length - 1=I.length from rfl] at br
   obtain ⟨At,fr⟩:∃ At:Option Addr,(if Y=1 then some (⟨ab,ao,none⟩:Addr) else some ⟨ab,ao+1,none⟩)=At:=⟨_,rfl⟩
   rw [fr] at br
   have bx:=LH br
   clear br df
   simp only [List.length_cons] at f0 fz ⊢
   have gx:(1:Int)≤(Y:Int):=by omega
   have g2:(1:Int)≤(I.length:Int)+1:=by omega
   go_upto_region 4 with fail
   go_loopw [3,9,10] (fun v3 v9 gm wz=>∃ (j H:Nat) (R:Option Addr) (T:Nat),v3 = .slice R (limbs H).length T∧v9 = .int .i64 (j:Int)∧gm = .bool (decide (j≤kk))∧j≤kk+1∧Hid (j≤kk→r'=aheadK (treeN G) s I E j+H)∧Hid (j=kk+1→H=q * forestT (treeN G) I (E - kk)+L)∧Hid (Nums .u32 wz R (limbs H).length T (limbs H))∧Hid (MkIn W k h G mk V S A c wz)∧Hid (NatKeep w wz)) (fun _ i _ _=>kk+2 - (intOf i).toNat)
   case atStart=>exact ⟨0,r',R,T,rfl,rfl,by simp,Nat.zero_le _,LH (fun _=>by rw [aheadK_zero];omega),LH (fun h=>by omega),HN,c3,b4⟩
   case round =>
    clear HN c3 b4
    obtain ⟨j,H,R,T,rfl,rfl,rfl,fv,Hj,dc,HN,O,bj⟩:=hrel
    by_cases hj:j≤kk
    case pos =>
     have be:=Hj.out hj
     have cp:H < big:=by have:=dd.out;have:=a0.out;omega
     obtain ⟨x,hx⟩:∃ x,treeN G s j * forestT (treeN G) I (E - j)=x:=⟨_,rfl⟩
     have d7:aheadK (treeN G) s I E (j+1)=aheadK (treeN G) s I E j+x:=by rw [aheadK_succ,hx]
     have M:=O.out
     have CP:Calls Tryz.prog 176 #[.pointer (some ⟨k.c,0,none⟩), .slice (some ⟨ab,ao,none⟩) (I.length+1) Y, .int .i64 (j:Int), .int .i64 (E:Int)] wr (BkRet W k h G S wr x):=by
      have h1:=tr_pair HB.out (s:=s) (l:=I) (kk:=j) (n:=E) HK.out (by omega) Hh.out S wr (some ⟨ab,ao,none⟩) Y M.bk M.lt HL.out
      rw [fsingle,hx] at h1
      exact h1
     have CP:=LH CP
     have bp:=LH cp
     have g0:wr.cell? ⟨mk,0,none⟩=some (.pointer (some ⟨k.c,0,none⟩)):=M.box.cell 0
     have gl:=M.box.lt
     by_cases gz:j < kk
     case pos =>
      have HX:Hid (x≤H):=LH (by
       have h1:=aheadK_mono (treeN G) s I E (show j+1≤kk by omega)
       have P:=cc.out
       omega)
      have fo:Hid (r'=aheadK (treeN G) s I E (j+1)+(H - x)):=LH (by have:=HX.out;omega)
      clear be cp hx d7 M
      go_wp2_with (first
       | (go_at_call 176
          (with_reducible refine CP.out.mono ?_)
          rintro e W2 ⟨ba,au,A8,n8,c8,d8,rfl,bf⟩
          have av:=O.out.bk.keep au
          have b5:=LH (O.out.off ba au)
          have bm:=LH (HN.out.kept av)
          have b0:=LH (bj.out.trans (NatKeep.of_int av))
          have CO:=LH (tr_over R T H A8 n8 c8 d8 x W2 bm.out bp.out bf)
          clear ba au bf av)
       | (go_at_call 129
          (with_reducible refine CO.out.mono ?_)
          rintro e W3 ⟨ah,bd⟩
          obtain ⟨A9,c9,rfl,d0⟩:∃ A9 c9,e = .returned (.tuple #[.slice A9 (limbs (H - x)).length c9, .bool true])∧Nums .u32 W3 A9 (limbs (H - x)).length c9 (limbs (H - x)):=by
           rcases bd with ⟨P,rfl⟩ | ⟨P,A9,c9,rfl,h3⟩
           · have:=HX.out;omega
           · exact ⟨A9,c9,rfl,h3⟩
          have b6:=LH (b5.out.below ah)
          have b8:=LH d0
          have b1:=LH (b0.out.trans (NatKeep.of_below ah))
          clear ah bd d0))
      go_roundw
      case rel=>exact ⟨j+1,H - x,A9,c9,rfl,by go_num,by rw [decide_eq_true (by omega:j+1≤kk)],by omega,LH (fun _=>fo.out),LH (fun h=>by omega),b8,b6,b1⟩
      case measure=>simp [intOf] <;> omega
     case neg =>
      obtain rfl:j=kk:=by omega
      have a8:Hid (H=q * forestT (treeN G) I (E - j)+L):=LH (by have:=cc.out;omega)
      have HX:Hid (H < x):=LH (by have h1:=fn.out;have P:=a8.out;omega)
      clear be cp hx d7 M
      go_wp2_with (first
       | (go_at_call 176
          (with_reducible refine CP.out.mono ?_)
          rintro e W2 ⟨ba,au,A8,n8,c8,d8,rfl,bf⟩
          have av:=O.out.bk.keep au
          have b5:=LH (O.out.off ba au)
          have bm:=LH (HN.out.kept av)
          have b0:=LH (bj.out.trans (NatKeep.of_int av))
          have CO:=LH (tr_over R T H A8 n8 c8 d8 x W2 bm.out bp.out bf)
          clear ba au bf av)
       | (go_at_call 129
          (with_reducible refine CO.out.mono ?_)
          rintro e W3 ⟨ah,bd⟩
          obtain rfl:e = .returned (.tuple #[.slice R (limbs H).length T, .bool false]):=by
           rcases bd with ⟨P,rfl⟩ | ⟨P,A9,c9,rfl,h3⟩
           · rfl
           · have:=HX.out;omega
          have b6:=LH (b5.out.below ah)
          have b8:=LH (bm.out.below ah)
          have b1:=LH (b0.out.trans (NatKeep.of_below ah))
          clear ah bd))
      go_roundw
      case rel=>exact ⟨j+1,H,R,T,rfl,by go_num,by rw [decide_eq_false (by omega:¬ j+1≤j)],by omega,LH (fun h=>by omega),LH (fun _=>a8.out),b8,b6,b1⟩
      case measure=>simp [intOf] <;> omega
    case neg =>
     obtain rfl:j=kk+1:=by omega
     obtain rfl:=dc.out rfl
     clear hj fv Hj dc
     generalize be:q * forestT (treeN G) I (E - kk)+L=H at *
     have a8:=LH be
     clear be
     have g1:IntKind.i64.wrap ((kk:Int)+1 - 1)=(kk:Int):=by rw [IntWalk.i64_in _ (by omega)];omega
     obtain ⟨F,a9⟩:∃ F,Hid (forestT (treeN G) I (E - kk)=F):=⟨_,LH rfl⟩
     have c0:Hid (F < big):=LH (by rw [← a9.out];exact HF.out)
     have cz:Hid (0 < F):=LH (by rw [← a9.out];have:=de.out;omega)
     have co:H=q * F+L:=by rw [← a9.out];exact a8.out.symm
     have cn:L < F:=by rw [← a9.out];exact de.out
     have fj:Hid (H / F=q):=LH (by rw [co,Nat.mul_comm,Nat.mul_add_div cz.out,Nat.div_eq_of_lt cn,Nat.add_zero])
     have fk:Hid (H % F=L):=LH (by rw [co,Nat.mul_comm,Nat.mul_add_mod,Nat.mod_eq_of_lt cn])
     have bp:Hid (H < big):=LH (by have h1:=cc.out;have P:=dd.out;have h3:=a0.out;have h4:=a8.out;omega)
     have K2:Hid (KeyOK I (E - kk)):=LH ⟨fun x hx=>HK.out.sym x (.tail _ hx),by omega,by omega⟩
     have H2:Hid (∀ x ∈ I,G.has x=true):=LH fun x hx=>Hh.out x (.tail _ hx)
     clear co cn
     go_upto_region 8 with fail
     generalize decide (kk+1≤kk)=dh at *
     generalize ((kk+1:Nat):Int)=f3 at *
     refine wp_region_freeA (Γ:=Unit) (fun _ b u X=>(BkAt W k h G S X∧Off k.map wr X)∧KeepV b u 99 undef) (fun X U=>IntKeep X U) () (fun u=>(⟨(.pointer (some ⟨mk,0,none⟩) :: .slice (some ⟨ab,ao,none⟩) (I.length+1) Y :: .int .i64 (E:Int) :: .slice R (limbs H).length T::undef::undef::undef::undef::u8 :: .int .i64 (kk:Int) :: .bool dh::u 17::u 18::u 19 :: .slice (some ⟨ab,ao,none⟩) (I.length+1) Y :: .int .i64 ((I.length:Int)+1) :: .bool true :: .bool dh::u18::u19::u20::u21::u22::u23::u24::u25::u26::u27::u28::u29::u30::u31::u32 :: .int .i64 f3 :: .int .i64 (kk:Int)::u 13::u 0::u 1::u 2::u 3::u 4::u 5::u 6::u 7::u 8::u 9::u 10::u 11::u 12::u 14::u 15::u 16::u52::u53::u54::u55::u56::u57::u58::u59::u60::u61::u62::u63::u64::u65::u66::u67::u68::u69::u70::u71::u72::[]).toArray,[]⟩:Act)) [u36,u37,u38,u39,u40,u41,u42,u43,u44,u45,u46,u47,u48,u35,u49,u50,u51,u11,u12,u13] [fun v X=>v = .slice R (limbs H).length T,fun v X=>v = .pointer (some ⟨mk,0,none⟩),fun v X=>v = .pointer (some ⟨mk,0,none⟩),fun v X=>v = .pointer (some ⟨mk,0,none⟩),fun v X=>v = .pointer (some ⟨k.c,0,none⟩),fun v X=>v = .slice (some ⟨ab,ao,none⟩) (I.length+1) Y,fun v X=>v = .slice At I.length (Y - 1),fun v X=>v = .int .i64 (E:Int),fun v X=>v = .int .i64 (kk:Int),fun v X=>v = .int .i64 ((E - kk:Nat):Int),fun v X=>∃ A1 n1 c1 d1,v = .agg #[.slice A1 n1 c1, .bool d1]∧ValN X A1 n1 c1 d1 F,fun v X=>∃ f o,v = .slice f (limbs F).length o∧Nums .u32 X f (limbs F).length o (limbs F),fun v X=>∃ f o Ar cr z,v = .tuple #[.slice f (limbs q).length o, .slice Ar (limbs L).length cr, .int .i64 z]∧Nums .u32 X f (limbs q).length o (limbs q)∧Nums .u32 X Ar (limbs L).length cr (limbs L),fun v X=>∃ f o Ar cr z,v = .tuple #[.slice f (limbs q).length o, .slice Ar (limbs L).length cr, .int .i64 z]∧Nums .u32 X f (limbs q).length o (limbs q)∧Nums .u32 X Ar (limbs L).length cr (limbs L),fun v X=>∃ f o,v = .slice f (limbs q).length o∧Nums .u32 X f (limbs q).length o (limbs q),fun v X=>∃ f o,v = .slice f (limbs L).length o∧Nums .u32 X f (limbs L).length o (limbs L),fun v X=>∃ z:Int,v = .int .i64 z,fun v X=>∃ f o,v = .slice f (limbs q).length o∧Nums .u32 X f (limbs q).length o (limbs q),fun v X=>∃ f o,v = .slice f (limbs L).length o∧Nums .u32 X f (limbs L).length o (limbs L),fun v X=>∃ z:Int,v = .int .i64 z] (l:=[_,_,_,_,_,_,_,_,_,_,_,_,_,_,_,_,_,_,_,_]) (by kernel_rfl) (by kernel_rfl) rfl ⟨⟨O.out.bk.below (Below.refl _ _).drew,Off.of_below (Below.refl _ _).drew⟩,fun _=>rfl⟩ ⟨fun _ _ _ h _=>h,fun _ _ _ h _=>h,fun _ _ _ h _=>h,fun _ _ _ h _=>h,fun _ _ _ h _=>h,fun _ _ _ h _=>h,fun _ _ _ h _=>h,fun _ _ _ h _=>h,fun _ _ _ h _=>h,fun _ _ _ h _=>h,(fun v X U ⟨A1,n1,c1,d1,e,h⟩ J=>⟨A1,n1,c1,d1,e,h.kept J⟩),(fun v X U ⟨f,o,e,h⟩ J=>⟨f,o,e,h.kept J⟩),(fun v X U ⟨f,o,Ar,cr,z,e,h1,P⟩ J=>⟨f,o,Ar,cr,z,e,h1.kept J,P.kept J⟩),(fun v X U ⟨f,o,Ar,cr,z,e,h1,P⟩ J=>⟨f,o,Ar,cr,z,e,h1.kept J,P.kept J⟩),(fun v X U ⟨f,o,e,h⟩ J=>⟨f,o,e,h.kept J⟩),(fun v X U ⟨f,o,e,h⟩ J=>⟨f,o,e,h.kept J⟩),(fun v X U h _=>h),(fun v X U ⟨f,o,e,h⟩ J=>⟨f,o,e,h.kept J⟩),(fun v X U ⟨f,o,e,h⟩ J=>⟨f,o,e,h.kept J⟩),(fun v X U h _=>h),trivial⟩ ?_ ?_
     · refine StepsG.cons rfl (fun _ _=>rfl) (fun Q g b u X D N a d K B=>?_) ?_
       · have C:=fun v=>a.2.other 0 v (by decide)
         have y:=a.1
         clear d a D
         go_simp
         exact B _ () _ ⟨Nat.le_refl _,fun _ _ _=>rfl⟩ ⟨y,C _⟩ rfl
       refine StepsG.cons rfl (fun _ _=>rfl) (fun Q g b u X D N a d K B=>?_) ?_
       · have C:=fun v=>a.2.other 1 v (by decide)
         have y:=a.1
         clear d a D
         go_simp
         exact B _ () _ ⟨Nat.le_refl _,fun _ _ _=>rfl⟩ ⟨y,C _⟩ rfl
       refine StepsG.cons rfl (fun _ _=>rfl) (fun Q g b u X D N a d K B=>?_) ?_
       · have p1:u 1=_:=(d 1 rfl).2
         have C:=fun v=>a.2.other 2 v (by decide)
         have y:=a.1
         clear d a D
         generalize u 1=x1 at *
         subst p1
         go_simp
         exact B _ () _ ⟨Nat.le_refl _,fun _ _ _=>rfl⟩ ⟨y,C _⟩ rfl
       refine StepsG.cons rfl (fun _ _=>rfl) (fun Q g b u X D N a d K B=>?_) ?_
       · have p2:u 2=_:=(d 2 rfl).2
         have C:=fun v=>a.2.other 3 v (by decide)
         have y:=a.1
         clear d a D
         generalize u 2=x2 at *
         subst p2
         go_simp
         exact B _ () _ ⟨Nat.le_refl _,fun _ _ _=>rfl⟩ ⟨y,C _⟩ rfl
       refine StepsG.cons rfl (fun _ _=>rfl) (fun Q g b u X D N a d K B=>?_) ?_
       · have p3:u 3=_:=(d 3 rfl).2
         have C:=fun v=>a.2.other 4 v (by decide)
         have y:=a.1
         have gX:=y.2.blk O.out.box (O.out.bk.not_map O.out.box)
         have y0:X.cell? ⟨mk,0,none⟩=some (.pointer (some ⟨k.c,0,none⟩)):=gX.cell 0
         have yl:=gX.lt
         clear gX
         clear d a D
         generalize u 3=x3 at *
         subst p3
         go_simp
         exact B _ () _ ⟨Nat.le_refl _,fun _ _ _=>rfl⟩ ⟨y,C _⟩ rfl
       refine StepsG.cons rfl (fun _ _=>rfl) (fun Q g b u X D N a d K B=>?_) ?_
       · have C:=fun v=>a.2.other 5 v (by decide)
         have y:=a.1
         clear d a D
         go_simp
         exact B _ () _ ⟨Nat.le_refl _,fun _ _ _=>rfl⟩ ⟨y,C _⟩ rfl
       refine StepsG.cons rfl (fun _ _=>rfl) (fun Q g b u X D N a d K B=>?_) ?_
       · have p5:u 5=_:=(d 5 rfl).2
         have C:=fun v=>a.2.other 6 v (by decide)
         have y:=a.1
         clear d a D
         generalize u 5=x5 at *
         subst p5
         go_simp
         exact B _ () _ ⟨Nat.le_refl _,fun _ _ _=>rfl⟩ ⟨y,C _⟩ rfl
       refine StepsG.cons rfl (fun _ _=>rfl) (fun Q g b u X D N a d K B=>?_) ?_
       · have C:=fun v=>a.2.other 7 v (by decide)
         have y:=a.1
         clear d a D
         go_simp
         exact B _ () _ ⟨Nat.le_refl _,fun _ _ _=>rfl⟩ ⟨y,C _⟩ rfl
       refine StepsG.cons rfl (fun _ _=>rfl) (fun Q g b u X D N a d K B=>?_) ?_
       · have C:=fun v=>a.2.other 8 v (by decide)
         have y:=a.1
         clear d a D
         go_simp
         exact B _ () _ ⟨Nat.le_refl _,fun _ _ _=>rfl⟩ ⟨y,C _⟩ rfl
       refine StepsG.cons rfl (fun _ _=>rfl) (fun Q g b u X D N a d K B=>?_) ?_
       · have p7:u 7=_:=(d 7 rfl).2
         have p8:u 8=_:=(d 8 rfl).2
         have C:=fun v=>a.2.other 9 v (by decide)
         have y:=a.1
         have hw:IntKind.i64.wrap ((E:Int) - (kk:Int))=((E - kk:Nat):Int):=by rw [IntWalk.i64_in _ (by omega)];omega
         clear d a D
         generalize u 7=x7 at *
         subst p7
         generalize u 8=x8 at *
         subst p8
         go_simp
         exact B _ () _ ⟨Nat.le_refl _,fun _ _ _=>rfl⟩ ⟨y,C _⟩ (by first | rfl | rw [hw])
       refine StepsG.cons rfl (fun _ _=>rfl) (fun Q g b u X D N a d K B=>?_) ?_
       · have p4:u 4=_:=(d 4 rfl).2
         have p6:u 6=_:=(d 6 rfl).2
         have p9:u 9=_:=(d 9 rfl).2
         have C:=fun v=>a.2.other 10 v (by decide)
         have y:=a.1
         have CC:=tr_bof HB.out K2.out H2.out S X At (Y - 1) y.1 (fun b J=>Nat.lt_of_lt_of_le (O.out.lt b J) y.2.size) (bx.out.below y.1.base)
         clear d a D
         generalize u 4=x4 at *
         subst p4
         generalize u 6=x6 at *
         subst p6
         generalize u 9=x9 at *
         subst p9
         go_simp
         go_at_call 125
         (with_reducible refine CC.mono ?_)
         rintro e U ⟨fs,dn,A1,n1,c1,d1,rfl,hv⟩
         rw [a9.out] at hv
         go_simp
         exact B _ () _ (y.1.keep dn) ⟨⟨fs,y.2.map_trans dn⟩,C _⟩ ⟨A1,n1,c1,d1,rfl,hv⟩
       refine StepsG.cons rfl (fun _ _=>rfl) (fun Q g b u X D N a d K B=>?_) ?_
       · obtain ⟨A1,n1,c1,d1,f6,hv⟩:=(d 10 rfl).2
         have C:=fun v=>a.2.other 11 v (by decide)
         have y:=a.1
         have dm:Nums .u32 X A1 n1 c1 (limbs F):=by
          have h1:=hv.2
          rwa [capV_small c0.out] at h1
         obtain rfl:=dm.len
         clear d a D
         generalize u 10=h0 at *
         subst f6
         go_simp
         exact B _ () _ ⟨Nat.le_refl _,fun _ _ _=>rfl⟩ ⟨y,C _⟩ ⟨_,_,rfl,dm⟩
       refine StepsG.cons rfl (fun _ _=>rfl) (fun Q g b u X D N a d K B=>?_) ?_
       · have p0:u 0=_:=(d 0 rfl).2
         obtain ⟨f,o,f7,hn⟩:=(d 11 rfl).2
         have C:=fun v=>a.2.other 12 v (by decide)
         have y:=a.1
         have ft:=HN.out.kept (O.out.bk.keep y.2)
         have CC:=nat_quo R _ T (limbs H) f _ o (limbs F) X ft hn (limbs_lim _) (limbs_lim _)
         rw [quo_limbs bp.out c0.out cz.out,fj.out,fk.out] at CC
         unfold RetQuo at CC
         clear d a D
         generalize u 0=x0 at *
         subst p0
         generalize u 11=h5 at *
         subst f7
         go_simp
         go_at_call 182
         (with_reducible refine CC.mono ?_)
         rintro e U ⟨f,o,Ar,cr,rfl,aw,ax,J⟩
         go_simp
         exact B _ () _ (.of_below J) ⟨⟨y.1.below J,y.2.map_trans (Off.of_below J)⟩,C _⟩ ⟨f,o,Ar,cr,_,rfl,aw,ax⟩
       refine StepsG.cons rfl (fun _ _=>rfl) (fun Q g b u X D N a d K B=>?_) ?_
       · obtain ⟨f,o,Ar,cr,z,f8,aw,ax⟩:=(d 12 rfl).2
         have C:=fun v=>a.2.other 13 v (by decide)
         have y:=a.1
         clear d a D
         generalize u 12=h6 at *
         subst f8
         go_simp
         exact B _ () _ ⟨Nat.le_refl _,fun _ _ _=>rfl⟩ ⟨y,C _⟩ ⟨f,o,Ar,cr,z,rfl,aw,ax⟩
       refine StepsG.cons rfl (fun _ _=>rfl) (fun Q g b u X D N a d K B=>?_) ?_
       · obtain ⟨f,o,Ar,cr,z,bg,aw,ax⟩:=(d 13 rfl).2
         have C:=fun v=>a.2.other 14 v (by decide)
         have y:=a.1
         clear d a D
         generalize u 13=fe at *
         subst bg
         go_simp
         exact B _ () _ ⟨Nat.le_refl _,fun _ _ _=>rfl⟩ ⟨y,C _⟩ ⟨_,_,rfl,aw⟩
       refine StepsG.cons rfl (fun _ _=>rfl) (fun Q g b u X D N a d K B=>?_) ?_
       · obtain ⟨f,o,Ar,cr,z,bg,aw,ax⟩:=(d 13 rfl).2
         have C:=fun v=>a.2.other 15 v (by decide)
         have y:=a.1
         clear d a D
         generalize u 13=fe at *
         subst bg
         go_simp
         exact B _ () _ ⟨Nat.le_refl _,fun _ _ _=>rfl⟩ ⟨y,C _⟩ ⟨_,_,rfl,ax⟩
       refine StepsG.cons rfl (fun _ _=>rfl) (fun Q g b u X D N a d K B=>?_) ?_
       · obtain ⟨f,o,Ar,cr,z,bg,aw,ax⟩:=(d 13 rfl).2
         have C:=fun v=>a.2.other 16 v (by decide)
         have y:=a.1
         clear d a D
         generalize u 13=fe at *
         subst bg
         go_simp
         exact B _ () _ ⟨Nat.le_refl _,fun _ _ _=>rfl⟩ ⟨y,C _⟩ ⟨_,rfl⟩
       refine StepsG.cons rfl (fun _ _=>rfl) (fun Q g b u X D N a d K B=>?_) ?_
       · obtain ⟨f,o,f9,hn⟩:=(d 14 rfl).2
         have C:=fun v=>a.2.other 17 v (by decide)
         have y:=a.1
         clear d a D
         generalize u 14=h7 at *
         subst f9
         go_simp
         exact B _ () _ ⟨Nat.le_refl _,fun _ _ _=>rfl⟩ ⟨y,C _⟩ ⟨_,_,rfl,hn⟩
       refine StepsG.cons rfl (fun _ _=>rfl) (fun Q g b u X D N a d K B=>?_) ?_
       · obtain ⟨f,o,ga,hn⟩:=(d 15 rfl).2
         have C:=fun v=>a.2.other 18 v (by decide)
         have y:=a.1
         clear d a D
         generalize u 15=h8 at *
         subst ga
         go_simp
         exact B _ () _ ⟨Nat.le_refl _,fun _ _ _=>rfl⟩ ⟨y,C _⟩ ⟨_,_,rfl,hn⟩
       refine StepsG.cons rfl (fun _ _=>rfl) (fun Q g b u X D N a d K B=>?_) ?_
       · obtain ⟨z,gb⟩:=(d 16 rfl).2
         have C:=fun v=>a.2.other 19 v (by decide)
         have y:=a.1
         clear d a D
         generalize u 16=h9 at *
         subst gb
         go_simp
         exact B _ () _ ⟨Nat.le_refl _,fun _ _ _=>rfl⟩ ⟨y,C _⟩ ⟨_,rfl⟩
       exact StepsG.nil
     intro _ b9 u X9 fu ag d
     obtain ⟨ag,fw⟩:=ag
     clear fu fw
     obtain ⟨f,o,fb,d2⟩:=d 17 (by decide)
     obtain ⟨Ar,cr,fc,d3⟩:=d 18 (by decide)
     obtain ⟨jk,fd⟩:=d 19 (by decide)
     clear d b9
     rw [fb,fc,fd]
     clear fb fc fd
     generalize u 0=w0 at *
     generalize u 1=w1 at *
     generalize u 2=w2 at *
     generalize u 3=w3 at *
     generalize u 4=w4 at *
     generalize u 5=w5 at *
     generalize u 6=w6 at *
     generalize u 7=w7 at *
     generalize u 8=w8 at *
     generalize u 9=w9 at *
     generalize u 10=g8 at *
     generalize u 11=g9 at *
     generalize u 12=ha at *
     generalize u 13=hc at *
     generalize u 14=hd at *
     generalize u 15=he at *
     generalize u 16=hf at *
     clear u
     have c4:=LH (O.out.off ag.1 ag.2)
     have b3:=LH (bj.out.trans (NatKeep.of_int (O.out.bk.keep ag.2)))
     have fg:=LH d2
     have c5:=LH d3
     have e0:X9.cell? ⟨ab,ao,none⟩=some (.int .i64 s):=(ag.1.base.cell (p:=⟨ab,ao+0,none⟩) dt).trans f2
     have el:=Nat.lt_of_lt_of_le dt ag.1.base.size
     have g4:=(HK.out.sym s (List.mem_cons_self ..)).1
     have g5:=(HK.out.sym s (List.mem_cons_self ..)).2
     have hw:IntKind.i64.wrap ((E:Int) - (kk:Int))=((E - kk:Nat):Int):=by rw [IntWalk.i64_in _ (by omega)];omega
     have gr:=ca
     have c2:Hid (InG G I):=LH al.out.tail
     have fy:kk≤10:=by omega
     clear ag d2 d3 O HN bj
     by_cases a3:s < 0
     case neg =>
      obtain ⟨rfl,rfl,rfl⟩:=fm.out (by omega)
      have cb:Hid (V++t2=cs++t):=LH (by have:=bo.out;rwa [List.nil_append] at this)
      have ce:Hid (t2.length≤m):=LH (by have:=cd.out;rwa [List.nil_append] at this)
      go_wp2_with fail
      go_roundw
      case rel=>exact ⟨I,At,Y - 1,E - 1,L,Ar,cr,t2,V,rfl,by go_num,rfl,ca,c2,HF,K2,H2,bx,c5,LH ⟨S,A,c,c4.out⟩,b3,cb,ce⟩
      case measure=>simp [slLen]
     case pos =>
      have g6:IntKind.i64.wrap (-1 - s)=((nonI s:Nat):Int):=by
       rw [IntWalk.i64_in _ (by omega)]
       unfold nonI
       omega
      have CT:=fh.out mk V s kk q t1 f o X9 (by have:=cd.out;rw [List.length_append] at this;omega) a3 (al.out s (List.mem_cons_self ..) a3) (fl.out a3) fi.out fy fg.out ⟨S,A,c,c4.out⟩
      have f1:V.length+(t1.length+t2.length)=cs.length+t.length:=by
       have:=congrArg List.length bo.out
       simp only [List.length_append] at this
       exact this
      by_cases gy:V.length+t1.length≤300
      case pos =>
       have bv:Hid (Calls Tryz.prog 77 #[.pointer (some ⟨mk,0,none⟩), .int .i64 (nonI s:Int), .int .i64 (kk:Int), .slice f (limbs q).length o] X9 fun e w'=>e = .returned (.bool true)∧NatKeep X9 w'∧MkAt W k h G mk (V++t1) w'):=LH (CT.mono fun e w' hr=>by
        obtain ⟨h1,⟨_,P,h3⟩ | ⟨P,_,_⟩⟩:=hr
        · exact ⟨P,h1,h3⟩
        · omega)
       have cb:Hid (V++t1++t2=cs++t):=LH (by rw [List.append_assoc];exact bo.out)
       have ce:Hid (t2.length≤m):=LH (by have:=cd.out;rw [List.length_append] at this;omega)
       clear CT f1
       go_wp2_with (first
        | (go_at_call 77
           (with_reducible refine bv.out.mono ?_)
           rintro e W6 ⟨rfl,a2,bb⟩
           have b7:=LH bb
           have ff:=LH (c5.out.nkept a2)
           have b2:=LH (b3.out.trans a2)
           clear a2 bb))
       go_roundw
       case rel=>exact ⟨I,At,Y - 1,E - kk,L,Ar,cr,t2,V++t1,rfl,by go_num,rfl,ca,c2,HF,K2,H2,bx,ff,b7,b2,cb,ce⟩
       case measure=>simp [slLen]
      case neg =>
       have bv:Hid (Calls Tryz.prog 77 #[.pointer (some ⟨mk,0,none⟩), .int .i64 (nonI s:Int), .int .i64 (kk:Int), .slice f (limbs q).length o] X9 fun e w'=>e = .returned (.bool false)∧NatKeep X9 w'∧Below W.heap.size W w'):=LH (CT.mono fun e w' hr=>by
        obtain ⟨h1,⟨P,_,_⟩ | ⟨_,P,h3⟩⟩:=hr
        · omega
        · exact ⟨P,h1,h3⟩)
       clear CT
       go_wp2_with (first
        | (go_at_call 77
           (with_reducible refine bv.out.mono ?_)
           rintro e W6 ⟨rfl,a2,bb⟩
           have b7:=LH bb
           have b2:=LH (b3.out.trans a2)
           clear a2 bb))
       go_ret
       exact ⟨b2.out, .inr ⟨by omega,rfl,b7.out⟩⟩
theorem maker_all {b:World} {k:BkH} {h:GH} {G:Gr} (c:BkG b h G) (d:Plain G):∀ m,TC b k h G m∧FC b k h G m
 | 0=>by
   have a:TC b k h G 0:=by
    intro mk cs s n r t Ar cr w f h0 j a
    obtain ⟨i,x,q,l,_,_,_,_,rfl⟩:=a
    rw [List.length_cons] at f
    omega
   exact ⟨a,tr_mforest c d 0 a⟩
 | m+1=>by
   have g:=maker_all (k:=k) c d m
   have a:=tr_mtree c d m g.2
   exact ⟨a,tr_mforest c d (m+1) a⟩
theorem tr_radd (d:Option Addr) (c1 a:Nat) (f:Option Addr) (c2 b:Nat) (w:World) (h1:Nums .u32 w d (limbs a).length c1 (limbs a)) (g:Nums .u32 w f (limbs b).length c2 (limbs b)) (k:a+b < big) :
 Calls Tryz.prog 124 #[.slice d (limbs a).length c1, .slice f (limbs b).length c2] w fun e w'=>∃ A c,e = .returned (.slice A (limbs (a+b)).length c)∧Nums .u32 w' A (limbs (a+b)).length c (limbs (a+b))∧Below w.heap.size w w':=by
 have CA:=nat_add d _ c1 (limbs a) f _ c2 (limbs b) w h1 g (limbs_lim _) (limbs_lim _)
 rw [addN_limbs a b (by omega) (by omega),fitN_ok k] at CA
 have CA:=LH CA
 clear h1 g
 go_enter Tryz.func124,Tryz.ntmps124
 go_wp2_with (first
  | (go_at_call 178
     (with_reducible refine CA.out.mono ?_)
     rintro e n ⟨h,j,rfl,m,l⟩))
 go_ret
 exact ⟨h,j,rfl,m,l⟩
end Go.Proofs.YtggbjdmpjidhgaaGreatDoor
