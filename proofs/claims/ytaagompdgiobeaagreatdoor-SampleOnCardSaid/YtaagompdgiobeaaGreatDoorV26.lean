/- counts: the reference's table, made length by length: walked. -/
import Derived.Test.YtaagompdgiobeaaGreatDoorV23
import Derived.Test.YtaagompdgiobeaaGreatDoorV24
set_option linter.all false
set_option maxHeartbeats 1500000
set_option maxRecDepth 100000
namespace Go.Proofs.YtaagompdgiobeaaGreatDoor
open Go.RowKit Go.Proofs.Tryz
variable{W0:World}{h:GH}{G:Gr}{At:Option Addr}{tab:Nat->Nat->Nat}
theorem rf_wtree{nt ct:Nat}(hT:TbG W0 h G At nt ct tab)(T:Xq G)(m:Nat)(HF:WFC W0 h G At nt ct m):WTC W0 h G At nt ct (m+1):=by
 intro f H s n r t Ar cr w f0 h0 hl hU c9 hn hr a;obtain⟨P,x0,q,t1,ae,ds,hU,dp,rfl⟩:=hU;have hq:q<Zx (Zv G) x0.right n:=hU.lt T (InG.at T.fits ae);have b5:Z0 (Zv G) G.rules (Zp s) (P+1) n<=Zv G s n:=by
  rw[Uu T h0 hl];exact Kj _ _ _ _ _
 rw[Y3 _ ae,if_pos ds] at b5;have fu:P<G.rules.length:=(AO.1 ae).1;have f1:x0.left=(Zp s:Int):=by
  have:=(T.fits.left x0 (AN ae)).1;omega
 have fy:n<=10:=by have:=hT.nt;omega
 have fe:Hid (∀(j:Nat) (x:Rul),G.rules[j]? = some x->J1 x.right n/\(∀s∈x.right,G.has s=true)/\0<=x.left):=LH λj x hx=>by
  have h1:=Bg T.fits (AN hx) fy;exact⟨h1.1,h1.2,(T.fits.left x (AN hx)).1⟩
 have cp:Hid (∀(j:Nat) (x:Rul),G.rules[j]? = some x->Z0 (Zv G) G.rules (Zp s) (j+1) n=Z0 (Zv G) G.rules (Zp s) j n+(if x.left.toNat=Zp s then Zx (Zv G) x.right n else 0)):=LH λj x hx=>Y3 _ hx _ _;have cn:Hid (∀j,j<=P->Z0 (Zv G) G.rules (Zp s) j n<=Z0 (Zv G) G.rules (Zp s) P n):=LH λj hj=>Vf _ _ _ _ hj;have d7:Hid (InG G x0.right):=InG.at T.fits ae;obtain⟨A,c,W⟩:=a;obtain⟨a1,n1,c1,a2,n2,c2,a3,n3,c3⟩:=h;have de:n3=G.rules.length:=hT.at_.rules.len.symm;have gy:P<n3:=AA
 have hd:n3<=40:=by have:=T.fits.n3.2;omega
 have gm:=LH de;have gu:=hT.at_.rules.cap;have g3:=T.fits.n2.2;have gw:=T.fits.n1;have g9:=hT.tabm.1;have ha:=hT.tabm.2.1;have g7:=hT.nt;have g8:=(show Za .i64 w A H.length c (H.map λi:Nat=>(i:Int)) from Yl W.row.1).cap;have gv:=W.few;have HB:=LH hT;have d6:=LH HF;have HU:=LH hU;have br:=LH ae;have cm:=LH c9;have HR:=LH hr;have HM:=LH W;have cq:=LH b5;have a9:=LH dp;have Hq:=LH hq;have g0:w.cell? ⟨f,0,none⟩=some (.slice a1 n1 c1):=W.box.cell 0;have g2:w.cell? ⟨f,2,none⟩=some (.slice a3 n3 c3):=W.box.cell 2;have g5:w.cell? ⟨f,5,none⟩=some (.slice A H.length c):=W.box.cell 5;have g6:w.cell? ⟨f,6,none⟩=some (.bool false):=W.box.cell 6;have f6:=W.box.frozen 6;have U:=W.box.lt;clear hT T HF hU ae ds c9 hr W b5 dp hq h0 hl de fu;by_cases aw:H.length=300
 case pos =>
  have ft:((H.length:Int)==300)=true:=by rw[aw];rfl
  have bm:=LH aw;have av:=HM.out.fill;have ch:=LH av;have y6:(w.setCell ⟨f,6,none⟩ (.bool true)).cell? ⟨f,6,none⟩=some (.bool true):=av.1.box.cell 6;have y2:(w.setCell ⟨f,6,none⟩ (.bool true)).cell? ⟨f,2,none⟩=some (.slice a3 n3 c3):=av.1.box.cell 2;have yl:=av.1.box.lt;clear aw av;go_enter func37,ntmps37;go_wp2_with fail;go_loopw [8] (λi wr=>i = .int .i64 (0:Int)/\wr=w.setCell ⟨f,6,none⟩ (.bool true)) (λ_ _=>0)
  case atStart=>exact⟨rfl,rfl⟩
  obtain⟨rfl,rfl⟩:=hrel;go_wp2_with fail;refine bodyPost_end (results_none rfl _ _ _) rfl ?_;exact⟨rfl,ch.out.2,.inr ⟨by rw[bm.out,AY];omega,H,_,_,ch.out.1⟩⟩
 have ft:((H.length:Int)==300)=false:=by
  rw[AQ];omega
 have bm:=LH aw;clear aw;go_enter func37,ntmps37;go_wp2_with fail;go_loopw [3,8] (λv i wr=>∃(j D:Nat) (Z:Option Addr) (cv:Nat),i = .int .i64 (j:Int)/\j<=P/\v = .slice Z (limbs D).length cv/\Hid (r=Z0 (Zv G) G.rules (Zp s) j n+D)/\Hid (Zq .u32 wr Z (limbs D).length cv (limbs D))/\Hid (Below w w wr)) (λ_ i _=>P+1-(intOf i).toNat)
 case atStart=>exact⟨0,r,Ar,cr,rfl,AS _,rfl,LH (by rw[Qb];omega),HR,LH (AL _ _)⟩
 obtain⟨j,D,Z,cv,rfl,hj,rfl,ah,HN,bl⟩:=hrel;have bi:=LH (HM.out.below bl.out);clear g0 g2 g5 g6 f6 U HM HR;have M:=bi.out;obtain⟨L,N,x,Ax,cx,rfl,b0,Hx,q0,q1,q2,c0⟩:=HB.out.at_.rules.get (j:=j) (by show j<n3;omega);have e0:=(M.base.cell (p:=⟨L,N+j*3,none⟩) b0).trans q0;have S:=(M.base.cell (p:=⟨L,N+j*3+1,none⟩) b0).trans q1;have au:=AK b0 M.base.size;have d8:=LH c0;have g0:wr.cell? ⟨f,0,none⟩=some (.slice a1 n1 c1):=M.box.cell 0;have g2:wr.cell? ⟨f,2,none⟩=some (.slice (some ⟨L,N,none⟩) n3 c3):=M.box.cell 2;have g4:wr.cell? ⟨f,4,none⟩=some (.slice At nt ct):=M.box.cell 4;have g5:wr.cell? ⟨f,5,none⟩=some (.slice A H.length c):=M.box.cell 5;have g6:wr.cell? ⟨f,6,none⟩=some (.bool false):=M.box.cell 6;have U:=M.box.lt;have bc:=fe.out j x Hx.out;have ci:=LH bc.1;have bn:=LH bc.2.1;have hc:=bc.2.2;have gz:j<n3:=AA
 clear M q0 q1 q2 c0 bc;by_cases aj:x.left=(Zp s:Int)
 case neg =>
  have dg:(x.left != (Zp s:Int))=true:=by simpa using aj
  have fv:j≠P:=by
   rintro rfl;have e:=Hx.out.symm.trans br.out;injection e with e;subst e;exact aj f1
  have bo:Hid (r=Z0 (Zv G) G.rules (Zp s) (j+1) n+D):=LH (by
   rw[cp.out j x Hx.out,if_neg AA];exact ah.out)
  clear aj;go_wp2_with fail;go_roundw
  case rel=>exact⟨j+1,D,Z,cv,AF,AA,rfl,bo,HN,bl⟩
  simp[intOf] <;> omega
 have dg:(x.left != (Zp s:Int))=false:=by simpa using aj
 have fk:=LH aj;obtain⟨y,Hy⟩:∃y,Hid (Zx (Zv G) x.right n=y):=⟨_,LH rfl⟩;have dq:D<big:=by
  have h1:=ah.out;have V:=a9.out;have h3:=cq.out;have h4:=cm.out;have h5:=Hq.out;have h6:=cn.out j hj;omega
 have bp:=LH dq;clear aj dq;have CF:Hid (∀X,Below wr wr X->Calls prog 63 #[.slice At nt ct,.slice Ax x.right.length cx,.int .i64 (n:Int)] X λe w'=>Below X X w'/\∃I R J O,e = .returned (.agg #[.slice I R J,.bool O])/\Z1 w' I R J O y):=LH λX k=>by
  have c7:=Zz bi.out.base k;have h1:=Kd At nt ct G.nons.length tab Ax cx x.right n X (HB.out.tabm.below c7) hn AA AA (d8.out.below c7) (by have:=ci.out.len;omega) (λs hs=>by have:=H7 (bn.out s hs);omega);rw[HB.out.forest bn.out hn,Hy.out] at h1;exact h1.mono λe w' h=>h
 go_upto_region 6 with fail;refine Yi (Γ:=Unit) (λ_ b u X=>VMs wr [(⟨15,16,14,110,#[.slice none 0 0,.bool false]⟩:Qr)] b u X) (λX z=>Zu X z) () (λu=>(⟨(.pointer (some ⟨f,0,none⟩) :: .int .i64 ((Zp s:Nat):Int) :: .int .i64 (n:Int) :: .slice Z (limbs D).length cv::undef::undef::undef::undef :: .int .i64 (j:Int)::u 15 :: .pointer (some ⟨f,0,none⟩) :: .pointer (some ⟨f,0,none⟩) :: .pointer (some ⟨f,5,none⟩) :: .slice A H.length c :: .int .i64 (H.length:Int) :: .bool false::undef::undef::undef :: .int .i64 (j:Int) :: .pointer (some ⟨f,0,none⟩) :: .pointer (some ⟨f,0,none⟩) :: .pointer (some ⟨f,0,none⟩) :: .pointer (some ⟨f,2,none⟩) :: .slice (some ⟨L,N,none⟩) n3 c3 :: .int .i64 (n3:Int) :: .bool true :: .bool true :: .pointer (some ⟨f,0,none⟩) :: .pointer (some ⟨f,0,none⟩) :: .pointer (some ⟨f,6,none⟩) :: .bool false :: .bool true :: .bool true::u34::u35 :: .pointer (some ⟨f,0,none⟩) :: .pointer (some ⟨f,0,none⟩) :: .pointer (some ⟨f,0,none⟩) :: .pointer (some ⟨f,2,none⟩) :: .slice (some ⟨L,N,none⟩) n3 c3 :: .int .i64 (j:Int) :: .pointer (some ⟨L,N+j*3,none⟩) :: .pointer (some ⟨L,N+j*3,none⟩) :: .int .i64 x.left :: .int .i64 ((Zp s:Nat):Int) :: .bool false::u 0::u 1::u 2::u 3::u 4::u 5::u 6::u 7::u 8::u 9::u 10::u 11::u 12::u 13::u 14::u62::u63::u64::u65::u66::u67::u68::u69::u70::u71::u72::u73::u74::u75::u76::u77::u78::u79::u80::u81::u82::u83::u84::u85::u86::u87::u88::u89::u90::u91::[]).toArray,[]⟩:Act)) [u47,u48,u49,u50,u51,u52,u53,u54,u55,u56,u57,u58,u59,u60,u61,u9,undef] [λv X=>v = .pointer (some ⟨f,0,none⟩),λv X=>v = .pointer (some ⟨f,0,none⟩),λv X=>v = .pointer (some ⟨f,4,none⟩),λv X=>v = .slice At nt ct,λv X=>v = .pointer (some ⟨f,0,none⟩),λv X=>v = .pointer (some ⟨f,0,none⟩),λv X=>v = .pointer (some ⟨f,0,none⟩),λv X=>v = .pointer (some ⟨f,2,none⟩),λv X=>v = .slice (some ⟨L,N,none⟩) n3 c3,λv X=>v = .int .i64 (j:Int),λv X=>v = .pointer (some ⟨L,N+j*3,none⟩),λv X=>v = .pointer (some ⟨L,N+j*3+1,none⟩),λv X=>v = .slice Ax x.right.length cx,λv X=>v = .int .i64 (n:Int),λv X=>∃I R J O,v = .agg #[.slice I R J,.bool O]/\Z1 X I R J O y,λv X=>True,λv X=>True] (l:=[_,_,_,_,_,_,_,_,_,_,_,_,_,_,_,_,_]) AB AB rfl (VMs.start _ _ _) ⟨AI,AI,AI,AI,AI,AI,AI,AI,AI,AI,AI,AI,AI,AI,(λv X z ⟨I,R,J,O,e,h⟩ k=>⟨I,R,J,O,e,h.nkept k⟩),AI,AI,trivial⟩ ?_ ?_
 ·refine Zw.con (λQ g b u X o F a d K C=>?_) ?_
  ·have E:=a.below;clear d o;go_simp;exact C _ () _ (Zu.refl _) (a.idle (AL _ _) 0 rfl _) rfl
  refine Zw.con (λQ g b u X o F a d K C=>?_) ?_
  ·have p0:u 0=_:=(d 0 rfl).2;have E:=a.below;clear d o;rw[p0] at C⊢;go_simp;exact C _ () _ (Zu.refl _) (a.idle (AL _ _) 1 rfl _) rfl
  refine Zw.con (λQ g b u X o F a d K C=>?_) ?_
  ·have p1:u 1=_:=(d 1 rfl).2;have E:=a.below;clear d o;rw[p1] at C⊢;go_simp;exact C _ () _ (Zu.refl _) (a.idle (AL _ _) 2 rfl _) rfl
  refine Zw.con (λQ g b u X o F a d K C=>?_) ?_
  ·have p2:u 2=_:=(d 2 rfl).2;have E:=a.below;have y0:=(E.cell (p:=⟨f,4,none⟩) U).trans g4;have yl:=AK U E.size;clear d o;rw[p2] at C⊢;go_simp;exact C _ () _ (Zu.refl _) (a.idle (AL _ _) 3 rfl _) rfl
  refine Zw.con (λQ g b u X o F a d K C=>?_) ?_
  ·have E:=a.below;clear d o;go_simp;exact C _ () _ (Zu.refl _) (a.idle (AL _ _) 4 rfl _) rfl
  refine Zw.con (λQ g b u X o F a d K C=>?_) ?_
  ·have p4:u 4=_:=(d 4 rfl).2;have E:=a.below;clear d o;rw[p4] at C⊢;go_simp;exact C _ () _ (Zu.refl _) (a.idle (AL _ _) 5 rfl _) rfl
  refine Zw.con (λQ g b u X o F a d K C=>?_) ?_
  ·have p5:u 5=_:=(d 5 rfl).2;have E:=a.below;clear d o;rw[p5] at C⊢;go_simp;exact C _ () _ (Zu.refl _) (a.idle (AL _ _) 6 rfl _) rfl
  refine Zw.con (λQ g b u X o F a d K C=>?_) ?_
  ·have p6:u 6=_:=(d 6 rfl).2;have E:=a.below;clear d o;rw[p6] at C⊢;go_simp;exact C _ () _ (Zu.refl _) (a.idle (AL _ _) 7 rfl _) rfl
  refine Zw.con (λQ g b u X o F a d K C=>?_) ?_
  ·have p7:u 7=_:=(d 7 rfl).2;have E:=a.below;have y0:=(E.cell (p:=⟨f,2,none⟩) U).trans g2;have yl:=AK U E.size;clear d o;rw[p7] at C⊢;go_simp;exact C _ () _ (Zu.refl _) (a.idle (AL _ _) 8 rfl _) rfl
  refine Zw.con (λQ g b u X o F a d K C=>?_) ?_
  ·have E:=a.below;clear d o;go_simp;exact C _ () _ (Zu.refl _) (a.idle (AL _ _) 9 rfl _) rfl
  refine Zw.con (λQ g b u X o F a d K C=>?_) ?_
  ·have p8:u 8=_:=(d 8 rfl).2;have p9:u 9=_:=(d 9 rfl).2;have E:=a.below;clear d o;rw[p8,p9] at C⊢;go_simp;exact C _ () _ (Zu.refl _) (a.idle (AL _ _) 10 rfl _) rfl
  refine Zw.con (λQ g b u X o F a d K C=>?_) ?_
  ·have f3:u 10=_:=(d 10 rfl).2;have E:=a.below;clear d o;rw[f3] at C⊢;go_simp;exact C _ () _ (Zu.refl _) (a.idle (AL _ _) 11 rfl _) rfl
  refine Zw.con (λQ g b u X o F a d K C=>?_) ?_
  ·have f4:u 11=_:=(d 11 rfl).2;have E:=a.below;have y0:=(E.cell (p:=⟨L,N+j*3+1,none⟩) au).trans S;have yl:=AK au E.size;clear d o;rw[f4] at C⊢;go_simp;exact C _ () _ (Zu.refl _) (a.idle (AL _ _) 12 rfl _) rfl
  refine Zw.con (λQ g b u X o F a d K C=>?_) ?_
  ·have E:=a.below;clear d o;go_simp;exact C _ () _ (Zu.refl _) (a.idle (AL _ _) 13 rfl _) rfl
  refine Zw.con (λQ g b u X o F a d K C=>?_) ?_
  ·have p3:u 3=_:=(d 3 rfl).2;have f5:u 12=_:=(d 12 rfl).2;have f7:u 13=_:=(d 13 rfl).2;have b4:b 16=false:=o.no F AB;have B:=λz (k:Below X X z) v=>a.call k 14 b4 rfl v;have E:=a.below;have CC:=CF.out X E;clear d a o;rw[p3,f5,f7] at C⊢;go_simp;go_at_call 63;(with_reducible refine CC.mono ?_);rintro e z⟨k,I,R,J,O,rfl,hv⟩;go_simp;exact C _ () _ (.of_below k) (B _ k _) ⟨I,R,J,O,rfl,hv⟩
  refine Zw.con (λQ g b u X o F a d K C=>?_) ?_
  ·have b4:b 16=false:=o.no F AB;have B:=a.made (p:=(⟨15,16,14,110,#[.slice none 0 0,.bool false]⟩:Qr)) AE b4 (λp d=>by simp only[BZ,Ea,or_false] at d;rcases d with rfl <;> exact⟨AE,AC,AC⟩);clear d a o;go_simp;exact C _ () _ (.of_below (Zy _ _)) B trivial
  refine Zw.con (λQ g b u X o F a d K C=>?_) ?_
  ·obtain⟨I,R,J,O,a4,hv⟩:=(d 14 rfl).2;obtain⟨gB,fo,ai,B,fr⟩:=a.put2 (p:=(⟨15,16,14,110,#[.slice none 0 0,.bool false]⟩:Qr)) AE (d 15 rfl).1 F (λp d=>by simp only[BZ,Ea,or_false] at d;rcases d with rfl <;> exact⟨AE,AC,AC,AE⟩) rfl nofun nofun a4
   clear d a o;generalize u 15=jd at *;subst fo;generalize u 14=jc at *;subst a4;have y0:=ai.cell 0;have jp:=ai.frozen 0;have y1:=ai.cell 1;have jq:=ai.frozen 1;have yl:=ai.lt;clear ai;go_simp;exact C undef () _ fr (B undef) trivial
  exact Zw.nil
 intro _ b9 u X9 bz bx d;obtain⟨g1,vs,dv,gx,c4,a4⟩:=bx.fin (p:=⟨15,16,14,110,#[.slice none 0 0,.bool false]⟩) AE (bz 15 AC) (bz 16 AC);obtain⟨I,R,J,O,cb,hv⟩:=d 14 AC;obtain rfl:vs=#[.slice I R J,.bool O]:=by
  rw[a4] at cb;injection cb
 have dw:u 15=_:=dv;have ba:=bx.below;have cf:=LH (Zz bl.out ba);have d9:=LH (bi.out.below ba);have bk:=LH c4;have HV:=LH hv;have bj:=LH (HN.out.below ba);clear d bz bx a4 cb ba c4 hv b9;rw[dw];clear dv dw g0 g2 g4 g5 g6 U e0 S au CF;generalize u 0=w0 at *;generalize u 1=w1 at *;generalize u 2=w2 at *;generalize u 3=w3 at *;generalize u 4=w4 at *;generalize u 5=w5 at *;generalize u 6=w6 at *;generalize u 7=w7 at *;generalize u 8=w8 at *;generalize u 9=w9 at *;generalize u 10=hf at *;generalize u 11=hg at *;generalize u 12=hh at *;generalize u 13=hi at *;generalize u 14=hk at *;clear u;have z0:X9.cell? ⟨g1,0,none⟩=some (.slice I R J):=bk.out.cell 0;have z1:X9.cell? ⟨g1,1,none⟩=some (.bool O):=bk.out.cell 1;have zl:=bk.out.lt;have CH:=LH (rf_here Z cv D I R J O y X9 bj.out bp.out HV.out);have dr:Z0 (Zv G) G.rules (Zp s) (j+1) n=Z0 (Zv G) G.rules (Zp s) j n+y:=by
  rw[cp.out j x Hx.out,if_pos (by have:=fk.out;omega),Hy.out]
 have di:j=P->D<y:=by
  intro e;subst e;have S:=Hx.out.symm.trans br.out;injection S with S;subst S;have h1:=ah.out;have V:=a9.out;have h3:=Hq.out;have h4:=Hy.out;omega
 have dd:j<P->y<=D:=by
  intro ax;have h1:=cn.out (j+1) AA;have V:=ah.out;have h3:=a9.out;omega
 have fi:=LH dr;have fg:=LH di;have ff:=LH dd;clear dr di dd dg;by_cases ax:D<y
 case neg =>
  rw[BR ax] at CH;have fv:j<P:=by
   rcases BD j P with h | h
   ·exact h
   have:=fg.out AA;omega
  have bo:Hid (r=Z0 (Zv G) G.rules (Zp s) (j+1) n+(D-y)):=LH (by
   have h1:=fi.out;have V:=ah.out;omega)
  have dt:y<big:=by have:=bp.out;omega
  obtain⟨b1,a0⟩:=HV.out;rw[Z7 dt] at b1 a0;have dh:=a0.len;simp only[] at b1 a0 dh;subst dh;have CL:Hid (∀X,Below X9 X9 X->Calls prog 79 #[.slice Z (limbs D).length cv,.slice I (limbs y).length J] X λe w'=>∃A c,e = .returned (.slice A (limbs (D-y)).length c)/\Zq .u32 w' A (limbs (D-y)).length c (limbs (D-y))/\Below X X w'):=LH λX k=>rf_less Z cv D I J y X (bj.out.below k) (a0.below k) bp.out AA;clear ax a0 dt b1;go_wp2_with (first
   | (go_at_call 77
      (with_reducible refine CH.out.mono ?_);rintro e v1⟨rfl,Y⟩;have jr:=(Y.cell (p:=⟨g1,0,none⟩) zl).trans z0;have js:=AK zl Y.size;have d4:=LH (CL.out v1 Y);have bg:=LH (Zz cf.out Y);clear Y)
   | (go_at_call 79
      (with_reducible refine d4.out.mono ?_);rintro e v2⟨A5,c5,rfl,df,c8⟩;have fb:=LH df;have d5:=LH (Zz bg.out c8);clear df c8))
  go_roundw
  case rel=>exact⟨j+1,D-y,A5,c5,AF,AA,rfl,bo,fb,d5⟩
  simp[intOf] <;> omega
 rw[DW ax] at CH;obtain rfl:j=P:=by
  rcases BD j P with h | h
  ·have:=ff.out h;omega
  omega
 obtain rfl:x=x0:=by
  have S:=Hx.out.symm.trans br.out;injection S
 obtain rfl:D=q:=by
  have h1:=ah.out;have V:=a9.out;omega
 have fd:Hid ((prog.info? 3).map (λi=>(i.zero,i.size,i.bytes))=some (some (.int .i64 0),1,8)):=LH AB;have fx:H.length+1<=maxLen:=by unfold maxLen;omega
 clear ax;go_upto_region 8 with (first
  | (go_at_call 77
     (with_reducible refine CH.out.mono ?_);rintro e v1⟨rfl,Y⟩;have ag:=LH (d9.out.below Y);have fa:=LH (bj.out.below Y);have bg:=LH (Zz cf.out Y);clear Y))
 have g5:v1.cell? ⟨f,5,none⟩=some (.slice A H.length c):=ag.out.box.cell 5;have g0:v1.cell? ⟨f,0,none⟩=some (.slice a1 n1 c1):=ag.out.box.cell 0;have U:=ag.out.box.lt;have au:W0.heap.size<=v1.heap.size:=ag.out.base.size;clear z0 z1 zl CH;go_upto_region 9 with (first
  | (at_builtin;refine Nk rfl _ _ 30 rfl W0 8 underlying30 fd.out A H.length c (H.map λi:Nat=>(i:Int)) rfl ag.out.row (j:Int) rfl fx AA au ?_;intro A5 c5 w5 dn db fs
     have ay:=ag.out.push (i:=j) (Zy _ _) dn db bm.out;have p5:w5.cell? ⟨f,5,none⟩=some (.slice A H.length c):=ay.1.cell 5;have p2:=ay.1.frozen 5;have p3:=ay.1.lt;have HP:=LH ay.2;clear ay dn db fs))
 generalize w5.setCell ⟨f,5,none⟩ (.slice A5 (H.length+1) c5)=W6 at *;clear p5 p2 p3 g5 g0 U;obtain⟨A6,c6,M6⟩:=HP.out.1;have g2:W6.cell? ⟨f,2,none⟩=some (.slice (some ⟨L,N,none⟩) n3 c3):=M6.box.cell 2;have U:=M6.box.lt;obtain⟨cw,du,x',d0,fm,eA,da,fj,gd,dy,gf,_⟩:=HB.out.at_.rules.get (j:=j) (by show j<n3;omega);have eA:(some ⟨L,N,none⟩:Option Addr)=some ⟨cw,du,none⟩:=eA;obtain⟨rfl,rfl⟩:L=cw/\N=du:=by
  injection eA with eA;injection eA with S e2 _;exact⟨S,e2⟩
 obtain rfl:x=x':=by
  have S:=Hx.out.symm.trans fj.out;injection S
 have q1:=(M6.base.cell (p:=⟨L,N+j*3+1,none⟩) da).trans dy;have gt:=AK da M6.base.size;have CF:=LH (d6.out f (H++[j]) x.right n D t1 d0 fm Z cv W6 (by rw[AY] at f0;omega) HU.out d7.out (by have h1:=cq.out;have V:=cm.out;omega) ci.out.len hn bn.out AH (fa.out.nkept HP.out.2) HP.out.1);clear M6 gd dy gf;go_wp2_with (first
  | (go_at_call 78
     (with_reducible refine CF.out.mono ?_);rintro e W7⟨rfl,fw,dj⟩;have fh:=LH dj;clear dj))
 refine AW (results_none rfl _ _ _) rfl ?_;refine⟨rfl,(Zu.of_below bg.out).trans (HP.out.2.trans fw),?_⟩;have dk:=fh.out;rw[AV,CX] at dk;rw[AY];rcases dk with ⟨h1,V⟩ | ⟨h1,V⟩
 ·rw[DX] at V;exact .inl ⟨AA,V⟩
 exact .inr ⟨AA,V⟩
theorem Zwp{V P:Nat}(hT:TbG W0 h G At V P tab)(hP:Xq G)(m:Nat)(HT:WTC W0 h G At V P m):WFC W0 h G At V P m:=by
 intro O cs l
 induction l generalizing cs with
 | nil =>
   intro n r t Al W Ar cr w cf hU bd cd ce hn hh hl hr d;have fs:=d;obtain⟨A,c,ag⟩:=d;cases hU;have g7:=LH ag.few;have HM:=LH fs;clear ag fs hT hP HT bd cd ce hh hl hr cf;go_enter func78,ntmps78;go_wp2_with fail;refine AW (results_none rfl _ _ _) rfl ?_;exact⟨rfl,Zu.refl _,.inl ⟨by have:=g7.out;rw[DE];omega,by rw[DK];exact HM.out⟩⟩
 | cons s l ih =>
   intro n r t Al W Ar cr w cf hU bd cd ce hn hh hl hr d;obtain⟨k,q,r2,t1,t2,j3,ga,f8,f7,fu,rfl,f6,be⟩:=hU.parts hP bd;obtain⟨A,c,ag⟩:=d;obtain⟨a1,n1,c1,a2,n2,c2,a3,n3,c3⟩:=h;have j9:=hT.tabm.1;have ka:=hT.tabm.2.1;have j7:=hT.nt;have j0:=hP.fits.n1;have j6:=hP.fits.n2.2;have gc:=H7 (hh s (By ..));have jy:=hl.cap;obtain⟨ab,ao,s',rfl,cb,fm,dt⟩:=hl.get (j:=0) AE;obtain rfl:s=s':=by have:=fm.out;simpa using this
   rw[DO] at dt;have b7:=hl.tail1;rw[show (s::l).length-1=l.length from rfl] at b7;obtain⟨A2,hm⟩:∃A2:Option Addr,(if W=1 then some (⟨ab,ao,none⟩:Addr) else some ⟨ab,ao+1,none⟩)=A2:=⟨_,rfl⟩;rw[hm] at b7;have ht:InG G [s]:=λp f f5=>by
    rw[BP.1 f] at f5 ⊢;exact bd s (By ..) f5
   have ft:0<Zx (Zv G) l (n-k):=AA
   have db:Hid (∀j,j<=k+1->Yv (Zv G) s l n j<=Zx (Zv G) (s::l) n):=LH λj hj=>by
    rw[<-Jn];exact Wz _ _ _ _ AA
   have bk:Hid (∀j,Yv (Zv G) s l n (j+1)=Yv (Zv G) s l n j+Zv G s j*Zx (Zv G) l (n-j)):=LH λj=>Xy _ _ _ _ _;have g8:Hid (∀j,j<=k->Yv (Zv G) s l n j<=Yv (Zv G) s l n k):=LH λj hj=>Wz _ _ _ _ hj;have HB:=LH hT;have gy:=LH HT;have IH:=LH ih;have fe:=LH fu;have dd:=LH ga;have fl:=LH f8;have fk:=LH f7;have hc:=LH f6;have ha:=LH be;have da:=LH bd;have c9:=LH cd;have Hh:=LH hh;have cx:=LH b7;have HL:=LH hl;have HM:=LH ag;have HR:=LH hr;have df:=LH cf;have HP:=LH hP;have j5:l.length<=5:=by simpa using ce
   have gz:=LH ft;have fn:=LH gc;have ba:=ag.base;have g4:w.cell? ⟨O,4,none⟩=some (.slice At V P):=ag.box.cell 4;have g6:w.cell? ⟨O,6,none⟩=some (.bool false):=ag.box.cell 6;have gl:=ag.box.lt;have j4:((l.length:Int)+1==0)=false:=by rw[AQ];omega
   clear hT HT ih hU fu ga f8 f7 f6 be bd cd hh b7 hl ag hr cf hP ft fm ht ba ce gc;go_enter func78,ntmps78;go_wp2_with fail;go_loopw [3,8] (λv i wr=>∃(j N:Nat) (Av:Option Addr) (cv:Nat),i = .int .i64 (j:Int)/\j<=k/\v = .slice Av (limbs N).length cv/\Hid (r=Yv (Zv G) s l n j+N)/\Hid (Zq .u32 wr Av (limbs N).length cv (limbs N))/\Hid (Below w w wr)) (λ_ i _=>k+1-(intOf i).toNat)
   case atStart=>exact⟨0,r,Ar,cr,rfl,AS _,rfl,LH (by rw[Ug];omega),HR,LH (AL _ _)⟩
   obtain⟨j,N,Av,cv,rfl,hj,rfl,b5,HN,fi⟩:=hrel;have bh:=LH (HM.out.below fi.out);clear g4 g6 gl HM HR;have M:=bh.out;have g4:wr.cell? ⟨O,4,none⟩=some (.slice At V P):=M.box.cell 4;have gl:=M.box.lt;have s0:=(M.base.cell (p:=⟨ab,ao,none⟩) cb).trans dt;have sl:=AK cb M.base.size;have j2:j<=n:=AA
   clear M;obtain⟨x,Hx⟩:∃x,Hid (Zv G s j=x):=⟨_,LH rfl⟩;obtain⟨y,Hy⟩:∃y,Hid (Zx (Zv G) l (n-j)=y):=⟨_,LH rfl⟩;have CT:Hid (∀X,Below wr wr X->Calls prog 123 #[.slice At V P,.int .i64 s,.int .i64 (j:Int)] X λe w'=>Below X X w'/\∃H L I J,e = .returned (.agg #[.slice H L I,.bool J])/\Z1 w' H L I J x):=LH λX o=>by
    have ba:=Zz bh.out.base o;have h1:=Ztn At V P G.nons.length tab s j X (HB.out.tabm.below ba) AA AA AA (λ_=>by have:=fn.out;omega);rw[HB.out.tree (Hh.out s (By ..)) AA,Hx.out] at h1;exact h1.mono λe w' h=>h
   have CF:Hid (∀X,Below wr wr X->Calls prog 63 #[.slice At V P,.slice A2 l.length (W-1),.int .i64 ((n-j:Nat):Int)] X λe w'=>Below X X w'/\∃H L I J,e = .returned (.agg #[.slice H L I,.bool J])/\Z1 w' H L I J y):=LH λX o=>by
    have ba:=Zz bh.out.base o;have h1:=Kd At V P G.nons.length tab A2 (W-1) l (n-j) X (HB.out.tabm.below ba) AA AA AA (cx.out.below ba) AA (λs hs=>by have:=H7 (Hh.out s (.tail _ hs));omega);rw[HB.out.forest (λs hs=>Hh.out s (.tail _ hs)) AA,Hy.out] at h1;exact h1.mono λe w' h=>h
   go_upto_region 4 with fail;refine Yi (Γ:=Unit) (λ_ b u X=>VMs wr [(⟨19,21,8,110,#[.slice none 0 0,.bool false]⟩:Qr),(⟨20,22,18,110,#[.slice none 0 0,.bool false]⟩:Qr)] b u X) (λX D=>Zu X D) () (λu=>(⟨(.pointer (some ⟨O,0,none⟩) :: .slice (some ⟨ab,ao,none⟩) (l.length+1) W :: .int .i64 (n:Int) :: .slice Av (limbs N).length cv::undef::undef::undef::undef :: .int .i64 (j:Int)::u 19::u 20::u11::u12::u13::u14 :: .slice (some ⟨ab,ao,none⟩) (l.length+1) W :: .int .i64 ((l.length:Int)+1) :: .bool false :: .bool false :: .pointer (some ⟨O,0,none⟩) :: .pointer (some ⟨O,0,none⟩) :: .pointer (some ⟨O,6,none⟩) :: .bool false :: .bool false :: .int .i64 (j:Int) :: .int .i64 (n:Int) :: .bool true::u27::u28::u 0::u 1::u 2::u 3::u 4::u 5::u 6::u 7::u 8::u 9::u 10::u 11::u 12::u 13::u 14::u 15::u 16::u 17::u 18::u48::u49::u50::u51::u52::u53::u54::u55::u56::u57::u58::u59::u60::u61::u62::u63::u64::u65::u66::u67::u68::u69::u70::u71::u72::u73::u74::u75::u76::u77::u78::u79::u80::u81::u82::u83::u84::u85::u86::[]).toArray,[]⟩:Act)) [u29,u30,u31,u32,u33,u34,u35,u36,u37,u38,u39,u40,u41,u42,u43,u44,u45,u46,u47,u9,u10,undef,undef] [λv X=>v = .pointer (some ⟨O,0,none⟩),λv X=>v = .pointer (some ⟨O,0,none⟩),λv X=>v = .pointer (some ⟨O,4,none⟩),λv X=>v = .slice At V P,λv X=>v = .slice (some ⟨ab,ao,none⟩) (l.length+1) W,λv X=>v = .pointer (some ⟨ab,ao,none⟩),λv X=>v = .int .i64 s,λv X=>v = .int .i64 (j:Int),λv X=>∃H L I J,v = .agg #[.slice H L I,.bool J]/\Z1 X H L I J x,λv X=>v = .pointer (some ⟨O,0,none⟩),λv X=>v = .pointer (some ⟨O,0,none⟩),λv X=>v = .pointer (some ⟨O,4,none⟩),λv X=>v = .slice At V P,λv X=>v = .slice (some ⟨ab,ao,none⟩) (l.length+1) W,λv X=>v = .slice A2 l.length (W-1),λv X=>v = .int .i64 (n:Int),λv X=>v = .int .i64 (j:Int),λv X=>v = .int .i64 ((n-j:Nat):Int),λv X=>∃H L I J,v = .agg #[.slice H L I,.bool J]/\Z1 X H L I J y,λv X=>True,λv X=>True,λv X=>True,λv X=>True] (l:=[_,_,_,_,_,_,_,_,_,_,_,_,_,_,_,_,_,_,_,_,_,_,_]) AB AB rfl (VMs.start _ _ _) ⟨AI,AI,AI,AI,AI,AI,AI,AI,(λv X D ⟨H,L,I,J,e,h⟩ o=>⟨H,L,I,J,e,h.nkept o⟩),AI,AI,AI,AI,AI,AI,AI,AI,AI,(λv X D ⟨H,L,I,J,e,h⟩ o=>⟨H,L,I,J,e,h.nkept o⟩),AI,AI,AI,AI,trivial⟩ ?_ ?_
   ·refine Zw.con (λQ g b u X z E d f K C=>?_) ?_
    ·have F:=d.below;clear f z;go_simp;exact C _ () _ (Zu.refl _) (d.idle (AL _ _) 0 rfl _) rfl
    refine Zw.con (λQ g b u X z E d f K C=>?_) ?_
    ·have p0:u 0=_:=(f 0 rfl).2;have F:=d.below;clear f z;rw[p0] at C⊢;go_simp;exact C _ () _ (Zu.refl _) (d.idle (AL _ _) 1 rfl _) rfl
    refine Zw.con (λQ g b u X z E d f K C=>?_) ?_
    ·have p1:u 1=_:=(f 1 rfl).2;have F:=d.below;clear f z;rw[p1] at C⊢;go_simp;exact C _ () _ (Zu.refl _) (d.idle (AL _ _) 2 rfl _) rfl
    refine Zw.con (λQ g b u X z E d f K C=>?_) ?_
    ·have p2:u 2=_:=(f 2 rfl).2;have F:=d.below;have y0:=(F.cell (p:=⟨O,4,none⟩) gl).trans g4;have yl:=AK gl F.size;clear f z;rw[p2] at C⊢;go_simp;exact C _ () _ (Zu.refl _) (d.idle (AL _ _) 3 rfl _) rfl
    refine Zw.con (λQ g b u X z E d f K C=>?_) ?_
    ·have F:=d.below;clear f z;go_simp;exact C _ () _ (Zu.refl _) (d.idle (AL _ _) 4 rfl _) rfl
    refine Zw.con (λQ g b u X z E d f K C=>?_) ?_
    ·have p4:u 4=_:=(f 4 rfl).2;have F:=d.below;clear f z;rw[p4] at C⊢;go_simp;exact C _ () _ (Zu.refl _) (d.idle (AL _ _) 5 rfl _) rfl
    refine Zw.con (λQ g b u X z E d f K C=>?_) ?_
    ·have p5:u 5=_:=(f 5 rfl).2;have F:=d.below;have y0:=(F.cell (p:=⟨ab,ao,none⟩) sl).trans s0;have yl:=AK sl F.size;clear f z;rw[p5] at C⊢;go_simp;exact C _ () _ (Zu.refl _) (d.idle (AL _ _) 6 rfl _) rfl
    refine Zw.con (λQ g b u X z E d f K C=>?_) ?_
    ·have F:=d.below;clear f z;go_simp;exact C _ () _ (Zu.refl _) (d.idle (AL _ _) 7 rfl _) rfl
    refine Zw.con (λQ g b u X z E d f K C=>?_) ?_
    ·have p3:u 3=_:=(f 3 rfl).2;have p6:u 6=_:=(f 6 rfl).2;have p7:u 7=_:=(f 7 rfl).2;have du:b 21=false:=z.no E AB;have B:=λD (o:Below X X D) v=>d.call o 8 du rfl v;have F:=d.below;have CC:=CT.out X F;clear f d z;rw[p3,p6,p7] at C⊢;go_simp;go_at_call 123;(with_reducible refine CC.mono ?_);rintro e D⟨o,H,L,I,J,rfl,hv⟩;go_simp;exact C _ () _ (.of_below o) (B _ o _) ⟨H,L,I,J,rfl,hv⟩
    refine Zw.con (λQ g b u X z E d f K C=>?_) ?_
    ·have F:=d.below;clear f z;go_simp;exact C _ () _ (Zu.refl _) (d.idle (AL _ _) 9 rfl _) rfl
    refine Zw.con (λQ g b u X z E d f K C=>?_) ?_
    ·have p9:u 9=_:=(f 9 rfl).2;have F:=d.below;clear f z;rw[p9] at C⊢;go_simp;exact C _ () _ (Zu.refl _) (d.idle (AL _ _) 10 rfl _) rfl
    refine Zw.con (λQ g b u X z E d f K C=>?_) ?_
    ·have h7:u 10=_:=(f 10 rfl).2;have F:=d.below;clear f z;rw[h7] at C⊢;go_simp;exact C _ () _ (Zu.refl _) (d.idle (AL _ _) 11 rfl _) rfl
    refine Zw.con (λQ g b u X z E d f K C=>?_) ?_
    ·have h8:u 11=_:=(f 11 rfl).2;have F:=d.below;have y0:=(F.cell (p:=⟨O,4,none⟩) gl).trans g4;have yl:=AK gl F.size;clear f z;rw[h8] at C⊢;go_simp;exact C _ () _ (Zu.refl _) (d.idle (AL _ _) 12 rfl _) rfl
    refine Zw.con (λQ g b u X z E d f K C=>?_) ?_
    ·have F:=d.below;clear f z;go_simp;exact C _ () _ (Zu.refl _) (d.idle (AL _ _) 13 rfl _) rfl
    refine Zw.con (λQ g b u X z E d f K C=>?_) ?_
    ·have jb:u 13=_:=(f 13 rfl).2;have B:=λD (o:Below X X D) v=>d.idle o 14 rfl v;have F:=d.below;have hy:(1:Int)<=(l.length:Int)+1:=AA
     clear f d z;generalize u 13=kw at *;subst jb;go_simp;exact C _ () _ (Zu.refl _) (B _ (AL _ _) _) rfl
    refine Zw.con (λQ g b u X z E d f K C=>?_) ?_
    ·have F:=d.below;clear f z;go_simp;exact C _ () _ (Zu.refl _) (d.idle (AL _ _) 15 rfl _) rfl
    refine Zw.con (λQ g b u X z E d f K C=>?_) ?_
    ·have F:=d.below;clear f z;go_simp;exact C _ () _ (Zu.refl _) (d.idle (AL _ _) 16 rfl _) rfl
    refine Zw.con (λQ g b u X z E d f K C=>?_) ?_
    ·have jd:u 15=_:=(f 15 rfl).2;have je:u 16=_:=(f 16 rfl).2;have B:=λD (o:Below X X D) v=>d.idle o 17 rfl v;have F:=d.below;have hw:IntKind.i64.wrap ((n:Int)-(j:Int))=((n-j:Nat):Int):=by rw[Cc _ AA];omega
     clear f d z;generalize u 15=ky at *;subst jd;generalize u 16=kz at *;subst je;go_simp;exact C _ () _ (Zu.refl _) (B _ (AL _ _) _) (by first | rfl | rw[hw])
    refine Zw.con (λQ g b u X z E d f K C=>?_) ?_
    ·have ja:u 12=_:=(f 12 rfl).2;have jc:u 14=_:=(f 14 rfl).2;have jf:u 17=_:=(f 17 rfl).2;have dv:b 22=false:=z.no E AB;have B:=λD (o:Below X X D) v=>d.call o 18 dv rfl v;have F:=d.below;have CC:=CF.out X F;clear f d z;rw[ja,jc,jf] at C⊢;go_simp;go_at_call 63;(with_reducible refine CC.mono ?_);rintro e D⟨o,H,L,I,J,rfl,hv⟩;go_simp;exact C _ () _ (.of_below o) (B _ o _) ⟨H,L,I,J,rfl,hv⟩
    refine Zw.con (λQ g b u X z E d f K C=>?_) ?_
    ·have du:b 21=false:=z.no E AB;have B:=d.made (p:=(⟨19,21,8,110,#[.slice none 0 0,.bool false]⟩:Qr)) AE du (λp f=>by simp only[BZ,Ea,or_false] at f;rcases f with rfl | rfl <;> exact⟨AE,AC,AC⟩);clear f d z;go_simp;exact C _ () _ (.of_below (Zy _ _)) B trivial
    refine Zw.con (λQ g b u X z E d f K C=>?_) ?_
    ·have dv:b 22=false:=z.no E AB;have B:=d.made (p:=(⟨20,22,18,110,#[.slice none 0 0,.bool false]⟩:Qr)) AE dv (λp f=>by simp only[BZ,Ea,or_false] at f;rcases f with rfl | rfl <;> exact⟨AE,AC,AC⟩);clear f d z;go_simp;exact C _ () _ (.of_below (Zy _ _)) B trivial
    refine Zw.con (λQ g b u X z E d f K C=>?_) ?_
    ·obtain⟨H,L,I,J,p8,hv⟩:=(f 8 rfl).2;obtain⟨gB,hi,U,B,dk⟩:=d.put2 (p:=(⟨19,21,8,110,#[.slice none 0 0,.bool false]⟩:Qr)) AE (f 19 rfl).1 E (λp f=>by simp only[BZ,Ea,or_false] at f;rcases f with rfl | rfl <;> exact⟨AE,AC,AC,AE⟩) rfl nofun nofun p8
     clear f d z;generalize u 19=k2 at *;subst hi;generalize u 8=x8 at *;subst p8;have y0:=U.cell 0;have js:=U.frozen 0;have y1:=U.cell 1;have jt:=U.frozen 1;have yl:=U.lt;clear U;go_simp;exact C undef () _ dk (B undef) trivial
    refine Zw.con (λQ g b u X z E d f K C=>?_) ?_
    ·obtain⟨H,L,I,J,bx,hv⟩:=(f 18 rfl).2;obtain⟨gB,hk,U,B,dk⟩:=d.put2 (p:=(⟨20,22,18,110,#[.slice none 0 0,.bool false]⟩:Qr)) AE (f 20 rfl).1 E (λp f=>by simp only[BZ,Ea,or_false] at f;rcases f with rfl | rfl <;> exact⟨AE,AC,AC,AE⟩) rfl nofun nofun bx
     clear f d z;generalize u 20=k4 at *;subst hk;generalize u 18=k1 at *;subst bx;have y0:=U.cell 0;have js:=U.frozen 0;have y1:=U.cell 1;have jt:=U.frozen 1;have yl:=U.lt;clear U;go_simp;exact C undef () _ dk (B undef) trivial
    exact Zw.nil
   intro _ b9 u X9 bp ca f;obtain⟨g1,jo,gi,_,fv,p8⟩:=ca.fin (p:=⟨19,21,8,110,#[.slice none 0 0,.bool false]⟩) AE (bp 19 AC) (bp 21 AC);obtain⟨g2,jp,gk,_,fw,bx⟩:=ca.fin (p:=⟨20,22,18,110,#[.slice none 0 0,.bool false]⟩) AE (bp 20 AC) (bp 22 AC);obtain⟨H,L,I,J,q8,gd⟩:=f 8 AC;obtain⟨A3,dw,a4,d3,dx,ge⟩:=f 18 AC;obtain rfl:jo=#[.slice H L I,.bool J]:=by
    rw[p8] at q8;injection q8
   obtain rfl:jp=#[.slice A3 dw a4,.bool d3]:=by
    rw[bx] at dx;injection dx
   have gj:u 19=_:=gi;have gm:u 20=_:=gk;have cc:=ca.below;have d7:=LH (Zz fi.out cc);have d9:=LH (bh.out.below cc);have b4:=LH fv;have bi:=LH fw;have ff:=LH gd;have c7:=LH ge;have fb:=LH (HN.out.below cc);clear f bp ca p8 q8 bx dx cc fv fw gd ge b9;rw[gj,gm];clear gi gk gj gm g4 gl s0 sl CT CF;generalize u 0=w0 at *;generalize u 1=w1 at *;generalize u 2=w2 at *;generalize u 3=w3 at *;generalize u 4=w4 at *;generalize u 5=w5 at *;generalize u 6=w6 at *;generalize u 7=w7 at *;generalize u 8=w8 at *;generalize u 9=w9 at *;generalize u 10=kc at *;generalize u 11=kd at *;generalize u 12=ke at *;generalize u 13=kf at *;generalize u 14=kg at *;generalize u 15=kh at *;generalize u 16=ki at *;generalize u 17=kj at *;generalize u 18=kk at *;clear u;have z0:X9.cell? ⟨g1,0,none⟩=some (.slice H L I):=b4.out.cell 0;have z1:X9.cell? ⟨g1,1,none⟩=some (.bool J):=b4.out.cell 1;have zl:=b4.out.lt;have x0:X9.cell? ⟨g2,0,none⟩=some (.slice A3 dw a4):=bi.out.cell 0;have x1:X9.cell? ⟨g2,1,none⟩=some (.bool d3):=bi.out.cell 1;have xl:=bi.out.lt;have CM:=LH (Gt H L I J x A3 dw a4 d3 y X9 ff.out c7.out);go_upto_region 6 with (first
    | (go_at_call 124
       (with_reducible refine CM.out.mono ?_);rintro e v5⟨fy,A4,n4,c4,d4,rfl,gf⟩))
   have dm:=Zy v5 (.cells #[.slice A4 n4 c4,.bool d4] 110);have fx:=Blk.new v5 110 #[.slice A4 n4 c4,.bool d4];have bc:=Zz fy dm;have d6:=LH (Zz d7.out bc);have gv:=LH (d9.out.below bc);have g5:=LH (bi.out.ext bc);have c8:=LH fx;have fg:=LH (gf.below dm);have g0:=LH (c7.out.below bc);have c0:=LH (fb.out.below bc);clear z0 z1 zl x0 x1 xl CM fy dm bc fx gf d7 d9 b4 bi ff c7 fb bh HN;generalize v5.alloc (.cells #[.slice A4 n4 c4,.bool d4] 110)=W6 at *;generalize v5.heap.size=g3 at *;have z0:W6.cell? ⟨g3,0,none⟩=some (.slice A4 n4 c4):=c8.out.cell 0;have z1:W6.cell? ⟨g3,1,none⟩=some (.bool d4):=c8.out.cell 1;have zl:=c8.out.lt;have ds:N<big:=by
    have h1:=b5.out;have R:=dd.out;have S:=db.out (k+1) (AJ _);have h4:=bk.out k;have h5:=c9.out;have h6:q*Zx (Zv G) l (n-k)+r2<Zv G s k*Zx (Zv G) l (n-k):=by
     have:=Lc (a:=0) (q:=q) (T:=Zv G s k) (by have:=fk.out;omega) fl.out;rwa [BF] at this
    omega
   have de:=LH ds;have f4:j=k->N=q*y+r2/\r2<y/\q<x:=by
    intro e;subst e;have h1:=b5.out;have R:=dd.out;have S:=fl.out;have h4:=fk.out;rw[Hy.out] at R S;rw[Hx.out] at h4;exact⟨AA,S,h4⟩
   have f0:j<k->x*y<=N:=by
    intro br;have h1:=g8.out (j+1) AA;have R:=b5.out;have S:=dd.out;have h4:=bk.out j;rw[Hx.out,Hy.out] at h4;omega
   have fj:=LH f4;have g9:=LH f0;have CH:=LH (rf_here Av cv N A4 n4 c4 d4 (x*y) W6 c0.out ds fg.out);clear ds f4 f0;by_cases br:N<x*y
   case neg =>
    rw[BR br] at CH;have j1:j<k:=by
     rcases BD j k with h | h
     ·exact h
     obtain⟨h1,R,S⟩:=fj.out AA;have:=Lc (a:=0) (q:=q) (T:=x) AA R;rw[BF] at this;omega
    have hd:Hid (r=Yv (Zv G) s l n (j+1)+(N-x*y)):=LH (by
     have h1:=bk.out j;rw[Hx.out,Hy.out] at h1;have R:=b5.out;omega)
    have bf:x*y<big:=by have:=de.out;omega
    obtain⟨dn,Z⟩:=fg.out;rw[Z7 bf] at dn Z;have bt:=Z.len;simp only[] at dn Z bt;subst bt;have CL:Hid (∀X,Below W6 W6 X->Calls prog 79 #[.slice Av (limbs N).length cv,.slice A4 (limbs (x*y)).length c4] X λe w'=>∃A c,e = .returned (.slice A (limbs (N-x*y)).length c)/\Zq .u32 w' A (limbs (N-x*y)).length c (limbs (N-x*y))/\Below X X w'):=LH λX o=>rf_less Av cv N A4 c4 (x*y) X (c0.out.below o) (Z.below o) de.out AA;clear br Z bf dn;generalize x*y=xy at *;go_wp2_with (first
     | (go_at_call 77
        (with_reducible refine CH.out.mono ?_);rintro e v1⟨rfl,Y⟩;have lc:=(Y.cell (p:=⟨g3,0,none⟩) zl).trans z0;have ld:=AK zl Y.size;have gs:=LH (CL.out v1 Y);have cy:=LH (Zz d6.out Y);clear Y)
     | (go_at_call 79
        (with_reducible refine gs.out.mono ?_);rintro e v2⟨A5,c5,rfl,f1,bb⟩;have gw:=LH f1;have bg:=LH (Zz cy.out bb);clear f1 bb))
    go_roundw
    case rel=>exact⟨j+1,N-xy,A5,c5,AF,AA,rfl,hd,gw,bg⟩
    simp[intOf] <;> omega
   rw[DW br] at CH;obtain rfl:j=k:=by
    rcases BD j k with h | h
    ·have:=g9.out h;omega
    omega
   obtain⟨gb,f9,j8⟩:=fj.out rfl;have bf:y<big:=by
    have h1:=db.out (j+1) (AJ _);have R:=bk.out j;rw[Hx.out,Hy.out] at R;have S:=c9.out;have h4:y<=x*y:=Nat.le_mul_of_pos_left y AA;omega
   obtain⟨dp,Z⟩:=g0.out;rw[Z7 bf] at dp Z;have bt:=Z.len;simp only[] at dp Z bt;subst bt;subst dp;have fo:=LH bf;have dq:N / y=q/\N % y=r2:=by
    subst gb;refine⟨?_,?_⟩
    ·rw[Eo,Nat.add_mul_div_right _ _ AA,Nat.div_eq_of_lt f9,BF]
    rw[Eo,Nat.add_mul_mod_self_right,Ee f9]
   have CQ:Hid (∀X,Below W6 W6 X->Calls prog 138 #[.slice Av (limbs N).length cv,.slice A3 (limbs y).length a4] X λe w'=>∃Aq cq Aw cw,e = .returned (.tuple #[.slice Aq (limbs q).length cq,.slice Aw (limbs r2).length cw,.int .i64 0])/\Zq .u32 w' Aq (limbs q).length cq (limbs q)/\Zq .u32 w' Aw (limbs r2).length cw (limbs r2)/\Below X X w'):=LH λX o=>by
    have h1:=ref_quo Av _ cv (limbs N) A3 _ a4 (limbs y) X (c0.out.below o) (Z.below o) (Z9 _) (Z9 _);rw[Zv2 de.out fo.out AA,dq.1,dq.2] at h1;unfold RetQuo at h1;exact h1
   clear br gb dq bf Z;go_upto_region 9 with (first
    | (go_at_call 77
       (with_reducible refine CH.out.mono ?_);rintro e v1⟨rfl,Y⟩;have gu:=LH (gv.out.below Y);have dl:=g5.out.ext Y;have x0:v1.cell? ⟨g2,0,none⟩=some (.slice A3 (limbs y).length a4):=dl.cell 0;have xl:=dl.lt;have cy:=LH (Zz d6.out Y);have gt:=LH (CQ.out v1 Y);clear Y dl)
    | (go_at_call 138
       (with_reducible refine gt.out.mono ?_);rintro e v2⟨Aq,cq,Aw,cw,rfl,f2,f3,bb⟩;have b3:=LH (gu.out.below bb);have gx:=LH f2;have fc:=LH f3;have bg:=LH (Zz cy.out bb);clear f2 f3 bb))
   clear x0 xl z0 z1 zl CH CQ;have s0:=(b3.out.base.cell (p:=⟨ab,ao,none⟩) cb).trans dt;have sl:=AK cb b3.out.base.size;have hw:IntKind.i64.wrap ((n:Int)-(j:Int))=((n-j:Nat):Int):=by rw[Cc _ AA];omega
   have hy:(1:Int)<=(l.length:Int)+1:=AA
   have fz:Zx (Zv G) l (n-j)<big:=by rw[Hy.out];exact fo.out
   have fh:=LH fz;clear fz;by_cases be:s<0
   case neg =>
    obtain⟨rfl,rfl,hu⟩:=hc.out AA;clear hu;have CF:=LH (IH.out cs (n-j) r2 t2 A2 (W-1) Aw cw v2 (by have:=df.out;rwa [DA] at this) fe.out da.out.tail fh.out AA AA (λs hs=>Hh.out s (.tail _ hs)) cx.out fc.out ⟨_,_,b3.out⟩);go_wp2_with (first
     | (go_at_call 78
        (with_reducible refine CF.out.mono ?_);rintro e W7⟨rfl,aj,bu⟩;have dc:=LH bu;clear bu))
    refine AW (results_none rfl _ _ _) rfl ?_;exact⟨rfl,(Zu.of_below bg.out).trans aj,by rw[DA];exact dc.out⟩
   have kb:IntKind.i64.wrap (-1-s)=((Zp s:Nat):Int):=by
    rw[Cc _ (by have:=fn.out;omega)];unfold Zp;omega
   have CT:=gy.out O cs s j q t1 Aq cq v2 (by have:=df.out;rw[AV] at this;omega) be (da.out s (By ..) be) (ha.out be) (by
    have h1:=db.out (j+1) (AJ _);have R:=bk.out j;have S:=c9.out;have h4:Zv G s j<=Zv G s j*Zx (Zv G) l (n-j):=Nat.le_mul_of_pos_right _ gz.out;omega) AA gx.out ⟨_,_,b3.out⟩
   by_cases jz:cs.length+t1.length<=300
   case pos =>
    have cu:Hid (Calls prog 37 #[.pointer (some ⟨O,0,none⟩),.int .i64 (Zp s:Int),.int .i64 (j:Int),.slice Aq (limbs q).length cq] v2 λe w'=>e = .returned (.tuple #[])/\Zu v2 w'/\WkAt W0 ⟨a1,n1,c1,a2,n2,c2,a3,n3,c3⟩ G At V P O (cs++t1) false w'):=LH (CT.mono λe w' hr=>by
     obtain⟨h1,R,⟨_,S⟩ | ⟨S,_⟩⟩:=hr
     ·exact⟨h1,R,S⟩
     omega)
    clear CT;go_wp2_with (first
     | (go_at_call 37
        (with_reducible refine cu.out.mono ?_);rintro e W7⟨rfl,aj,bs⟩;have cz:=LH ((Zu.of_below bg.out).trans aj);have CF:=LH (IH.out (cs++t1) (n-j) r2 t2 A2 (W-1) Aw cw W7 (by have:=df.out;rw[AV] at this;omega) fe.out da.out.tail fh.out AA AA (λs hs=>Hh.out s (.tail _ hs)) cx.out (fc.out.nkept aj) bs);clear aj bs)
     | (go_at_call 78
        (with_reducible refine CF.out.mono ?_);rintro e W8⟨rfl,hx,bu⟩;have dc:=LH bu;clear bu))
    refine AW (results_none rfl _ _ _) rfl ?_;refine⟨rfl,cz.out.trans hx,?_⟩;have h9:=dc.out;rw[AV,DX] at h9;rw[AV,<-DZ];exact h9
   have cu:Hid (Calls prog 37 #[.pointer (some ⟨O,0,none⟩),.int .i64 (Zp s:Int),.int .i64 (j:Int),.slice Aq (limbs q).length cq] v2 λe w'=>e = .returned (.tuple #[])/\Zu v2 w'/\∃dg,WkAt W0 ⟨a1,n1,c1,a2,n2,c2,a3,n3,c3⟩ G At V P O dg true w'):=LH (CT.mono λe w' hr=>by
    obtain⟨h1,R,⟨S,_⟩ | ⟨_,S⟩⟩:=hr
    ·omega
    exact⟨h1,R,S⟩)
   clear CT;go_wp2_with (first
    | (go_at_call 37
       (with_reducible refine cu.out.mono ?_);rintro e W7⟨rfl,aj,dg,bs⟩;have cz:=LH ((Zu.of_below bg.out).trans aj);have d8:=LH bs;clear aj bs)
    | (go_at_call 78
       (with_reducible refine (rf_wfull A2 l.length (W-1) ((n-j:Nat):Int) Aw _ cw W7 d8.out).mono ?_);rintro e W8⟨rfl,rfl⟩))
   refine AW (results_none rfl _ _ _) rfl ?_;exact⟨rfl,cz.out,.inr ⟨by rw[AV];omega,dg,d8.out⟩⟩
theorem Zt5{a:World}{f b:Nat}(d:TbG a h G At f b tab)(c:Xq G):∀m,WTC a h G At f b m/\WFC a h G At f b m
 | 0=>by
   have h0:WTC a h G At f b 0:=by
    intro u l s n r t Ar cr w j h0 o g;obtain⟨i,x,q,p,_,_,_,_,rfl⟩:=g;rw[AY] at j;omega
   exact⟨h0,Zwp d c 0 h0⟩
 | m+1=>by
   have k:=Zt5 d c m;have h1:=rf_wtree d c m k.2;exact⟨h1,Zwp d c (m+1) h1⟩
theorem Zqi(h:GH)(G:Gr)(n:Int)(A:Option Addr)(c:Nat)(d:List Nat)(w:World)(hg:Yf w h G)(h1:h.n1<=100)(R:h.n2<=100)(V:h.n3<=100)(N:Zq .u32 w A d.length c d)(lr:Lim d):
 Calls prog 21 #[GV h G.start,.int .i64 n,.slice A d.length c] w (Qp G n d w):=by
 obtain⟨a1,n1,c1,a2,n2,c2,a3,n3,c3⟩:=h;simp only[] at h1 R V;have Hg:=LH hg;have bg:=Zy w (.cells #[.slice a1 n1 c1,.slice a2 n2 c2,.slice a3 n3 c3,.int .i64 G.start] 26);have bk:=Y1.new w 26 ⟨a1,n1,c1,a2,n2,c2,a3,n3,c3⟩ G.start;have HR:=LH N;have b5:=LH lr;have CR:=LH (Z4 A d.length c d _ (N.below bg));have a7:=LH bg;have b9:=LH bk;clear hg N lr;go_enter func21,ntmps21;have⟨z5,z0,z1,z2,z3⟩:=bk;simp only[] at z0 z1 z2 z3;clear bg bk;cases aj:Zm d
 case false =>
  have Hb:Hid (V9 G n d [] 1):=LH (.inl ⟨.inr (.inr (.inr aj)),rfl,rfl⟩);rw[aj] at CR;clear aj;go_wp2_with (go_at_call 35;(with_reducible refine CR.out.mono ?_);rintro e D⟨rfl,rfl⟩);go_ret2;exact Qp.no a7.out Hb.out
 rw[aj] at CR;have av:=LH aj;clear aj;go_upto_region 3 with (go_at_call 35;(with_reducible refine CR.out.mono ?_);rintro e D⟨rfl,rfl⟩);generalize w.alloc (.cells #[.slice a1 n1 c1,.slice a2 n2 c2,.slice a3 n3 c3,.int .i64 G.start] 26)=W0 at *;have CC:=Lj ⟨a1,n1,c1,a2,n2,c2,a3,n3,c3⟩ G n W0 (Hg.out.below a7.out) h1 R V;have bn:=Kg G n;have bj:G.right=false\/n<0\/10<n->Z2 G n=([],1):=λh=>by unfold Z2;rw[if_pos h]
 obtain⟨cn,bo⟩:∃cn,Z2 G n=cn:=⟨_,rfl⟩;obtain⟨L,er⟩:=cn;rw[bo] at CC bn bj;have CC:=LH CC;have O:=LH bo;have ca:=LH bn;have b8:=LH bj;clear bo bn bj CR;go_upto_region 4 with (first
  | (go_at_call 15
     (with_reducible refine CC.out.mono ?_);rintro e W3⟨A3,fo,rfl,de,bh⟩))
 have ap:=LH (Zz a7.out bh);have d6:=LH de;have fc:=LH (b9.out.below bh);clear de bh CC z0 z1 z2 z3 z5 b9;by_cases ay:er=0
 case neg =>
  have gh:((er:Int) != 0)=true:=by rw[BK];omega
  have Hb:Hid (V9 G n d [] er):=LH (by
   by_cases bl:badU G n d
   ·refine .inl ⟨bl,rfl,?_⟩;have h9:G.right=false\/n<0\/10<n:=by
     rcases bl with h | h | h | h
     ·exact .inl h
     ·exact .inr (.inl h)
     ·exact .inr (.inr h)
     rw[av.out] at h;cases h
    have:=b8.out h9;injection this
   exact .inr (.inl ⟨bl,by rw[O.out];exact ay,rfl,by rw[O.out]⟩))
  clear ay;go_wp2_with fail;go_ret2;exact Qp.no ap.out Hb.out
 subst ay;have ad:¬(G.right=false\/n<0\/10<n):=λh=>by
  have:=b8.out h;injection this with _ R;cases R
 have bc:Hid (¬badU G n d):=LH (by
  rintro (h | h | h | h)
  ·exact ad (.inl h)
  ·exact ad (.inr (.inl h))
  ·exact ad (.inr (.inr h))
  rw[av.out] at h;cases h)
 have N:G.right=true:=by
  cases N:G.right
  ·exact absurd (.inl N) ad
  rfl
 have ft:0<=n:=Int.not_lt.1 λh=>ad (.inr (.inl h));have fu:n<=10:=Int.not_lt.1 λh=>ad (.inr (.inr h));have Hr:=LH N;clear ad N;have dk:Zm L=true:=ca.out.2 rfl;have S:=Le A d.length c d A3 L.length fo L W3 (HR.out.below ap.out) d6.out b5.out ca.out.1;have c4:Vq d L=Vm (val d) (val L):=by
  unfold Vq;rw[av.out,dk];rfl
 rw[c4] at S;unfold Quiet at S;have S:=LH S;clear dk c4;by_cases bp:val L<=val d
 case pos =>
  have hc:(0:Int)<=Vm (val d) (val L):=by
   have:=mt (Q5 (a:=val d) (b:=val L)).1 AA;omega
  have Hb:Hid (V9 G n d [] 11):=LH (.inr (.inr (.inl ⟨bc.out,by rw[O.out],by rw[O.out];exact bp,rfl,rfl⟩)));clear bp;go_wp2_with (first
   | (go_at_call 36
      (with_reducible refine S.out.mono ?_);rintro e W4⟨rfl,an⟩;have aq:=LH (Zz ap.out (an.below _))))
  go_ret2;exact Qp.no aq.out Hb.out
 have hc:¬(0:Int)<=Vm (val d) (val L):=by
  have:=(Q5 (a:=val d) (b:=val L)).2 AA;omega
 have fw:=Bb Hr.out ⟨ft,fu⟩ (by rw[O.out]) (by rw[O.out];show 0<val L;omega);obtain⟨br,cv,fq,dh,bv,_⟩:=fw;obtain⟨hP,hO⟩:=Dx Hr.out br cv.cyc;rw[O.out] at bv;have dd:val d<Zv (Zi G) (-1-(Zi G).start) n.toNat:=by
  have h9:val L=_:=bv;omega
 have fi:=LH dd;have cg:Hid (val d<val L):=LH AA;have HP:=LH hP;have HO:=LH hO;have fl:=LH dh;have fk:=LH br;obtain⟨m,rfl⟩:∃m:Nat,n=(m:Int):=⟨n.toNat,AA⟩;have gg:m<=10:=AA
 clear dd cv hP fq hO dh bv br bp;go_upto_region 8 with (first
  | (go_at_call 36
     (with_reducible refine S.out.mono ?_);rintro e W4⟨rfl,an⟩;have aq:=LH (Zz ap.out (an.below _));obtain⟨y5,y0,y1,y2,y3⟩:=fc.out.below (an.below _);simp only[] at y0 y1 y2 y3))
 have bx:=LH (Dk ⟨a1,n1,c1,a2,n2,c2,a3,n3,c3⟩ G W4 (Hg.out.below aq.out) h1 R V);clear S an;go_upto_region 9 with (first
  | (go_at_call 27
     (with_reducible refine bx.out.mono ?_);rintro e W5⟨cz,⟨df,er,ay,rfl⟩ | ⟨_,⟨s,f,z,u,l,B,v,r,C⟩,Ak,nk,ck,rfl,c7,m1,m2,m3,db⟩⟩
     ·rw[fk.out] at df;cases df
     have bz:=LH (Zz aq.out cz);have cc:=LH c7;have ce:=LH db;clear cz c7 db))
 have m1:f<=24:=m1;have m2:l<=16:=m2;have m3:r<=40:=m3;have M:=Zy W5 (.cells #[.slice s f z,.slice u l B,.slice v r C,.int .i64 (Zi G).start] 26);have ab:=Blk.new W5 26 #[.slice s f z,.slice u l B,.slice v r C,.int .i64 (Zi G).start];have b0:=LH (Zz bz.out M);have cd:=LH (cc.out.below M);have bb:=LH (ce.out.below M);clear bz cc ce M y0 y1 y2 y3 y5 bx;generalize W5.alloc (.cells #[.slice s f z,.slice u l B,.slice v r C,.int .i64 (Zi G).start] 26)=H at *;generalize W5.heap.size=E at *;have ga:=LH ab;have x0:H.cell? ⟨E,0,none⟩=some (.slice s f z):=ab.cell 0;have x1:H.cell? ⟨E,1,none⟩=some (.slice u l B):=ab.cell 1;have x2:H.cell? ⟨E,2,none⟩=some (.slice v r C):=ab.cell 2;have x3:H.cell? ⟨E,3,none⟩=some (.int .i64 (Zi G).start):=ab.cell 3;have Z:=ab.lt;have S:Hid (∀X,Below H H X->Calls prog 30 #[.agg #[.slice s f z,.slice u l B,.slice v r C,.int .i64 (Zi G).start],.int .i64 (m:Int)] X λe w'=>Below H H w'/\∃A c tab,e = .returned (.slice A (m+1) c)/\Hid (Zyq w' A (m+1) c (Zi G).nons.length tab)/\Hid (∀k,k<=m->∀i,i<(Zi G).nons.length->tab k i=Zv (Zi G) (-1-(i:Int)) k)):=LH λX W=>(Ztz ⟨s,f,z,u,l,B,v,r,C⟩ (Zi G) m X (cd.out.below W) (by show f<=100;omega) (by show l<=100;omega) (by show r<=100;omega) HP.out HO.out AA).mono λe w' ⟨h1,A,c,tab,R,V,F⟩=>⟨Zz W h1,A,c,tab,R,LH V,LH F⟩;have HS:Hid (∀I,Below H H I->I.cell? ⟨E,0,none⟩=some (.slice s f z)/\I.cell? ⟨E,1,none⟩=some (.slice u l B)/\I.cell? ⟨E,2,none⟩=some (.slice v r C)/\I.cell? ⟨E,3,none⟩=some (.int .i64 (Zi G).start)/\Below H H I):=LH λI W=>⟨by rw[W.cell (by exact Z)];exact x0,by rw[W.cell (by exact Z)];exact x1,by rw[W.cell (by exact Z)];exact x2,by rw[W.cell (by exact Z)];exact x3,W⟩;clear ab;go_region_held3 (λI=>I.cell? ⟨E,0,none⟩=some (.slice s f z)/\I.cell? ⟨E,1,none⟩=some (.slice u l B)/\I.cell? ⟨E,2,none⟩=some (.slice v r C)/\I.cell? ⟨E,3,none⟩=some (.int .i64 (Zi G).start)/\Below H H I)
  ((refine HS.out _ ?_;(repeat (first | assumption | exact AL _ _ | refine Below.drew ?_ | refine Zo ?_ _));done))
  (first
    | (go_at_call 30;with_reducible refine (S.out _ (by (repeat (first | assumption | exact AL _ _ | refine Below.drew ?_)))).mono ?_;rintro e D⟨ah,At,J,tab,rfl,d9,fb⟩))
 have M:=Zy D (.cells #[.slice s f z,.slice u l B,.slice v r C,.int .i64 (Zi G).start,.slice At (m+1) J,.slice none 0 0,.bool false] 87);have cy:=Blk.new D 87 #[.slice s f z,.slice u l B,.slice v r C,.int .i64 (Zi G).start,.slice At (m+1) J,.slice none 0 0,.bool false];have cw:TbG D ⟨s,f,z,u,l,B,v,r,C⟩ (Zi G) At (m+1) J tab:=⟨cd.out.below ah,d9.out,λk hk i hi=>fb.out k AA i hi,AA,by show f<=100;omega,by show l<=100;omega,by show r<=100;omega⟩;have cx:Bp D ⟨s,f,z,u,l,B,v,r,C⟩ (Zi G) At (m+1) J D [] false none 0 (D.alloc (.cells #[.slice s f z,.slice u l B,.slice v r C,.int .i64 (Zi G).start,.slice At (m+1) J,.slice none 0 0,.bool false] 87)):=⟨M,cy,⟨BN _ _ _ _,λg hg=>by cases hg⟩,AJ _,AS _⟩;have gi:=HP.out.fits.st;have a0:Zp (-1-(Zi G).start)=(Zi G).start.toNat:=by unfold Zp;omega
 obtain⟨t,ht⟩:=UnT.ex HP.out _ m (-1-(Zi G).start) AA (by rw[a0];omega) rfl (val d) fi.out;have a9:Hid (UnT (Zi G) (Zi G).start.toNat m (val d) t):=LH (by rw[<-a0];exact ht);obtain⟨bf,fx⟩:=Ul d b5.out av.out;have bm:Below w w D:=b0.out.trans (ah.mono b0.out.size);have d4:=LH (Zz bm M);have CT:Calls prog 37 #[.pointer (some ⟨D,0,none⟩),.int .i64 (Zi G).start,.int .i64 (m:Int),.slice A d.length c] (D.alloc (.cells #[.slice s f z,.slice u l B,.slice v r C,.int .i64 (Zi G).start,.slice At (m+1) J,.slice none 0 0,.bool false] 87)) (WkRet D ⟨s,f,z,u,l,B,v,r,C⟩ (Zi G) At (m+1) J D [] t (D.alloc (.cells #[.slice s f z,.slice u l B,.slice v r C,.int .i64 (Zi G).start,.slice At (m+1) J,.slice none 0 0,.bool false] 87))):=by
  have h1:=(Zt5 cw HP.out t.length).1 D [] (-1-(Zi G).start) m (val d) t A c _ (AJ _) AA (by rw[a0];omega) ht fl.out AA (by rw[<-bf];exact HR.out.below d4.out) ⟨_,_,cx⟩;rw[<-bf,show ((Zp (-1-(Zi G).start):Nat):Int)=(Zi G).start by rw[a0];omega] at h1;exact h1
 have CT:=LH CT;have z3:(D.alloc (.cells #[.slice s f z,.slice u l B,.slice v r C,.int .i64 (Zi G).start,.slice At (m+1) J,.slice none 0 0,.bool false] 87)).cell? ⟨E,3,none⟩=some (.int .i64 (Zi G).start):=(M.cell (p:=⟨E,3,none⟩) (AK Z ah.size)).trans ((ah.cell (p:=⟨E,3,none⟩) Z).trans x3);have zl:E<(D.alloc (.cells #[.slice s f z,.slice u l B,.slice v r C,.int .i64 (Zi G).start,.slice At (m+1) J,.slice none 0 0,.bool false] 87)).heap.size:=AK Z (BC ah.size M.size);have ar:=LH bm;have fg:=LH (bb.out.below ah);clear x0 x1 x2 x3 Z cy cw cx ht bf fx bm M S HS;generalize D.alloc (.cells #[.slice s f z,.slice u l B,.slice v r C,.int .i64 (Zi G).start,.slice At (m+1) J,.slice none 0 0,.bool false] 87)=W8 at *;generalize dj:D.heap.size=Y at *;have gb:=LH dj;clear dj;by_cases az:t.length<=300
 case neg =>
  have ao:Hid (Calls prog 37 #[.pointer (some ⟨Y,0,none⟩),.int .i64 (Zi G).start,.int .i64 (m:Int),.slice A d.length c] W8 λe w'=>e = .returned (.tuple #[])/\∃cp,WkAt D ⟨s,f,z,u,l,B,v,r,C⟩ (Zi G) At (m+1) J Y cp true w'):=LH (CT.out.mono λe w' N=>by
   obtain⟨h1,_,⟨R,_⟩ | ⟨_,V⟩⟩:=N
   ·rw[DE] at R;omega
   exact⟨h1,V⟩)
  have Hb:Hid (V9 G (m:Int) d [] 13):=LH (.inr (.inr (.inr ⟨bc.out,by rw[O.out],by rw[O.out];exact cg.out,t,by rw[DC];exact a9.out,.inl ⟨AA,rfl,rfl⟩⟩)));clear CT az;go_upto_region 11 with (first
   | (go_at_call 37
      (with_reducible refine ao.out.mono ?_);rintro e P⟨rfl,cp,A9,c9,am⟩;have T:=LH am;clear am))
  have p6:P.cell? ⟨Y,6,none⟩=some (.bool true):=T.out.box.cell 6;have pl:=T.out.box.lt;go_wp2_with fail;go_ret2;exact Qp.no (ar.out.trans (T.out.base.mono ar.out.size)) Hb.out
 have ao:Hid (Calls prog 37 #[.pointer (some ⟨Y,0,none⟩),.int .i64 (Zi G).start,.int .i64 (m:Int),.slice A d.length c] W8 λe w'=>e = .returned (.tuple #[])/\WkAt D ⟨s,f,z,u,l,B,v,r,C⟩ (Zi G) At (m+1) J Y t false w'):=LH (CT.out.mono λe w' N=>by
  obtain⟨h1,_,⟨_,V⟩ | ⟨R,_⟩⟩:=N
  ·exact⟨h1,V⟩
  rw[DE] at R;omega)
 have ba:=LH az;clear CT az;go_upto_region 11 with (first
  | (go_at_call 37
     (with_reducible refine ao.out.mono ?_);rintro e P⟨rfl,A9,c9,am⟩;have T:=LH am;clear am))
 have p6:P.cell? ⟨Y,6,none⟩=some (.bool false):=T.out.box.cell 6;have p5:P.cell? ⟨Y,5,none⟩=some (.slice A9 t.length c9):=T.out.box.cell 5;have pl:=T.out.box.lt;have da:=a9.out.inside;have ff:=LH da.2;have bu:Za .i64 P A9 t.length c9 (t.map λi:Nat=>(i:Int)):=Yl T.out.row.1;have fa:=LH bu;have fh:=LH (fg.out.below T.out.base);have b4:=LH (ar.out.trans (T.out.base.mono ar.out.size));have fe:Hid ((prog.info? 3).map (λi=>(i.zero,i.size,i.bytes))=some (some (.int .i64 0),1,8)):=LH AB;have gj:=bu.cap;clear da bu z3 zl ao;go_upto_region 15 with fail;go_loopw [14,15] (λo i wr=>∃(j:Nat) (Ao:Option Addr) (co:Nat),i = .int .i64 (j:Int)/\j<=t.length/\o = .slice Ao j co/\Hid (M4 wr P Ao j co (((t.take j).map (Yr G)).map λi:Nat=>(i:Int)))/\Hid (Below P P wr)) (λ_ i _=>t.length-(intOf i).toNat)
 case atStart=>exact⟨0,none,0,rfl,AS _,rfl,LH ⟨BN _ _ _ _,λg hg=>by cases hg⟩,LH (AL _ _)⟩
 obtain⟨j,Ao,co,rfl,hj,rfl,a8,U⟩:=hrel;have q5:=(U.out.cell (p:=⟨Y,5,none⟩) pl).trans p5;have ql:=AK pl U.out.size;clear p6 p5 pl;by_cases bq:j<t.length
 case neg =>
  obtain rfl:j=t.length:=AA
  have c6:Za .i64 wr Ao t.length co ((t.map (Yr G)).map λi:Nat=>(i:Int)):=by
   have h1:=Yl a8.out.1;rw[List.take_length] at h1;exact h1
  have fd:=LH c6;clear c6 bq;go_wp2_with fail;go_ret2;exact⟨b4.out.trans (U.out.mono b4.out.size),t.map (Yr G),0,Ao,co,by rw[BI];rfl,by rw[BI];exact fd.out,.inr (.inr (.inr ⟨bc.out,by rw[O.out],by rw[O.out];exact cg.out,t,by rw[DC];exact a9.out,.inr ⟨ba.out,rfl,rfl⟩⟩))⟩
 obtain⟨x,hx⟩:∃x,t[j]? = some x:=⟨_,AM bq⟩;obtain⟨tb,tO,tv,rfl,di,ci,cq⟩:=fa.out.get bq;obtain rfl:(x:Int)=tv:=by
  have F:=ci.out;rw[BB,hx] at F;exact BH F
 have t0:=(U.out.cell (p:=⟨tb,tO+j,none⟩) di).trans cq;have tl:=AK di U.out.size;have fy:x<nk:=by
  have F:=ff.out x (AN hx);rw[Fu] at F;have h5:=bb.out.len;unfold Z6 at h5;rw[BI] at h5;omega
 obtain⟨kb,ko,kv,rfl,dc,cf,cm⟩:=fh.out.get fy;obtain rfl:((Yr G x:Nat):Int)=kv:=by
  have F:=cf.out;unfold Z6 at F;rw[BB] at F;unfold Yr;cases h5:(ksN G G.rules.length)[x]? with
  | none=>rw[h5] at F;cases F
  | some y =>
    rw[h5] at F;injection F with F;rw[<-F,AP,h5];rfl
 have k0:=(U.out.cell (p:=⟨kb,ko+x,none⟩) dc).trans cm;have kl:=AK dc U.out.size;have dg:((t.take j).map (Yr G)).map (λi:Nat=>(i:Int))++[((Yr G x:Nat):Int)]=((t.take (j+1)).map (Yr G)).map λi:Nat=>(i:Int):=by
  rw[Ya hx];simp
 have fj:=LH dg;have fs:j+1<=maxLen:=by have:=ba.out;unfold maxLen;omega
 have az:=ba.out;have c0:=U.out.size;have gf:=bb.out.cap;clear hx ci cq cf cm dg;go_wp2_with (first
  | (at_builtin;refine Nk rfl _ _ 30 rfl P 8 underlying30 fe.out Ao j co (((t.take j).map (Yr G)).map λi:Nat=>(i:Int)) rfl a8.out ((Yr G x:Nat):Int) rfl fs AA c0 ?_;intro A5 c5 w5 bs c8 M
     have bi:=Zy wr (.cells #[.int .i64 ((Yr G x:Nat):Int)] 3);have d5:Hid (Below P P w5):=LH ((Zz U.out bi).trans ((Off.of_grown c8).is_below (BC c0 bi.size) λq hq=>(a8.out.blk hq).1));rw[fj.out] at bs;have d8:=LH bs;clear bs c8 M bi))
 go_roundw
 case rel=>exact⟨j+1,A5,c5,AF,AA,rfl,d8,d5⟩
 simp[intOf] <;> omega
