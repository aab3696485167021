/- words that the packed base lacks. -/
import Derived.Test.YtggbjdmpjidhgaaGreatDoorV28
import Derived.Test.YtggbjdmpjidhgaaGreatDoorV51
set_option linter.all false
set_option maxHeartbeats 1500000
set_option maxRecDepth 100000
namespace Go.Proofs.YtggbjdmpjidhgaaGreatDoor
open Go.RowKit Go.Proofs.Tryz
variable{W0:World}{At:Option Addr}{tab:Nat->Nat->Nat}
theorem rf_wtree{h:GH}{G:Gr}{nt ct:Nat}(hT:TbG W0 h G At nt ct tab)(S:Xq G)(m:Nat)(HF:WFC W0 h G At nt ct m):WTC W0 h G At nt ct (m+1):=by
 intro f cs s n r t Ar cr w fz h0 hl hU c8 hn hr a;obtain⟨O,x0,q,t1,ad,dr,hU,dn,rfl⟩:=hU;have hq:q<Zx (Zv G) x0.right n:=hU.lt S (InG.at S.fits ad);have b4:Z0 (Zv G) G.rules (Zp s) (O+1) n<=Zv G s n:=by
  rw[Uu S h0 hl];exact Kj _ _ _ _ _
 rw[Y3 _ ad,if_pos dr] at b4;have ft:O<G.rules.length:=(AN.1 ad).1;have f0:x0.left=(Zp s:Int):=by
  have:=(S.fits.left x0 (AL ad)).1;omega
 have fx:n<=10:=by have:=hT.nt;omega
 have fd:Hid (∀(j:Nat) (x:Rul),G.rules[j]? = some x->J1 x.right n/\(∀s∈x.right,G.has s=true)/\0<=x.left):=LH λj x hx=>by
  have h1:=Bg S.fits (AL hx) fx;exact⟨h1.1,h1.2,(S.fits.left x (AL hx)).1⟩
 have co:Hid (∀(j:Nat) (x:Rul),G.rules[j]? = some x->Z0 (Zv G) G.rules (Zp s) (j+1) n=Z0 (Zv G) G.rules (Zp s) j n+(if x.left.toNat=Zp s then Zx (Zv G) x.right n else 0)):=LH λj x hx=>Y3 _ hx _ _;have cm:Hid (∀j,j<=O->Z0 (Zv G) G.rules (Zp s) j n<=Z0 (Zv G) G.rules (Zp s) O n):=LH λj hj=>Vf _ _ _ _ hj;have d6:Hid (InG G x0.right):=LH (InG.at S.fits ad);obtain⟨A,c,V⟩:=a;obtain⟨a1,n1,c1,a2,n2,c2,a3,n3,c3⟩:=h;have dd:n3=G.rules.length:=hT.at_.rules.len.symm;have gx:O<n3:=AA
 have hc:n3<=40:=by have:=S.fits.n3.2;omega
 have gk:=LH dd;have gt:=hT.at_.rules.cap;have gz:=S.fits.n2.2;have gv:=S.fits.n1;have g8:=hT.tabm.1;have g9:=hT.tabm.2.1;have g3:=hT.nt;have g7:=(show Za .i64 w A cs.length c (cs.map λi:Nat=>(i:Int)) from Yl V.row.1).cap;have gu:=V.few;have HB:=LH hT;have d5:=LH HF;have HU:=LH hU;have bp:=LH ad;have cl:=LH c8;have HR:=LH hr;have HM:=LH V;have cp:=LH b4;have a8:=LH dn;have Hq:=LH hq;have g0:w.cell? ⟨f,0,none⟩=some (.slice a1 n1 c1):=V.box.cell 0;have g2:w.cell? ⟨f,2,none⟩=some (.slice a3 n3 c3):=V.box.cell 2;have g5:w.cell? ⟨f,5,none⟩=some (.slice A cs.length c):=V.box.cell 5;have g6:w.cell? ⟨f,6,none⟩=some (.bool false):=V.box.cell 6;have f6:=V.box.frozen 6;have T:=V.box.lt;clear hT S HF hU ad dr c8 hr V b4 dn hq h0 hl dd ft;by_cases av:cs.length=300
 case pos =>
  have fs:((cs.length:Int)==300)=true:=by rw[av];rfl
  have bl:=LH av;have au:=HM.out.fill;have cg:=LH au;have y6:(w.setCell ⟨f,6,none⟩ (.bool true)).cell? ⟨f,6,none⟩=some (.bool true):=au.1.box.cell 6;have y2:(w.setCell ⟨f,6,none⟩ (.bool true)).cell? ⟨f,2,none⟩=some (.slice a3 n3 c3):=au.1.box.cell 2;have yl:=au.1.box.lt;clear av au;go_enter func81,ntmps81;go_wp2_with fail;go_loopw [8] (λi wr=>i = .int .i64 (0:Int)/\wr=w.setCell ⟨f,6,none⟩ (.bool true)) (λ_ _=>0)
  case atStart=>exact⟨rfl,rfl⟩
  obtain⟨rfl,rfl⟩:=hrel;go_wp2_with fail;refine bodyPost_end (results_none rfl _ _ _) rfl ?_;exact⟨rfl,cg.out.2,.inr ⟨by rw[bl.out,AW];omega,cs,_,_,cg.out.1⟩⟩
 have fs:((cs.length:Int)==300)=false:=by
  rw[AP];omega
 have bl:=LH av;clear av;go_enter func81,ntmps81;go_wp2_with fail;go_loopw [3,8] (λv i wr=>∃(j D:Nat) (Y:Option Addr) (Z:Nat),i = .int .i64 (j:Int)/\j<=O/\v = .slice Y (limbs D).length Z/\Hid (r=Z0 (Zv G) G.rules (Zp s) j n+D)/\Hid (Zq .u32 wr Y (limbs D).length Z (limbs D))/\Hid (Below w.heap.size w wr)) (λ_ i _=>O+1-(intOf i).toNat)
 case atStart=>exact⟨0,r,Ar,cr,rfl,AU _,rfl,LH (by rw[Qb];omega),HR,LH (AK _ _)⟩
 obtain⟨j,D,Y,Z,rfl,hj,rfl,ag,HN,bk⟩:=hrel;have bh:=LH (HM.out.below bk.out);clear g0 g2 g5 g6 f6 T HM HR;have M:=bh.out;obtain⟨J,L,x,Ax,cx,rfl,bz,Hx,q0,q1,q2,cz⟩:=HB.out.at_.rules.get (j:=j) (by show j<n3;omega);have e0:=(M.base.cell (p:=⟨J,L+j*3,none⟩) bz).trans q0;have R:=(M.base.cell (p:=⟨J,L+j*3+1,none⟩) bz).trans q1;have ar:=AJ bz M.base.size;have d7:=LH cz;have g0:wr.cell? ⟨f,0,none⟩=some (.slice a1 n1 c1):=M.box.cell 0;have g2:wr.cell? ⟨f,2,none⟩=some (.slice (some ⟨J,L,none⟩) n3 c3):=M.box.cell 2;have g4:wr.cell? ⟨f,4,none⟩=some (.slice At nt ct):=M.box.cell 4;have g5:wr.cell? ⟨f,5,none⟩=some (.slice A cs.length c):=M.box.cell 5;have g6:wr.cell? ⟨f,6,none⟩=some (.bool false):=M.box.cell 6;have T:=M.box.lt;have bb:=fd.out j x Hx.out;have ch:=LH bb.1;have bm:=LH bb.2.1;have ha:=bb.2.2;have gy:j<n3:=AA
 clear M q0 q1 q2 cz bb;by_cases ai:x.left=(Zp s:Int)
 case neg =>
  have df:(x.left != (Zp s:Int))=true:=by simpa using ai
  have fu:j≠O:=by
   rintro rfl;have e:=Hx.out.symm.trans bp.out;injection e with e;subst e;exact ai f0
  have bn:Hid (r=Z0 (Zv G) G.rules (Zp s) (j+1) n+D):=LH (by
   rw[co.out j x Hx.out,if_neg AA];exact ag.out)
  clear ai;go_wp2_with fail;go_roundw
  case rel=>exact⟨j+1,D,Y,Z,AF,AA,rfl,bn,HN,bk⟩
  simp[intOf] <;> omega
 have df:(x.left != (Zp s:Int))=false:=by simpa using ai
 have fj:=LH ai;obtain⟨y,Hy⟩:∃y,Hid (Zx (Zv G) x.right n=y):=⟨_,LH rfl⟩;have dp:D<big:=by
  have h1:=ag.out;have U:=a8.out;have h3:=cp.out;have h4:=cl.out;have h5:=Hq.out;have h6:=cm.out j hj;omega
 have bo:=LH dp;clear ai dp;have CF:Hid (∀X,Below wr.heap.size wr X->Calls prog 53 #[.slice At nt ct,.slice Ax x.right.length cx,.int .i64 (n:Int)] X λe w'=>Below X.heap.size X w'/\∃H P I N,e = .returned (.agg #[.slice H P I,.bool N])/\Z1 w' H P I N y):=LH λX k=>by
  have c4:=Zz bh.out.base k;have h1:=Kd At nt ct G.nons.length tab Ax cx x.right n X (HB.out.tabm.below c4) hn AA AA (d7.out.below c4) (by have:=ch.out.len;omega) (λs hs=>by have:=H7 (bm.out s hs);omega);rw[HB.out.forest bm.out hn,Hy.out] at h1;exact h1.mono λe w' h=>h
 go_upto_region 6 with fail;refine Yi (Γ:=Unit) (λ_ b u X=>VMs wr [(⟨15,16,14,46,#[.slice none 0 0,.bool false]⟩:Qr)] b u X) (λX z=>Zu X z) () (λu=>(⟨(.pointer (some ⟨f,0,none⟩) :: .int .i64 ((Zp s:Nat):Int) :: .int .i64 (n:Int) :: .slice Y (limbs D).length Z::undef::undef::undef::undef :: .int .i64 (j:Int)::u 15 :: .pointer (some ⟨f,0,none⟩) :: .pointer (some ⟨f,0,none⟩) :: .pointer (some ⟨f,5,none⟩) :: .slice A cs.length c :: .int .i64 (cs.length:Int) :: .bool false::undef::undef::undef :: .int .i64 (j:Int) :: .pointer (some ⟨f,0,none⟩) :: .pointer (some ⟨f,0,none⟩) :: .pointer (some ⟨f,0,none⟩) :: .pointer (some ⟨f,2,none⟩) :: .slice (some ⟨J,L,none⟩) n3 c3 :: .int .i64 (n3:Int) :: .bool true :: .bool true :: .pointer (some ⟨f,0,none⟩) :: .pointer (some ⟨f,0,none⟩) :: .pointer (some ⟨f,6,none⟩) :: .bool false :: .bool true :: .bool true::u34::u35 :: .pointer (some ⟨f,0,none⟩) :: .pointer (some ⟨f,0,none⟩) :: .pointer (some ⟨f,0,none⟩) :: .pointer (some ⟨f,2,none⟩) :: .slice (some ⟨J,L,none⟩) n3 c3 :: .int .i64 (j:Int) :: .pointer (some ⟨J,L+j*3,none⟩) :: .pointer (some ⟨J,L+j*3,none⟩) :: .int .i64 x.left :: .int .i64 ((Zp s:Nat):Int) :: .bool false::u 0::u 1::u 2::u 3::u 4::u 5::u 6::u 7::u 8::u 9::u 10::u 11::u 12::u 13::u 14::u62::u63::u64::u65::u66::u67::u68::u69::u70::u71::u72::u73::u74::u75::u76::u77::u78::u79::u80::u81::u82::u83::u84::u85::u86::u87::u88::u89::u90::u91::[]).toArray,[]⟩:Act)) [u47,u48,u49,u50,u51,u52,u53,u54,u55,u56,u57,u58,u59,u60,u61,u9,undef] [λv X=>v = .pointer (some ⟨f,0,none⟩),λv X=>v = .pointer (some ⟨f,0,none⟩),λv X=>v = .pointer (some ⟨f,4,none⟩),λv X=>v = .slice At nt ct,λv X=>v = .pointer (some ⟨f,0,none⟩),λv X=>v = .pointer (some ⟨f,0,none⟩),λv X=>v = .pointer (some ⟨f,0,none⟩),λv X=>v = .pointer (some ⟨f,2,none⟩),λv X=>v = .slice (some ⟨J,L,none⟩) n3 c3,λv X=>v = .int .i64 (j:Int),λv X=>v = .pointer (some ⟨J,L+j*3,none⟩),λv X=>v = .pointer (some ⟨J,L+j*3+1,none⟩),λv X=>v = .slice Ax x.right.length cx,λv X=>v = .int .i64 (n:Int),λv X=>∃H P I N,v = .agg #[.slice H P I,.bool N]/\Z1 X H P I N y,λv X=>True,λv X=>True] (l:=[_,_,_,_,_,_,_,_,_,_,_,_,_,_,_,_,_]) AB AB rfl (VMs.start _ _ _) ⟨λ_ _ _ h _=>h,λ_ _ _ h _=>h,λ_ _ _ h _=>h,λ_ _ _ h _=>h,λ_ _ _ h _=>h,λ_ _ _ h _=>h,λ_ _ _ h _=>h,λ_ _ _ h _=>h,λ_ _ _ h _=>h,λ_ _ _ h _=>h,λ_ _ _ h _=>h,λ_ _ _ h _=>h,λ_ _ _ h _=>h,λ_ _ _ h _=>h,(λv X z ⟨H,P,I,N,e,h⟩ k=>⟨H,P,I,N,e,h.nkept k⟩),λ_ _ _ h _=>h,λ_ _ _ h _=>h,trivial⟩ ?_ ?_
 ·refine Zw.cons rfl (λ_ _=>rfl) (λQ g b u X o F a d K C=>?_) ?_
  ·have B:=λz (k:Below X.heap.size X z) v=>a.idle k 0 rfl v;have E:=a.below;clear d a o;go_simp;exact C _ () _ (Zu.refl _) (B _ (AK _ _) _) rfl
  refine Zw.cons rfl (λ_ _=>rfl) (λQ g b u X o F a d K C=>?_) ?_
  ·have p0:u 0=_:=(d 0 rfl).2;have B:=λz (k:Below X.heap.size X z) v=>a.idle k 1 rfl v;have E:=a.below;clear d a o;generalize u 0=x0 at *;subst p0;go_simp;exact C _ () _ (Zu.refl _) (B _ (AK _ _) _) rfl
  refine Zw.cons rfl (λ_ _=>rfl) (λQ g b u X o F a d K C=>?_) ?_
  ·have p1:u 1=_:=(d 1 rfl).2;have B:=λz (k:Below X.heap.size X z) v=>a.idle k 2 rfl v;have E:=a.below;clear d a o;generalize u 1=x1 at *;subst p1;go_simp;exact C _ () _ (Zu.refl _) (B _ (AK _ _) _) rfl
  refine Zw.cons rfl (λ_ _=>rfl) (λQ g b u X o F a d K C=>?_) ?_
  ·have p2:u 2=_:=(d 2 rfl).2;have B:=λz (k:Below X.heap.size X z) v=>a.idle k 3 rfl v;have E:=a.below;have y0:=(E.cell (p:=⟨f,4,none⟩) T).trans g4;have yl:=AJ T E.size;clear d a o;generalize u 2=x2 at *;subst p2;go_simp;exact C _ () _ (Zu.refl _) (B _ (AK _ _) _) rfl
  refine Zw.cons rfl (λ_ _=>rfl) (λQ g b u X o F a d K C=>?_) ?_
  ·have B:=λz (k:Below X.heap.size X z) v=>a.idle k 4 rfl v;have E:=a.below;clear d a o;go_simp;exact C _ () _ (Zu.refl _) (B _ (AK _ _) _) rfl
  refine Zw.cons rfl (λ_ _=>rfl) (λQ g b u X o F a d K C=>?_) ?_
  ·have p4:u 4=_:=(d 4 rfl).2;have B:=λz (k:Below X.heap.size X z) v=>a.idle k 5 rfl v;have E:=a.below;clear d a o;generalize u 4=x4 at *;subst p4;go_simp;exact C _ () _ (Zu.refl _) (B _ (AK _ _) _) rfl
  refine Zw.cons rfl (λ_ _=>rfl) (λQ g b u X o F a d K C=>?_) ?_
  ·have p5:u 5=_:=(d 5 rfl).2;have B:=λz (k:Below X.heap.size X z) v=>a.idle k 6 rfl v;have E:=a.below;clear d a o;generalize u 5=x5 at *;subst p5;go_simp;exact C _ () _ (Zu.refl _) (B _ (AK _ _) _) rfl
  refine Zw.cons rfl (λ_ _=>rfl) (λQ g b u X o F a d K C=>?_) ?_
  ·have p6:u 6=_:=(d 6 rfl).2;have B:=λz (k:Below X.heap.size X z) v=>a.idle k 7 rfl v;have E:=a.below;clear d a o;generalize u 6=x6 at *;subst p6;go_simp;exact C _ () _ (Zu.refl _) (B _ (AK _ _) _) rfl
  refine Zw.cons rfl (λ_ _=>rfl) (λQ g b u X o F a d K C=>?_) ?_
  ·have p7:u 7=_:=(d 7 rfl).2;have B:=λz (k:Below X.heap.size X z) v=>a.idle k 8 rfl v;have E:=a.below;have y0:=(E.cell (p:=⟨f,2,none⟩) T).trans g2;have yl:=AJ T E.size;clear d a o;generalize u 7=x7 at *;subst p7;go_simp;exact C _ () _ (Zu.refl _) (B _ (AK _ _) _) rfl
  refine Zw.cons rfl (λ_ _=>rfl) (λQ g b u X o F a d K C=>?_) ?_
  ·have B:=λz (k:Below X.heap.size X z) v=>a.idle k 9 rfl v;have E:=a.below;clear d a o;go_simp;exact C _ () _ (Zu.refl _) (B _ (AK _ _) _) rfl
  refine Zw.cons rfl (λ_ _=>rfl) (λQ g b u X o F a d K C=>?_) ?_
  ·have p8:u 8=_:=(d 8 rfl).2;have p9:u 9=_:=(d 9 rfl).2;have B:=λz (k:Below X.heap.size X z) v=>a.idle k 10 rfl v;have E:=a.below;clear d a o;generalize u 8=x8 at *;subst p8;generalize u 9=x9 at *;subst p9;go_simp;exact C _ () _ (Zu.refl _) (B _ (AK _ _) _) rfl
  refine Zw.cons rfl (λ_ _=>rfl) (λQ g b u X o F a d K C=>?_) ?_
  ·have f2:u 10=_:=(d 10 rfl).2;have B:=λz (k:Below X.heap.size X z) v=>a.idle k 11 rfl v;have E:=a.below;clear d a o;generalize u 10=h7 at *;subst f2;go_simp;exact C _ () _ (Zu.refl _) (B _ (AK _ _) _) rfl
  refine Zw.cons rfl (λ_ _=>rfl) (λQ g b u X o F a d K C=>?_) ?_
  ·have f3:u 11=_:=(d 11 rfl).2;have B:=λz (k:Below X.heap.size X z) v=>a.idle k 12 rfl v;have E:=a.below;have y0:=(E.cell (p:=⟨J,L+j*3+1,none⟩) ar).trans R;have yl:=AJ ar E.size;clear d a o;generalize u 11=h8 at *;subst f3;go_simp;exact C _ () _ (Zu.refl _) (B _ (AK _ _) _) rfl
  refine Zw.cons rfl (λ_ _=>rfl) (λQ g b u X o F a d K C=>?_) ?_
  ·have B:=λz (k:Below X.heap.size X z) v=>a.idle k 13 rfl v;have E:=a.below;clear d a o;go_simp;exact C _ () _ (Zu.refl _) (B _ (AK _ _) _) rfl
  refine Zw.cons rfl (λ_ _=>rfl) (λQ g b u X o F a d K C=>?_) ?_
  ·have p3:u 3=_:=(d 3 rfl).2;have f4:u 12=_:=(d 12 rfl).2;have f5:u 13=_:=(d 13 rfl).2;have b3:b 16=false:=AZ.2 λh=>by have:=o 16 _ rfl h 14 rfl;rw[F] at this;cases this
   have B:=λz (k:Below X.heap.size X z) v=>a.call k 14 b3 rfl v;have E:=a.below;have CC:=CF.out X E;clear d a o;generalize u 3=x3 at *;subst p3;generalize u 12=h9 at *;subst f4;generalize u 13=ja at *;subst f5;go_simp;go_at_call 53;(with_reducible refine CC.mono ?_);rintro e z⟨k,H,P,I,N,rfl,hv⟩;go_simp;exact C _ () _ (.of_below k) (B _ k _) ⟨H,P,I,N,rfl,hv⟩
  refine Zw.cons rfl (λ_ _=>rfl) (λQ g b u X o F a d K C=>?_) ?_
  ·have b3:b 16=false:=AZ.2 λh=>by have:=o 16 _ rfl h 15 rfl;rw[F] at this;cases this
   have B:=a.made (p:=(⟨15,16,14,46,#[.slice none 0 0,.bool false]⟩:Qr)) AE b3 (λp d=>by simp only[BW,Ef,or_false] at d;rcases d with rfl <;> exact⟨AE,AC,AC⟩);clear d a o;go_simp;exact C _ () _ (.of_below (Zy _ _)) B trivial
  refine Zw.cons rfl (λ_ _=>rfl) (λQ g b u X o F a d K C=>?_) ?_
  ·obtain⟨H,P,I,N,a0,hv⟩:=(d 14 rfl).2;obtain⟨gB,fn,ah,B,fq⟩:=a.put2 (p:=(⟨15,16,14,46,#[.slice none 0 0,.bool false]⟩:Qr)) AE (d 15 rfl).1 F (λp d=>by simp only[BW,Ef,or_false] at d;rcases d with rfl <;> exact⟨AE,AC,AC,AE⟩) rfl nofun nofun a0
   clear d a o;generalize u 15=jc at *;subst fn;generalize u 14=jb at *;subst a0;have y0:=ah.cell 0;have jo:=ah.frozen 0;have y1:=ah.cell 1;have jp:=ah.frozen 1;have yl:=ah.lt;clear ah;go_simp;exact C undef () _ fq (B undef) trivial
  exact Zw.nil
 intro _ b9 u X9 bx bw d;obtain⟨g1,vs,du,gw,c0,a0⟩:=bw.fin (p:=⟨15,16,14,46,#[.slice none 0 0,.bool false]⟩) AE (bx 15 AC) (bx 16 AC);obtain⟨H,P,I,N,ca,hv⟩:=d 14 AC;obtain rfl:vs=#[.slice H P I,.bool N]:=by
  rw[a0] at ca;injection ca
 have dv:u 15=_:=du;have a9:=bw.below;have ce:=LH (Zz bk.out a9);have d8:=LH (bh.out.below a9);have bj:=LH c0;have HV:=LH hv;have bi:=LH (HN.out.below a9);clear d bx bw a0 ca a9 c0 hv b9;rw[dv];clear du dv g0 g2 g4 g5 g6 T e0 R ar CF;generalize u 0=w0 at *;generalize u 1=w1 at *;generalize u 2=w2 at *;generalize u 3=w3 at *;generalize u 4=w4 at *;generalize u 5=w5 at *;generalize u 6=w6 at *;generalize u 7=w7 at *;generalize u 8=w8 at *;generalize u 9=w9 at *;generalize u 10=he at *;generalize u 11=hf at *;generalize u 12=hg at *;generalize u 13=hh at *;generalize u 14=hi at *;clear u;have z0:X9.cell? ⟨g1,0,none⟩=some (.slice H P I):=bj.out.cell 0;have z1:X9.cell? ⟨g1,1,none⟩=some (.bool N):=bj.out.cell 1;have zl:=bj.out.lt;have CH:=LH (rf_here Y Z D H P I N y X9 bi.out bo.out HV.out);have dq:Z0 (Zv G) G.rules (Zp s) (j+1) n=Z0 (Zv G) G.rules (Zp s) j n+y:=by
  rw[co.out j x Hx.out,if_pos (by have:=fj.out;omega),Hy.out]
 have dh:j=O->D<y:=by
  intro e;subst e;have R:=Hx.out.symm.trans bp.out;injection R with R;subst R;have h1:=ag.out;have U:=a8.out;have h3:=Hq.out;have h4:=Hy.out;omega
 have dc:j<O->y<=D:=by
  intro aw;have h1:=cm.out (j+1) AA;have U:=ag.out;have h3:=a8.out;omega
 have fh:=LH dq;have ff:=LH dh;have fe:=LH dc;clear dq dh dc df;by_cases aw:D<y
 case neg =>
  rw[BR aw] at CH;have fu:j<O:=by
   rcases BD j O with h | h
   ·exact h
   have:=ff.out AA;omega
  have bn:Hid (r=Z0 (Zv G) G.rules (Zp s) (j+1) n+(D-y)):=LH (by
   have h1:=fh.out;have U:=ag.out;omega)
  have ds:y<big:=by have:=bo.out;omega
  obtain⟨b0,az⟩:=HV.out;rw[Z7 ds] at b0 az;have dg:=az.len;simp only[] at b0 az dg;subst dg;have CL:Hid (∀X,Below X9.heap.size X9 X->Calls prog 133 #[.slice Y (limbs D).length Z,.slice H (limbs y).length I] X λe w'=>∃A c,e = .returned (.slice A (limbs (D-y)).length c)/\Zq .u32 w' A (limbs (D-y)).length c (limbs (D-y))/\Below X.heap.size X w'):=LH λX k=>rf_less Y Z D H I y X (bi.out.below k) (az.below k) bo.out AA;clear aw az ds b0;go_wp2_with (first
   | (go_at_call 131
      (with_reducible refine CH.out.mono ?_);rintro e v1⟨rfl,W⟩;have jq:=(W.cell (p:=⟨g1,0,none⟩) zl).trans z0;have jr:=AJ zl W.size;have d3:=LH (CL.out v1 W);have bf:=LH (Zz ce.out W);clear W)
   | (go_at_call 133
      (with_reducible refine d3.out.mono ?_);rintro e v2⟨A5,c5,rfl,de,c7⟩;have fa:=LH de;have d4:=LH (Zz bf.out c7);clear de c7))
  go_roundw
  case rel=>exact⟨j+1,D-y,A5,c5,AF,AA,rfl,bn,fa,d4⟩
  simp[intOf] <;> omega
 rw[DY aw] at CH;obtain rfl:j=O:=by
  rcases BD j O with h | h
  ·have:=fe.out h;omega
  omega
 obtain rfl:x=x0:=by
  have R:=Hx.out.symm.trans bp.out;injection R
 obtain rfl:D=q:=by
  have h1:=ag.out;have U:=a8.out;omega
 have fc:Hid ((prog.info? 3).map (λi=>(i.zero,i.size,i.bytes))=some (some (.int .i64 0),1,8)):=LH AB;have fw:cs.length+1<=maxLen:=by unfold maxLen;omega
 clear aw;go_upto_region 8 with (first
  | (go_at_call 131
     (with_reducible refine CH.out.mono ?_);rintro e v1⟨rfl,W⟩;have af:=LH (d8.out.below W);have d9:=LH (bi.out.below W);have bf:=LH (Zz ce.out W);clear W))
 have g5:v1.cell? ⟨f,5,none⟩=some (.slice A cs.length c):=af.out.box.cell 5;have g0:v1.cell? ⟨f,0,none⟩=some (.slice a1 n1 c1):=af.out.box.cell 0;have T:=af.out.box.lt;have ar:W0.heap.size<=v1.heap.size:=af.out.base.size;clear z0 z1 zl CH;go_upto_region 9 with (first
  | (at_builtin;refine Nk rfl _ _ 27 rfl W0.heap.size 8 underlying27 fc.out A cs.length c (cs.map λi:Nat=>(i:Int)) rfl af.out.row (j:Int) rfl fw AA ar ?_;intro A5 c5 w5 dm da fr
     have ax:=af.out.push (i:=j) (Zy _ _) dm da bl.out;have p5:w5.cell? ⟨f,5,none⟩=some (.slice A cs.length c):=ax.1.cell 5;have p2:=ax.1.frozen 5;have p3:=ax.1.lt;have HP:=LH ax.2;clear ax dm da fr))
 generalize w5.setCell ⟨f,5,none⟩ (.slice A5 (cs.length+1) c5)=W6 at *;clear p5 p2 p3 g5 g0 T;obtain⟨A6,c6,M6⟩:=HP.out.1;have g2:W6.cell? ⟨f,2,none⟩=some (.slice (some ⟨J,L,none⟩) n3 c3):=M6.box.cell 2;have T:=M6.box.lt;obtain⟨cu,dt,x',dz,fl,eA,c9,fi,gc,dx,ge,_⟩:=HB.out.at_.rules.get (j:=j) (by show j<n3;omega);have eA:(some ⟨J,L,none⟩:Option Addr)=some ⟨cu,dt,none⟩:=eA;obtain⟨rfl,rfl⟩:J=cu/\L=dt:=by
  injection eA with eA;injection eA with R e2 _;exact⟨R,e2⟩
 obtain rfl:x=x':=by
  have R:=Hx.out.symm.trans fi.out;injection R
 have q1:=(M6.base.cell (p:=⟨J,L+j*3+1,none⟩) c9).trans dx;have gs:=AJ c9 M6.base.size;have CF:=LH (d5.out f (cs++[j]) x.right n D t1 dz fl Y Z W6 (by rw[AW] at fz;omega) HU.out d6.out (by have h1:=cp.out;have U:=cl.out;omega) ch.out.len hn bm.out AH (d9.out.nkept HP.out.2) HP.out.1);clear M6 gc dx ge;go_wp2_with (first
  | (go_at_call 132
     (with_reducible refine CF.out.mono ?_);rintro e W7⟨rfl,fv,di⟩;have fg:=LH di;clear di))
 refine AV (results_none rfl _ _ _) rfl ?_;refine⟨rfl,(Zu.of_below bf.out).trans (HP.out.2.trans fv),?_⟩;have dj:=fg.out;rw[AS,CV] at dj;rw[AW];rcases dj with ⟨h1,U⟩ | ⟨h1,U⟩
 ·rw[DQ] at U;exact .inl ⟨AA,U⟩
 exact .inr ⟨AA,U⟩
theorem Zwp{h:GH}{G:Gr}{V P:Nat}(hT:TbG W0 h G At V P tab)(hP:Xq G)(m:Nat)(HT:WTC W0 h G At V P m):WFC W0 h G At V P m:=by
 intro O cs l
 induction l generalizing cs with
 | nil =>
   intro n r t Al W Ar cr w ce hU bc cc cd hn hh hl hr d;have fr:=d;obtain⟨A,c,ag⟩:=d;cases hU;have g5:=LH ag.few;have HM:=LH fr;clear ag fr hT hP HT bc cc cd hh hl hr ce;go_enter func132,ntmps132;go_wp2_with fail;refine AV (results_none rfl _ _ _) rfl ?_;exact⟨rfl,Zu.refl _,.inl ⟨by have:=g5.out;rw[DS];omega,by rw[DK];exact HM.out⟩⟩
 | cons s l ih =>
   intro n r t Al W Ar cr w ce hU bc cc cd hn hh hl hr d;obtain⟨k,q,r2,t1,t2,j2,f9,f7,f6,ft,rfl,f5,bd⟩:=hU.parts hP bc;obtain⟨A,c,ag⟩:=d;obtain⟨a1,n1,c1,a2,n2,c2,a3,n3,c3⟩:=h;have j8:=hT.tabm.1;have j9:=hT.tabm.2.1;have j6:=hT.nt;have jz:=hP.fits.n1;have j5:=hP.fits.n2.2;have gb:=H7 (hh s (AX ..));have jx:=hl.cap;obtain⟨ab,ao,s',rfl,ca,fl,ds⟩:=hl.get (j:=0) AE;obtain rfl:s=s':=by have:=fl.out;simpa using this
   rw[DJ] at ds;have b6:=hl.tail1;rw[show (s::l).length-1=l.length from rfl] at b6;obtain⟨A2,hk⟩:∃A2:Option Addr,(if W=1 then some (⟨ab,ao,none⟩:Addr) else some ⟨ab,ao+1,none⟩)=A2:=⟨_,rfl⟩;rw[hk] at b6;have hq:InG G [s]:=λp f f4=>by
    rw[BV.1 f] at f4 ⊢;exact bc s (AX ..) f4
   have fs:0<Zx (Zv G) l (n-k):=AA
   have da:Hid (∀j,j<=k+1->Yv (Zv G) s l n j<=Zx (Zv G) (s::l) n):=LH λj hj=>by
    rw[<-Jn];exact Wz _ _ _ _ AA
   have bj:Hid (∀j,Yv (Zv G) s l n (j+1)=Yv (Zv G) s l n j+Zv G s j*Zx (Zv G) l (n-j)):=LH λj=>Xy _ _ _ _ _;have g7:Hid (∀j,j<=k->Yv (Zv G) s l n j<=Yv (Zv G) s l n k):=LH λj hj=>Wz _ _ _ _ hj;have HB:=LH hT;have gx:=LH HT;have IH:=LH ih;have fd:=LH ft;have dc:=LH f9;have fk:=LH f7;have fj:=LH f6;have ha:=LH f5;have g9:=LH bd;have c9:=LH bc;have c8:=LH cc;have Hh:=LH hh;have cu:=LH b6;have HL:=LH hl;have HM:=LH ag;have HR:=LH hr;have de:=LH ce;have HP:=LH hP;have j4:l.length<=5:=by simpa using cd
   have gy:=LH fs;have fm:=LH gb;have a9:=ag.base;have g4:w.cell? ⟨O,4,none⟩=some (.slice At V P):=ag.box.cell 4;have g6:w.cell? ⟨O,6,none⟩=some (.bool false):=ag.box.cell 6;have gl:=ag.box.lt;have j3:((l.length:Int)+1==0)=false:=by rw[AP];omega
   clear hT HT ih hU ft f9 f7 f6 f5 bd bc cc hh b6 hl ag hr ce hP fs fl hq a9 cd gb;go_enter func132,ntmps132;go_wp2_with fail;go_loopw [3,8] (λv i wr=>∃(j N:Nat) (Av:Option Addr) (cv:Nat),i = .int .i64 (j:Int)/\j<=k/\v = .slice Av (limbs N).length cv/\Hid (r=Yv (Zv G) s l n j+N)/\Hid (Zq .u32 wr Av (limbs N).length cv (limbs N))/\Hid (Below w.heap.size w wr)) (λ_ i _=>k+1-(intOf i).toNat)
   case atStart=>exact⟨0,r,Ar,cr,rfl,AU _,rfl,LH (by rw[Ug];omega),HR,LH (AK _ _)⟩
   obtain⟨j,N,Av,cv,rfl,hj,rfl,b4,HN,fh⟩:=hrel;have bg:=LH (HM.out.below fh.out);clear g4 g6 gl HM HR;have M:=bg.out;have g4:wr.cell? ⟨O,4,none⟩=some (.slice At V P):=M.box.cell 4;have gl:=M.box.lt;have s0:=(M.base.cell (p:=⟨ab,ao,none⟩) ca).trans ds;have sl:=AJ ca M.base.size;have j1:j<=n:=AA
   clear M;obtain⟨x,Hx⟩:∃x,Hid (Zv G s j=x):=⟨_,LH rfl⟩;obtain⟨y,Hy⟩:∃y,Hid (Zx (Zv G) l (n-j)=y):=⟨_,LH rfl⟩;have CT:Hid (∀X,Below wr.heap.size wr X->Calls prog 95 #[.slice At V P,.int .i64 s,.int .i64 (j:Int)] X λe w'=>Below X.heap.size X w'/\∃H L I J,e = .returned (.agg #[.slice H L I,.bool J])/\Z1 w' H L I J x):=LH λX o=>by
    have a9:=Zz bg.out.base o;have h1:=Ztn At V P G.nons.length tab s j X (HB.out.tabm.below a9) AA AA AA (λ_=>by have:=fm.out;omega);rw[HB.out.tree (Hh.out s (AX ..)) AA,Hx.out] at h1;exact h1.mono λe w' h=>h
   have CF:Hid (∀X,Below wr.heap.size wr X->Calls prog 53 #[.slice At V P,.slice A2 l.length (W-1),.int .i64 ((n-j:Nat):Int)] X λe w'=>Below X.heap.size X w'/\∃H L I J,e = .returned (.agg #[.slice H L I,.bool J])/\Z1 w' H L I J y):=LH λX o=>by
    have a9:=Zz bg.out.base o;have h1:=Kd At V P G.nons.length tab A2 (W-1) l (n-j) X (HB.out.tabm.below a9) AA AA AA (cu.out.below a9) AA (λs hs=>by have:=H7 (Hh.out s (.tail _ hs));omega);rw[HB.out.forest (λs hs=>Hh.out s (.tail _ hs)) AA,Hy.out] at h1;exact h1.mono λe w' h=>h
   go_upto_region 4 with fail;refine Yi (Γ:=Unit) (λ_ b u X=>VMs wr [(⟨19,21,8,46,#[.slice none 0 0,.bool false]⟩:Qr),(⟨20,22,18,46,#[.slice none 0 0,.bool false]⟩:Qr)] b u X) (λX D=>Zu X D) () (λu=>(⟨(.pointer (some ⟨O,0,none⟩) :: .slice (some ⟨ab,ao,none⟩) (l.length+1) W :: .int .i64 (n:Int) :: .slice Av (limbs N).length cv::undef::undef::undef::undef :: .int .i64 (j:Int)::u 19::u 20::u11::u12::u13::u14 :: .slice (some ⟨ab,ao,none⟩) (l.length+1) W :: .int .i64 ((l.length:Int)+1) :: .bool false :: .bool false :: .pointer (some ⟨O,0,none⟩) :: .pointer (some ⟨O,0,none⟩) :: .pointer (some ⟨O,6,none⟩) :: .bool false :: .bool false :: .int .i64 (j:Int) :: .int .i64 (n:Int) :: .bool true::u27::u28::u 0::u 1::u 2::u 3::u 4::u 5::u 6::u 7::u 8::u 9::u 10::u 11::u 12::u 13::u 14::u 15::u 16::u 17::u 18::u48::u49::u50::u51::u52::u53::u54::u55::u56::u57::u58::u59::u60::u61::u62::u63::u64::u65::u66::u67::u68::u69::u70::u71::u72::u73::u74::u75::u76::u77::u78::u79::u80::u81::u82::u83::u84::u85::u86::[]).toArray,[]⟩:Act)) [u29,u30,u31,u32,u33,u34,u35,u36,u37,u38,u39,u40,u41,u42,u43,u44,u45,u46,u47,u9,u10,undef,undef] [λv X=>v = .pointer (some ⟨O,0,none⟩),λv X=>v = .pointer (some ⟨O,0,none⟩),λv X=>v = .pointer (some ⟨O,4,none⟩),λv X=>v = .slice At V P,λv X=>v = .slice (some ⟨ab,ao,none⟩) (l.length+1) W,λv X=>v = .pointer (some ⟨ab,ao,none⟩),λv X=>v = .int .i64 s,λv X=>v = .int .i64 (j:Int),λv X=>∃H L I J,v = .agg #[.slice H L I,.bool J]/\Z1 X H L I J x,λv X=>v = .pointer (some ⟨O,0,none⟩),λv X=>v = .pointer (some ⟨O,0,none⟩),λv X=>v = .pointer (some ⟨O,4,none⟩),λv X=>v = .slice At V P,λv X=>v = .slice (some ⟨ab,ao,none⟩) (l.length+1) W,λv X=>v = .slice A2 l.length (W-1),λv X=>v = .int .i64 (n:Int),λv X=>v = .int .i64 (j:Int),λv X=>v = .int .i64 ((n-j:Nat):Int),λv X=>∃H L I J,v = .agg #[.slice H L I,.bool J]/\Z1 X H L I J y,λv X=>True,λv X=>True,λv X=>True,λv X=>True] (l:=[_,_,_,_,_,_,_,_,_,_,_,_,_,_,_,_,_,_,_,_,_,_,_]) AB AB rfl (VMs.start _ _ _) ⟨λ_ _ _ h _=>h,λ_ _ _ h _=>h,λ_ _ _ h _=>h,λ_ _ _ h _=>h,λ_ _ _ h _=>h,λ_ _ _ h _=>h,λ_ _ _ h _=>h,λ_ _ _ h _=>h,(λv X D ⟨H,L,I,J,e,h⟩ o=>⟨H,L,I,J,e,h.nkept o⟩),λ_ _ _ h _=>h,λ_ _ _ h _=>h,λ_ _ _ h _=>h,λ_ _ _ h _=>h,λ_ _ _ h _=>h,λ_ _ _ h _=>h,λ_ _ _ h _=>h,λ_ _ _ h _=>h,λ_ _ _ h _=>h,(λv X D ⟨H,L,I,J,e,h⟩ o=>⟨H,L,I,J,e,h.nkept o⟩),λ_ _ _ h _=>h,λ_ _ _ h _=>h,λ_ _ _ h _=>h,λ_ _ _ h _=>h,trivial⟩ ?_ ?_
   ·refine Zw.cons rfl (λ_ _=>rfl) (λQ g b u X z E d f K C=>?_) ?_
    ·have B:=λD (o:Below X.heap.size X D) v=>d.idle o 0 rfl v;have F:=d.below;clear f d z;go_simp;exact C _ () _ (Zu.refl _) (B _ (AK _ _) _) rfl
    refine Zw.cons rfl (λ_ _=>rfl) (λQ g b u X z E d f K C=>?_) ?_
    ·have p0:u 0=_:=(f 0 rfl).2;have B:=λD (o:Below X.heap.size X D) v=>d.idle o 1 rfl v;have F:=d.below;clear f d z;generalize u 0=x0 at *;subst p0;go_simp;exact C _ () _ (Zu.refl _) (B _ (AK _ _) _) rfl
    refine Zw.cons rfl (λ_ _=>rfl) (λQ g b u X z E d f K C=>?_) ?_
    ·have p1:u 1=_:=(f 1 rfl).2;have B:=λD (o:Below X.heap.size X D) v=>d.idle o 2 rfl v;have F:=d.below;clear f d z;generalize u 1=x1 at *;subst p1;go_simp;exact C _ () _ (Zu.refl _) (B _ (AK _ _) _) rfl
    refine Zw.cons rfl (λ_ _=>rfl) (λQ g b u X z E d f K C=>?_) ?_
    ·have p2:u 2=_:=(f 2 rfl).2;have B:=λD (o:Below X.heap.size X D) v=>d.idle o 3 rfl v;have F:=d.below;have y0:=(F.cell (p:=⟨O,4,none⟩) gl).trans g4;have yl:=AJ gl F.size;clear f d z;generalize u 2=x2 at *;subst p2;go_simp;exact C _ () _ (Zu.refl _) (B _ (AK _ _) _) rfl
    refine Zw.cons rfl (λ_ _=>rfl) (λQ g b u X z E d f K C=>?_) ?_
    ·have B:=λD (o:Below X.heap.size X D) v=>d.idle o 4 rfl v;have F:=d.below;clear f d z;go_simp;exact C _ () _ (Zu.refl _) (B _ (AK _ _) _) rfl
    refine Zw.cons rfl (λ_ _=>rfl) (λQ g b u X z E d f K C=>?_) ?_
    ·have p4:u 4=_:=(f 4 rfl).2;have B:=λD (o:Below X.heap.size X D) v=>d.idle o 5 rfl v;have F:=d.below;clear f d z;generalize u 4=x4 at *;subst p4;go_simp;exact C _ () _ (Zu.refl _) (B _ (AK _ _) _) rfl
    refine Zw.cons rfl (λ_ _=>rfl) (λQ g b u X z E d f K C=>?_) ?_
    ·have p5:u 5=_:=(f 5 rfl).2;have B:=λD (o:Below X.heap.size X D) v=>d.idle o 6 rfl v;have F:=d.below;have y0:=(F.cell (p:=⟨ab,ao,none⟩) sl).trans s0;have yl:=AJ sl F.size;clear f d z;generalize u 5=x5 at *;subst p5;go_simp;exact C _ () _ (Zu.refl _) (B _ (AK _ _) _) rfl
    refine Zw.cons rfl (λ_ _=>rfl) (λQ g b u X z E d f K C=>?_) ?_
    ·have B:=λD (o:Below X.heap.size X D) v=>d.idle o 7 rfl v;have F:=d.below;clear f d z;go_simp;exact C _ () _ (Zu.refl _) (B _ (AK _ _) _) rfl
    refine Zw.cons rfl (λ_ _=>rfl) (λQ g b u X z E d f K C=>?_) ?_
    ·have p3:u 3=_:=(f 3 rfl).2;have p6:u 6=_:=(f 6 rfl).2;have p7:u 7=_:=(f 7 rfl).2;have dt:b 21=false:=AZ.2 λh=>by have:=z 21 _ rfl h 8 rfl;rw[E] at this;cases this
     have B:=λD (o:Below X.heap.size X D) v=>d.call o 8 dt rfl v;have F:=d.below;have CC:=CT.out X F;clear f d z;generalize u 3=x3 at *;subst p3;generalize u 6=x6 at *;subst p6;generalize u 7=x7 at *;subst p7;go_simp;go_at_call 95;(with_reducible refine CC.mono ?_);rintro e D⟨o,H,L,I,J,rfl,hv⟩;go_simp;exact C _ () _ (.of_below o) (B _ o _) ⟨H,L,I,J,rfl,hv⟩
    refine Zw.cons rfl (λ_ _=>rfl) (λQ g b u X z E d f K C=>?_) ?_
    ·have B:=λD (o:Below X.heap.size X D) v=>d.idle o 9 rfl v;have F:=d.below;clear f d z;go_simp;exact C _ () _ (Zu.refl _) (B _ (AK _ _) _) rfl
    refine Zw.cons rfl (λ_ _=>rfl) (λQ g b u X z E d f K C=>?_) ?_
    ·have p9:u 9=_:=(f 9 rfl).2;have B:=λD (o:Below X.heap.size X D) v=>d.idle o 10 rfl v;have F:=d.below;clear f d z;generalize u 9=x9 at *;subst p9;go_simp;exact C _ () _ (Zu.refl _) (B _ (AK _ _) _) rfl
    refine Zw.cons rfl (λ_ _=>rfl) (λQ g b u X z E d f K C=>?_) ?_
    ·have h0:u 10=_:=(f 10 rfl).2;have B:=λD (o:Below X.heap.size X D) v=>d.idle o 11 rfl v;have F:=d.below;clear f d z;generalize u 10=ks at *;subst h0;go_simp;exact C _ () _ (Zu.refl _) (B _ (AK _ _) _) rfl
    refine Zw.cons rfl (λ_ _=>rfl) (λQ g b u X z E d f K C=>?_) ?_
    ·have h7:u 11=_:=(f 11 rfl).2;have B:=λD (o:Below X.heap.size X D) v=>d.idle o 12 rfl v;have F:=d.below;have y0:=(F.cell (p:=⟨O,4,none⟩) gl).trans g4;have yl:=AJ gl F.size;clear f d z;generalize u 11=kt at *;subst h7;go_simp;exact C _ () _ (Zu.refl _) (B _ (AK _ _) _) rfl
    refine Zw.cons rfl (λ_ _=>rfl) (λQ g b u X z E d f K C=>?_) ?_
    ·have B:=λD (o:Below X.heap.size X D) v=>d.idle o 13 rfl v;have F:=d.below;clear f d z;go_simp;exact C _ () _ (Zu.refl _) (B _ (AK _ _) _) rfl
    refine Zw.cons rfl (λ_ _=>rfl) (λQ g b u X z E d f K C=>?_) ?_
    ·have ja:u 13=_:=(f 13 rfl).2;have B:=λD (o:Below X.heap.size X D) v=>d.idle o 14 rfl v;have F:=d.below;have hx:(1:Int)<=(l.length:Int)+1:=AA
     clear f d z;generalize u 13=kv at *;subst ja;go_simp;exact C _ () _ (Zu.refl _) (B _ (AK _ _) _) rfl
    refine Zw.cons rfl (λ_ _=>rfl) (λQ g b u X z E d f K C=>?_) ?_
    ·have B:=λD (o:Below X.heap.size X D) v=>d.idle o 15 rfl v;have F:=d.below;clear f d z;go_simp;exact C _ () _ (Zu.refl _) (B _ (AK _ _) _) rfl
    refine Zw.cons rfl (λ_ _=>rfl) (λQ g b u X z E d f K C=>?_) ?_
    ·have B:=λD (o:Below X.heap.size X D) v=>d.idle o 16 rfl v;have F:=d.below;clear f d z;go_simp;exact C _ () _ (Zu.refl _) (B _ (AK _ _) _) rfl
    refine Zw.cons rfl (λ_ _=>rfl) (λQ g b u X z E d f K C=>?_) ?_
    ·have jc:u 15=_:=(f 15 rfl).2;have jd:u 16=_:=(f 16 rfl).2;have B:=λD (o:Below X.heap.size X D) v=>d.idle o 17 rfl v;have F:=d.below;have hw:IntKind.i64.wrap ((n:Int)-(j:Int))=((n-j:Nat):Int):=by rw[BT _ AA];omega
     clear f d z;generalize u 15=kx at *;subst jc;generalize u 16=ky at *;subst jd;go_simp;exact C _ () _ (Zu.refl _) (B _ (AK _ _) _) (by first | rfl | rw[hw])
    refine Zw.cons rfl (λ_ _=>rfl) (λQ g b u X z E d f K C=>?_) ?_
    ·have h8:u 12=_:=(f 12 rfl).2;have jb:u 14=_:=(f 14 rfl).2;have je:u 17=_:=(f 17 rfl).2;have du:b 22=false:=AZ.2 λh=>by have:=z 22 _ rfl h 18 rfl;rw[E] at this;cases this
     have B:=λD (o:Below X.heap.size X D) v=>d.call o 18 du rfl v;have F:=d.below;have CC:=CF.out X F;clear f d z;generalize u 12=ku at *;subst h8;generalize u 14=kw at *;subst jb;generalize u 17=kz at *;subst je;go_simp;go_at_call 53;(with_reducible refine CC.mono ?_);rintro e D⟨o,H,L,I,J,rfl,hv⟩;go_simp;exact C _ () _ (.of_below o) (B _ o _) ⟨H,L,I,J,rfl,hv⟩
    refine Zw.cons rfl (λ_ _=>rfl) (λQ g b u X z E d f K C=>?_) ?_
    ·have dt:b 21=false:=AZ.2 λh=>by have:=z 21 _ rfl h 19 rfl;rw[E] at this;cases this
     have B:=d.made (p:=(⟨19,21,8,46,#[.slice none 0 0,.bool false]⟩:Qr)) AE dt (λp f=>by simp only[BW,Ef,or_false] at f;rcases f with rfl | rfl <;> exact⟨AE,AC,AC⟩);clear f d z;go_simp;exact C _ () _ (.of_below (Zy _ _)) B trivial
    refine Zw.cons rfl (λ_ _=>rfl) (λQ g b u X z E d f K C=>?_) ?_
    ·have du:b 22=false:=AZ.2 λh=>by have:=z 22 _ rfl h 20 rfl;rw[E] at this;cases this
     have B:=d.made (p:=(⟨20,22,18,46,#[.slice none 0 0,.bool false]⟩:Qr)) AE du (λp f=>by simp only[BW,Ef,or_false] at f;rcases f with rfl | rfl <;> exact⟨AE,AC,AC⟩);clear f d z;go_simp;exact C _ () _ (.of_below (Zy _ _)) B trivial
    refine Zw.cons rfl (λ_ _=>rfl) (λQ g b u X z E d f K C=>?_) ?_
    ·obtain⟨H,L,I,J,p8,hv⟩:=(f 8 rfl).2;obtain⟨gB,hg,U,B,dj⟩:=d.put2 (p:=(⟨19,21,8,46,#[.slice none 0 0,.bool false]⟩:Qr)) AE (f 19 rfl).1 E (λp f=>by simp only[BW,Ef,or_false] at f;rcases f with rfl | rfl <;> exact⟨AE,AC,AC,AE⟩) rfl nofun nofun p8
     clear f d z;generalize u 19=k1 at *;subst hg;generalize u 8=x8 at *;subst p8;have y0:=U.cell 0;have jr:=U.frozen 0;have y1:=U.cell 1;have js:=U.frozen 1;have yl:=U.lt;clear U;go_simp;exact C undef () _ dj (B undef) trivial
    refine Zw.cons rfl (λ_ _=>rfl) (λQ g b u X z E d f K C=>?_) ?_
    ·obtain⟨H,L,I,J,bw,hv⟩:=(f 18 rfl).2;obtain⟨gB,hi,U,B,dj⟩:=d.put2 (p:=(⟨20,22,18,46,#[.slice none 0 0,.bool false]⟩:Qr)) AE (f 20 rfl).1 E (λp f=>by simp only[BW,Ef,or_false] at f;rcases f with rfl | rfl <;> exact⟨AE,AC,AC,AE⟩) rfl nofun nofun bw
     clear f d z;generalize u 20=k3 at *;subst hi;generalize u 18=k0 at *;subst bw;have y0:=U.cell 0;have jr:=U.frozen 0;have y1:=U.cell 1;have js:=U.frozen 1;have yl:=U.lt;clear U;go_simp;exact C undef () _ dj (B undef) trivial
    exact Zw.nil
   intro _ b9 u X9 bo b8 f;obtain⟨g1,jn,gh,_,fu,p8⟩:=b8.fin (p:=⟨19,21,8,46,#[.slice none 0 0,.bool false]⟩) AE (bo 19 AC) (bo 21 AC);obtain⟨g2,jo,gj,_,fv,bw⟩:=b8.fin (p:=⟨20,22,18,46,#[.slice none 0 0,.bool false]⟩) AE (bo 20 AC) (bo 22 AC);obtain⟨H,L,I,J,q8,gc⟩:=f 8 AC;obtain⟨A3,dv,a4,d3,dw,gd⟩:=f 18 AC;obtain rfl:jn=#[.slice H L I,.bool J]:=by
    rw[p8] at q8;injection q8
   obtain rfl:jo=#[.slice A3 dv a4,.bool d3]:=by
    rw[bw] at dw;injection dw
   have gi:u 19=_:=gh;have gk:u 20=_:=gj;have cb:=b8.below;have d6:=LH (Zz fh.out cb);have d8:=LH (bg.out.below cb);have b3:=LH fu;have bh:=LH fv;have fe:=LH gc;have c6:=LH gd;have fa:=LH (HN.out.below cb);clear f bo b8 p8 q8 bw dw cb fu fv gc gd b9;rw[gi,gk];clear gh gj gi gk g4 gl s0 sl CT CF;generalize u 0=w0 at *;generalize u 1=w1 at *;generalize u 2=w2 at *;generalize u 3=w3 at *;generalize u 4=w4 at *;generalize u 5=w5 at *;generalize u 6=w6 at *;generalize u 7=w7 at *;generalize u 8=w8 at *;generalize u 9=w9 at *;generalize u 10=kb at *;generalize u 11=kc at *;generalize u 12=kd at *;generalize u 13=ke at *;generalize u 14=kf at *;generalize u 15=kg at *;generalize u 16=kh at *;generalize u 17=ki at *;generalize u 18=kj at *;clear u;have z0:X9.cell? ⟨g1,0,none⟩=some (.slice H L I):=b3.out.cell 0;have z1:X9.cell? ⟨g1,1,none⟩=some (.bool J):=b3.out.cell 1;have zl:=b3.out.lt;have x0:X9.cell? ⟨g2,0,none⟩=some (.slice A3 dv a4):=bh.out.cell 0;have x1:X9.cell? ⟨g2,1,none⟩=some (.bool d3):=bh.out.cell 1;have xl:=bh.out.lt;have CM:=LH (Gt H L I J x A3 dv a4 d3 y X9 fe.out c6.out);go_upto_region 6 with (first
    | (go_at_call 26
       (with_reducible refine CM.out.mono ?_);rintro e v5⟨fx,A4,n4,c4,d4,rfl,ge⟩))
   have dl:=Zy v5 (.cells #[.slice A4 n4 c4,.bool d4] 46);have fw:=Blk.new v5 46 #[.slice A4 n4 c4,.bool d4];have bb:=Zz fx dl;have d5:=LH (Zz d6.out bb);have gu:=LH (d8.out.below bb);have g0:=LH (bh.out.ext bb);have c7:=LH fw;have ff:=LH (ge.below dl);have gz:=LH (c6.out.below bb);have cz:=LH (fa.out.below bb);clear z0 z1 zl x0 x1 xl CM fx dl bb fw ge d6 d8 b3 bh fe c6 fa bg HN;generalize v5.alloc (.cells #[.slice A4 n4 c4,.bool d4] 46)=W6 at *;generalize v5.heap.size=g3 at *;have z0:W6.cell? ⟨g3,0,none⟩=some (.slice A4 n4 c4):=c7.out.cell 0;have z1:W6.cell? ⟨g3,1,none⟩=some (.bool d4):=c7.out.cell 1;have zl:=c7.out.lt;have dr:N<big:=by
    have h1:=b4.out;have R:=dc.out;have S:=da.out (k+1) (AI _);have h4:=bj.out k;have h5:=c8.out;have h6:q*Zx (Zv G) l (n-k)+r2<Zv G s k*Zx (Zv G) l (n-k):=by
     have:=Lc (a:=0) (q:=q) (T:=Zv G s k) (by have:=fj.out;omega) fk.out;rwa [BH] at this
    omega
   have dd:=LH dr;have f3:j=k->N=q*y+r2/\r2<y/\q<x:=by
    intro e;subst e;have h1:=b4.out;have R:=dc.out;have S:=fk.out;have h4:=fj.out;rw[Hy.out] at R S;rw[Hx.out] at h4;exact⟨AA,S,h4⟩
   have fz:j<k->x*y<=N:=by
    intro bq;have h1:=g7.out (j+1) AA;have R:=b4.out;have S:=dc.out;have h4:=bj.out j;rw[Hx.out,Hy.out] at h4;omega
   have fi:=LH f3;have g8:=LH fz;have CH:=LH (rf_here Av cv N A4 n4 c4 d4 (x*y) W6 cz.out dr ff.out);clear dr f3 fz;by_cases bq:N<x*y
   case neg =>
    rw[BR bq] at CH;have j0:j<k:=by
     rcases BD j k with h | h
     ·exact h
     obtain⟨h1,R,S⟩:=fi.out AA;have:=Lc (a:=0) (q:=q) (T:=x) AA R;rw[BH] at this;omega
    have hc:Hid (r=Yv (Zv G) s l n (j+1)+(N-x*y)):=LH (by
     have h1:=bj.out j;rw[Hx.out,Hy.out] at h1;have R:=b4.out;omega)
    have be:x*y<big:=by have:=dd.out;omega
    obtain⟨dm,Z⟩:=ff.out;rw[Z7 be] at dm Z;have bs:=Z.len;simp only[] at dm Z bs;subst bs;have CL:Hid (∀X,Below W6.heap.size W6 X->Calls prog 133 #[.slice Av (limbs N).length cv,.slice A4 (limbs (x*y)).length c4] X λe w'=>∃A c,e = .returned (.slice A (limbs (N-x*y)).length c)/\Zq .u32 w' A (limbs (N-x*y)).length c (limbs (N-x*y))/\Below X.heap.size X w'):=LH λX o=>rf_less Av cv N A4 c4 (x*y) X (cz.out.below o) (Z.below o) dd.out AA;clear bq Z be dm;generalize x*y=xy at *;go_wp2_with (first
     | (go_at_call 131
        (with_reducible refine CH.out.mono ?_);rintro e v1⟨rfl,Y⟩;have lb:=(Y.cell (p:=⟨g3,0,none⟩) zl).trans z0;have lc:=AJ zl Y.size;have gr:=LH (CL.out v1 Y);have cx:=LH (Zz d5.out Y);clear Y)
     | (go_at_call 133
        (with_reducible refine gr.out.mono ?_);rintro e v2⟨A5,c5,rfl,f0,ba⟩;have gv:=LH f0;have bf:=LH (Zz cx.out ba);clear f0 ba))
    go_roundw
    case rel=>exact⟨j+1,N-xy,A5,c5,AF,AA,rfl,hc,gv,bf⟩
    simp[intOf] <;> omega
   rw[DY bq] at CH;obtain rfl:j=k:=by
    rcases BD j k with h | h
    ·have:=g8.out h;omega
    omega
   obtain⟨ga,f8,j7⟩:=fi.out rfl;have be:y<big:=by
    have h1:=da.out (j+1) (AI _);have R:=bj.out j;rw[Hx.out,Hy.out] at R;have S:=c8.out;have h4:y<=x*y:=Nat.le_mul_of_pos_left y AA;omega
   obtain⟨dn,Z⟩:=gz.out;rw[Z7 be] at dn Z;have bs:=Z.len;simp only[] at dn Z bs;subst bs;subst dn;have fn:=LH be;have dp:N / y=q/\N % y=r2:=by
    subst ga;refine⟨?_,?_⟩
    ·rw[Eo,Nat.add_mul_div_right _ _ AA,Nat.div_eq_of_lt f8,BH]
    rw[Eo,Nat.add_mul_mod_self_right,Ei f8]
   have CQ:Hid (∀X,Below W6.heap.size W6 X->Calls prog 183 #[.slice Av (limbs N).length cv,.slice A3 (limbs y).length a4] X λe w'=>∃Aq cq Aw cw,e = .returned (.tuple #[.slice Aq (limbs q).length cq,.slice Aw (limbs r2).length cw,.int .i64 0])/\Zq .u32 w' Aq (limbs q).length cq (limbs q)/\Zq .u32 w' Aw (limbs r2).length cw (limbs r2)/\Below X.heap.size X w'):=LH λX o=>by
    have h1:=ref_quo Av _ cv (limbs N) A3 _ a4 (limbs y) X (cz.out.below o) (Z.below o) (Z9 _) (Z9 _);rw[Zv2 dd.out fn.out AA,dp.1,dp.2] at h1;unfold RetQuo at h1;exact h1
   clear bq ga dp be Z;go_upto_region 9 with (first
    | (go_at_call 131
       (with_reducible refine CH.out.mono ?_);rintro e v1⟨rfl,Y⟩;have gt:=LH (gu.out.below Y);have dk:=g0.out.ext Y;have x0:v1.cell? ⟨g2,0,none⟩=some (.slice A3 (limbs y).length a4):=dk.cell 0;have xl:=dk.lt;have cx:=LH (Zz d5.out Y);have gs:=LH (CQ.out v1 Y);clear Y dk)
    | (go_at_call 183
       (with_reducible refine gs.out.mono ?_);rintro e v2⟨Aq,cq,Aw,cw,rfl,f1,f2,ba⟩;have b2:=LH (gt.out.below ba);have gw:=LH f1;have fb:=LH f2;have bf:=LH (Zz cx.out ba);clear f1 f2 ba))
   clear x0 xl z0 z1 zl CH CQ;have s0:=(b2.out.base.cell (p:=⟨ab,ao,none⟩) ca).trans ds;have sl:=AJ ca b2.out.base.size;have hw:IntKind.i64.wrap ((n:Int)-(j:Int))=((n-j:Nat):Int):=by rw[BT _ AA];omega
   have hx:(1:Int)<=(l.length:Int)+1:=AA
   have fy:Zx (Zv G) l (n-j)<big:=by rw[Hy.out];exact fn.out
   have fg:=LH fy;clear fy;by_cases bd:s<0
   case neg =>
    obtain⟨rfl,rfl,ht⟩:=ha.out AA;clear ht;have CF:=LH (IH.out cs (n-j) r2 t2 A2 (W-1) Aw cw v2 (by have:=de.out;rwa [DG] at this) fd.out c9.out.tail fg.out AA AA (λs hs=>Hh.out s (.tail _ hs)) cu.out fb.out ⟨_,_,b2.out⟩);go_wp2_with (first
     | (go_at_call 132
        (with_reducible refine CF.out.mono ?_);rintro e W7⟨rfl,aj,bt⟩;have db:=LH bt;clear bt))
    refine AV (results_none rfl _ _ _) rfl ?_;exact⟨rfl,(Zu.of_below bf.out).trans aj,by rw[DG];exact db.out⟩
   have ka:IntKind.i64.wrap (-1-s)=((Zp s:Nat):Int):=by
    rw[BT _ (by have:=fm.out;omega)];unfold Zp;omega
   have CT:=gx.out O cs s j q t1 Aq cq v2 (by have:=de.out;rw[AS] at this;omega) bd (c9.out s (AX ..) bd) (g9.out bd) (by
    have h1:=da.out (j+1) (AI _);have R:=bj.out j;have S:=c8.out;have h4:Zv G s j<=Zv G s j*Zx (Zv G) l (n-j):=Nat.le_mul_of_pos_right _ gy.out;omega) AA gw.out ⟨_,_,b2.out⟩
   by_cases jy:cs.length+t1.length<=300
   case pos =>
    have cp:Hid (Calls prog 81 #[.pointer (some ⟨O,0,none⟩),.int .i64 (Zp s:Int),.int .i64 (j:Int),.slice Aq (limbs q).length cq] v2 λe w'=>e = .returned (.tuple #[])/\Zu v2 w'/\WkAt W0 ⟨a1,n1,c1,a2,n2,c2,a3,n3,c3⟩ G At V P O (cs++t1) false w'):=LH (CT.mono λe w' hr=>by
     obtain⟨h1,R,⟨_,S⟩ | ⟨S,_⟩⟩:=hr
     ·exact⟨h1,R,S⟩
     omega)
    clear CT;go_wp2_with (first
     | (go_at_call 81
        (with_reducible refine cp.out.mono ?_);rintro e W7⟨rfl,aj,br⟩;have cy:=LH ((Zu.of_below bf.out).trans aj);have CF:=LH (IH.out (cs++t1) (n-j) r2 t2 A2 (W-1) Aw cw W7 (by have:=de.out;rw[AS] at this;omega) fd.out c9.out.tail fg.out AA AA (λs hs=>Hh.out s (.tail _ hs)) cu.out (fb.out.nkept aj) br);clear aj br)
     | (go_at_call 132
        (with_reducible refine CF.out.mono ?_);rintro e W8⟨rfl,hu,bt⟩;have db:=LH bt;clear bt))
    refine AV (results_none rfl _ _ _) rfl ?_;refine⟨rfl,cy.out.trans hu,?_⟩;have h9:=db.out;rw[AS,DQ] at h9;rw[AS,<-Ed];exact h9
   have cp:Hid (Calls prog 81 #[.pointer (some ⟨O,0,none⟩),.int .i64 (Zp s:Int),.int .i64 (j:Int),.slice Aq (limbs q).length cq] v2 λe w'=>e = .returned (.tuple #[])/\Zu v2 w'/\∃df,WkAt W0 ⟨a1,n1,c1,a2,n2,c2,a3,n3,c3⟩ G At V P O df true w'):=LH (CT.mono λe w' hr=>by
    obtain⟨h1,R,⟨S,_⟩ | ⟨_,S⟩⟩:=hr
    ·omega
    exact⟨h1,R,S⟩)
   clear CT;go_wp2_with (first
    | (go_at_call 81
       (with_reducible refine cp.out.mono ?_);rintro e W7⟨rfl,aj,df,br⟩;have cy:=LH ((Zu.of_below bf.out).trans aj);have d7:=LH br;clear aj br)
    | (go_at_call 132
       (with_reducible refine (rf_wfull A2 l.length (W-1) ((n-j:Nat):Int) Aw _ cw W7 d7.out).mono ?_);rintro e W8⟨rfl,rfl⟩))
   refine AV (results_none rfl _ _ _) rfl ?_;exact⟨rfl,cy.out,.inr ⟨by rw[AS];omega,df,d7.out⟩⟩
end Go.Proofs.YtggbjdmpjidhgaaGreatDoor
