/- ranks: is a rank beyond so many? (walked) -/
import Derived.Test.YtggbjdmpjidhgaaGreatDoorV29
import Derived.Test.YtggbjdmpjidhgaaGreatDoorV30
set_option linter.all false
set_option maxHeartbeats 1500000
set_option maxRecDepth 100000
namespace Go.Proofs.YtggbjdmpjidhgaaGreatDoor
open Go.RowKit Go.Proofs.Tryz
variable{k:BkH}
theorem tr_mtree{U:World}{h:GH}{G:Gr}(hB:BkG U h G)(Y:Xq G)(m:Nat)(HF:FC U k h G m):TC U k h G (m+1):=by
 intro mk cs s n r t Ar cr w fx h0 hl hT da V hr a;obtain⟨R,x0,q,t1,am,dp,hU,dl,rfl⟩:=hT;have hq:q<Zx (Zv G) x0.right n:=hU.lt Y (InG.at Y.fits am);have b1:Z0 (Zv G) G.rules (Zp s) (R+1) n<=Zv G s n:=by
  rw[Uu Y h0 hl];exact Kj _ _ _ _ _
 rw[Y3 _ am,if_pos dp] at b1;have gm:R<G.rules.length:=(AN.1 am).1;have fy:x0.left=(Zp s:Int):=by
  have:=(Y.fits.left x0 (AL am)).1;omega
 have d2:Hid (∀(j:Nat) (x:Rul),G.rules[j]? = some x->J1 x.right n/\(∀s∈x.right,G.has s=true)/\0<=x.left):=LH λj x hx=>by
  have h1:=Bg Y.fits (AL hx) V;exact⟨h1.1,h1.2,(Y.fits.left x (AL hx)).1⟩
 have cu:Hid (∀(j:Nat) (x:Rul),G.rules[j]? = some x->Z0 (Zv G) G.rules (Zp s) (j+1) n=Z0 (Zv G) G.rules (Zp s) j n+(if x.left.toNat=Zp s then Zx (Zv G) x.right n else 0)):=LH λj x hx=>Y3 _ hx _ _;have cq:Hid (∀j,j<=R->Z0 (Zv G) G.rules (Zp s) j n<=Z0 (Zv G) G.rules (Zp s) R n):=LH λj hj=>Vf _ _ _ _ hj;have dx:Hid (InG G x0.right):=LH (InG.at Y.fits am);obtain⟨S,A,c,ar⟩:=a;obtain⟨a1,n1,c1,a2,n2,c2,a3,n3,c3⟩:=h;obtain⟨gc,gt⟩:=k;have fv:n3=G.rules.length:=hB.at_.rules.len.symm;have gi:=hB.at_.rules.cap;have gp:=Y.fits.n3.2;have HB:=LH hB;have dw:=LH HF;have HU:=LH hU;have bs:=LH am;have co:=LH da;have HR:=LH hr;have HM:=LH ar;have cw:=LH b1;have a6:=LH dl;have Hq:=LH hq;have g0:w.cell? ⟨mk,0,none⟩=some (.pointer (some ⟨gc,0,none⟩)):=ar.box.cell 0;have L:=ar.box.lt;have b2:w.cell? ⟨gc,2,none⟩=some (.slice a3 n3 c3):=ar.bk.box.cell 2;have fc:=ar.bk.box.lt;clear hB Y HF hU am dp da hr ar b1 dl hq h0 hl;go_enter func77,ntmps77;go_wp2_with fail;go_loopw [3,21] (λv i wr=>∃(j E:Nat) (Av:Option Addr) (cv:Nat) (S:Nat->Prop) (A:Option Addr) (c:Nat),i = .int .i64 (j:Int)/\j<=R/\v = .slice Av (limbs E).length cv/\Hid (r=Z0 (Zv G) G.rules (Zp s) j n+E)/\Hid (Zq .u32 wr Av (limbs E).length cv (limbs E))/\Hid (Me U ⟨gc,gt⟩ ⟨a1,n1,c1,a2,n2,c2,a3,n3,c3⟩ G mk cs S A c wr)/\Hid (Zu w wr)) (λ_ i _=>n3-(intOf i).toNat)
 case atStart=>exact⟨0,r,Ar,cr,S,A,c,rfl,AU _,rfl,LH (by rw[Qb];omega),HR,HM,LH (Zu.refl _)⟩
 obtain⟨j,E,Av,cv,S',A',c',rfl,hj,rfl,ao,HN,cj,cg⟩:=hrel;clear g0 L b2 fc HM HR;have M:=cj.out;obtain⟨bq,oq,x,N,P,rfl,bd,Hx,q0,q1,q2,c4⟩:=HB.out.at_.rules.get (j:=j) (by show j<n3;omega);have e0:=(M.bk.base.cell (p:=⟨bq,oq+j*3,none⟩) bd).trans q0;have e1:=(M.bk.base.cell (p:=⟨bq,oq+j*3+1,none⟩) bd).trans q1;have e2:=(M.bk.base.cell (p:=⟨bq,oq+j*3+2,none⟩) bd).trans q2;have bx:=AJ bd M.bk.base.size;have ce:=LH c4;have g0:wr.cell? ⟨mk,0,none⟩=some (.pointer (some ⟨gc,0,none⟩)):=M.box.cell 0;have L:=M.box.lt;have bc:=Zy wr (.cells #[.int .i64 x.left,.slice N x.right.length P,.int .i64 x.prec] 52);have au:=Blk.new wr 52 #[.int .i64 x.left,.slice N x.right.length P,.int .i64 x.prec];have O:=LH (M.below bc);have cf:=LH (cg.out.trans (Zu.of_below bc));have bm:=LH (HN.out.below bc);have bh:=d2.out j x Hx.out;have ch:=LH bh.1;have cp:=LH bh.2.1;have gn:=bh.2.2;clear M q0 q1 q2 c4 bc bh cj cg HN;go_upto_region 4 with fail;clear g0 L e0 e1 e2 bx;have dz:Hid (wr.heap.size=wr.heap.size):=LH rfl;generalize wr.alloc (.cells #[.int .i64 x.left,.slice N x.right.length P,.int .i64 x.prec] 52)=W1 at *;generalize wr.heap.size=L at *;clear dz;have z0:W1.cell? ⟨L,0,none⟩=some (.int .i64 x.left):=au.cell 0;have z1:W1.cell? ⟨L,1,none⟩=some (.slice N x.right.length P):=au.cell 1;have z2:W1.cell? ⟨L,2,none⟩=some (.int .i64 x.prec):=au.cell 2;have cl:=au.lt;have az:=LH au;clear au;by_cases aw:x.left=(Zp s:Int)
 case neg =>
  have fw:(x.left != (Zp s:Int))=true:=by simpa using aw
  have fq:j≠R:=by
   rintro rfl;have e:=Hx.out.symm.trans bs.out;injection e with e;subst e;exact aw fy
  have br:Hid (r=Z0 (Zv G) G.rules (Zp s) (j+1) n+E):=LH (by
   rw[cu.out j x Hx.out,if_neg AA];exact ao.out)
  clear aw;go_wp2_with fail;go_roundw
  case rel=>exact⟨j+1,E,Av,cv,S',A',c',AF,AA,rfl,br,bm,O,cf⟩
  simp[intOf] <;> omega
 have fw:(x.left != (Zp s:Int))=false:=by simpa using aw
 have d8:=LH aw;obtain⟨y,Hy⟩:∃y,Hid (Zx (Zv G) x.right n=y):=⟨_,LH rfl⟩;obtain⟨F,bb,a5⟩:∃F bb,Hid ((E<y/\F=E/\bb=false)\/(y<=E/\F=E-y/\bb=true)):=by
  by_cases hh:E<y
  ·exact⟨_,_,LH (.inl ⟨hh,rfl,rfl⟩)⟩
  exact⟨_,_,LH (.inr ⟨AA,rfl,rfl⟩)⟩
 have dm:E<big:=by
  have h1:=ao.out;have H:=a6.out;have h3:=cw.out;have h4:=co.out;have h5:=Hq.out;have h6:=cq.out j hj;omega
 have d6:=LH dm;clear aw dm;go_upto_region 6 with fail;generalize decide (j<G.rules.length)=fa at *;refine Yi (Γ:=Unit) (λ_ b u X=>(Wd U ⟨gc,gt⟩ ⟨a1,n1,c1,a2,n2,c2,some ⟨bq,oq,none⟩,n3,c3⟩ G S' X/\Off (BkH.map ⟨gc,gt⟩) W1 X)/\Do b u 13 (.slice Av (limbs E).length cv)) (λX W=>Zf X W) () (λu=>(⟨(.pointer (some ⟨mk,0,none⟩) :: .int .i64 ((Zp s:Nat):Int) :: .int .i64 (n:Int)::u 13::undef::undef::undef::undef::u8 :: .int .i64 (j:Int) :: .pointer (some ⟨L,0,none⟩)::u 14 :: .pointer (some ⟨mk,0,none⟩) :: .pointer (some ⟨mk,0,none⟩) :: .pointer (some ⟨mk,0,none⟩) :: .pointer (some ⟨gc,0,none⟩) :: .pointer (some ⟨gc,0,none⟩) :: .pointer (some ⟨gc,0,none⟩) :: .pointer (some ⟨gc,2,none⟩) :: .slice (some ⟨bq,oq,none⟩) G.rules.length c3 :: .int .i64 (G.rules.length:Int) :: .int .i64 (j:Int) :: .bool fa :: .int .i64 (j:Int) :: .pointer (some ⟨bq,oq+j*3,none⟩) :: .agg #[.int .i64 x.left,.slice N x.right.length P,.int .i64 x.prec] :: .pointer (some ⟨L,0,none⟩) :: .int .i64 x.left :: .int .i64 ((Zp s:Nat):Int) :: .bool false::u 10::u 0::u 1::u 2::u 3::u 4::u 5::u 6::u 7::u 8::u 9::u 11::u 12::u43::u44::u45::u46::u47::u48::u49::u50::u51::u52::u53::u54::u55::u56::u57::u58::u59::u60::u61::u62::u63::u64::u65::u66::[]).toArray,[]⟩:Act)) [u31,u32,u33,u34,u35,u36,u37,u38,u39,u40,u30,u41,u42,.slice Av (limbs E).length cv,.bool false] [λv X=>v = .slice Av (limbs E).length cv,λv X=>v = .pointer (some ⟨mk,0,none⟩),λv X=>v = .pointer (some ⟨mk,0,none⟩),λv X=>v = .pointer (some ⟨mk,0,none⟩),λv X=>v = .pointer (some ⟨gc,0,none⟩),λv X=>v = .pointer (some ⟨L,1,none⟩),λv X=>v = .slice N x.right.length P,λv X=>v = .int .i64 (n:Int),λv X=>∃Z ag ad d1,v = .agg #[.slice Z ag ad,.bool d1]/\Z1 X Z ag ad d1 y,λv X=>∃o z,v = .tuple #[.slice o (limbs F).length z,.bool bb]/\Zq .u32 X o (limbs F).length z (limbs F),λv X=>∃o z,v = .tuple #[.slice o (limbs F).length z,.bool bb]/\Zq .u32 X o (limbs F).length z (limbs F),λv X=>∃o z,v = .slice o (limbs F).length z/\Zq .u32 X o (limbs F).length z (limbs F),λv X=>v = .bool bb,λv X=>∃o z,v = .slice o (limbs F).length z/\Zq .u32 X o (limbs F).length z (limbs F),λv X=>v = .bool bb] (l:=[_,_,_,_,_,_,_,_,_,_,_,_,_,_,_]) AB AB rfl ⟨⟨O.out.bk.below (AK _ _).drew,Off.of_below (AK _ _).drew⟩,λ_=>rfl⟩ ⟨λ_ _ _ h _=>h,λ_ _ _ h _=>h,λ_ _ _ h _=>h,λ_ _ _ h _=>h,λ_ _ _ h _=>h,λ_ _ _ h _=>h,λ_ _ _ h _=>h,λ_ _ _ h _=>h,(λv X W ⟨Z,ag,ad,d1,e,h⟩ I=>⟨Z,ag,ad,d1,e,h.kept I⟩),(λv X W ⟨o,z,e,h⟩ I=>⟨o,z,e,h.kept I⟩),(λv X W ⟨o,z,e,h⟩ I=>⟨o,z,e,h.kept I⟩),(λv X W ⟨o,z,e,h⟩ I=>⟨o,z,e,h.kept I⟩),λ_ _ _ h _=>h,(λv X W ⟨o,z,e,h⟩ I=>⟨o,z,e,h.kept I⟩),λ_ _ _ h _=>h,trivial⟩ ?_ ?_
 ·refine Zw.cons rfl (λ_ _=>rfl) (λQ g b u X B J a d K C=>?_) ?_
  ·have fn:b 13=false:=AZ.2 λh=>by
    have h0:=B 13 _ rfl h 11 rfl;have h1:=B 11 _ rfl h0 10 rfl;have H:=B 10 _ rfl h1 9 rfl;have h3:=B 9 _ rfl H 0 rfl;exact absurd (J.symm.trans h3) AC
   have fr:u 13=_:=a.2 fn;have D:=λv=>a.2.other 0 v AC;have f:=a.1;clear d a B;generalize u 13=xk at *;subst fr;go_simp;exact C _ () _ ⟨AI _,λ_ _ _=>rfl⟩ ⟨f,D _⟩ rfl
  refine Zw.cons rfl (λ_ _=>rfl) (λQ g b u X B J a d K C=>?_) ?_
  ·have D:=λv=>a.2.other 1 v AC;have f:=a.1;clear d a B;go_simp;exact C _ () _ ⟨AI _,λ_ _ _=>rfl⟩ ⟨f,D _⟩ rfl
  refine Zw.cons rfl (λ_ _=>rfl) (λQ g b u X B J a d K C=>?_) ?_
  ·have p1:u 1=_:=(d 1 rfl).2;have D:=λv=>a.2.other 2 v AC;have f:=a.1;clear d a B;generalize u 1=x1 at *;subst p1;go_simp;exact C _ () _ ⟨AI _,λ_ _ _=>rfl⟩ ⟨f,D _⟩ rfl
  refine Zw.cons rfl (λ_ _=>rfl) (λQ g b u X B J a d K C=>?_) ?_
  ·have p2:u 2=_:=(d 2 rfl).2;have D:=λv=>a.2.other 3 v AC;have f:=a.1;clear d a B;generalize u 2=x2 at *;subst p2;go_simp;exact C _ () _ ⟨AI _,λ_ _ _=>rfl⟩ ⟨f,D _⟩ rfl
  refine Zw.cons rfl (λ_ _=>rfl) (λQ g b u X B J a d K C=>?_) ?_
  ·have p3:u 3=_:=(d 3 rfl).2;have D:=λv=>a.2.other 4 v AC;have f:=a.1;have gX:=f.2.blk O.out.box (O.out.bk.not_map O.out.box);have y0:X.cell? ⟨mk,0,none⟩=some (.pointer (some ⟨gc,0,none⟩)):=gX.cell 0;have yl:=gX.lt;clear gX;clear d a B;generalize u 3=x3 at *;subst p3;go_simp;exact C _ () _ ⟨AI _,λ_ _ _=>rfl⟩ ⟨f,D _⟩ rfl
  refine Zw.cons rfl (λ_ _=>rfl) (λQ g b u X B J a d K C=>?_) ?_
  ·have D:=λv=>a.2.other 5 v AC;have f:=a.1;clear d a B;go_simp;exact C _ () _ ⟨AI _,λ_ _ _=>rfl⟩ ⟨f,D _⟩ rfl
  refine Zw.cons rfl (λ_ _=>rfl) (λQ g b u X B J a d K C=>?_) ?_
  ·have p5:u 5=_:=(d 5 rfl).2;have D:=λv=>a.2.other 6 v AC;have f:=a.1;have gX:=f.2.blk az.out (O.out.bk.not_map az.out);have y0:X.cell? ⟨L,1,none⟩=some (.slice N x.right.length P):=gX.cell 1;have yl:=gX.lt;clear gX;clear d a B;generalize u 5=x5 at *;subst p5;go_simp;exact C _ () _ ⟨AI _,λ_ _ _=>rfl⟩ ⟨f,D _⟩ rfl
  refine Zw.cons rfl (λ_ _=>rfl) (λQ g b u X B J a d K C=>?_) ?_
  ·have D:=λv=>a.2.other 7 v AC;have f:=a.1;clear d a B;go_simp;exact C _ () _ ⟨AI _,λ_ _ _=>rfl⟩ ⟨f,D _⟩ rfl
  refine Zw.cons rfl (λ_ _=>rfl) (λQ g b u X B J a d K C=>?_) ?_
  ·have p4:u 4=_:=(d 4 rfl).2;have p6:u 6=_:=(d 6 rfl).2;have p7:u 7=_:=(d 7 rfl).2;have D:=λv=>a.2.other 8 v AC;have f:=a.1;have CC:=Zzz HB.out ch.out cp.out S' X N P f.1 (λb I=>AJ (O.out.lt b I) f.2.size) (ce.out.below f.1.base);clear d a B;generalize u 4=x4 at *;subst p4;generalize u 6=x6 at *;subst p6;generalize u 7=x7 at *;subst p7;go_simp;go_at_call 125;(with_reducible refine CC.mono ?_);rintro e W⟨fj,c7,Z,ag,ad,d1,rfl,hv⟩;rw[Hy.out] at hv;go_simp;exact C _ () _ (f.1.keep c7) ⟨⟨fj,f.2.map_trans c7⟩,D _⟩ ⟨Z,ag,ad,d1,rfl,hv⟩
  refine Zw.cons rfl (λ_ _=>rfl) (λQ g b u X B J a d K C=>?_) ?_
  ·have p0:u 0=_:=(d 0 rfl).2;obtain⟨Z,ag,ad,d1,p8,hv⟩:=(d 8 rfl).2;have D:=λv=>a.2.other 9 v AC;have f:=a.1;have c6:=bm.out.kept (O.out.bk.keep f.2);have CC:=Zu6 Av cv E Z ag ad d1 y X c6 d6.out hv;clear d a B;generalize u 0=x0 at *;subst p0;generalize u 8=x8 at *;subst p8;go_simp;go_at_call 129;(with_reducible refine CC.mono ?_);rintro e W⟨I,bf⟩;obtain⟨o,z,rfl,V⟩:∃o z,e = .returned (.tuple #[.slice o (limbs F).length z,.bool bb])/\Zq .u32 W o (limbs F).length z (limbs F):=by
    rcases a5.out with ⟨h1,rfl,rfl⟩ | ⟨h1,rfl,rfl⟩ <;> rcases bf with ⟨H,rfl⟩ | ⟨H,A9,c9,rfl,h3⟩
    ·exact⟨_,_,rfl,c6.below I⟩
    ·omega
    ·omega
    exact⟨_,_,rfl,h3⟩
   go_simp;exact C _ () _ (.of_below I) ⟨⟨f.1.below I,f.2.map_trans (Off.of_below I)⟩,D _⟩ ⟨o,z,rfl,V⟩
  refine Zw.cons rfl (λ_ _=>rfl) (λQ g b u X B J a d K C=>?_) ?_
  ·obtain⟨o,z,p9,V⟩:=(d 9 rfl).2;have D:=λv=>a.2.other 10 v AC;have f:=a.1;clear d a B;generalize u 9=x9 at *;subst p9;go_simp;exact C _ () _ ⟨AI _,λ_ _ _=>rfl⟩ ⟨f,D _⟩ ⟨o,z,rfl,V⟩
  refine Zw.cons rfl (λ_ _=>rfl) (λQ g b u X B J a d K C=>?_) ?_
  ·obtain⟨o,z,b4,V⟩:=(d 10 rfl).2;have D:=λv=>a.2.other 11 v AC;have f:=a.1;clear d a B;generalize u 10=f7 at *;subst b4;go_simp;exact C _ () _ ⟨AI _,λ_ _ _=>rfl⟩ ⟨f,D _⟩ ⟨o,z,rfl,V⟩
  refine Zw.cons rfl (λ_ _=>rfl) (λQ g b u X B J a d K C=>?_) ?_
  ·obtain⟨o,z,b4,V⟩:=(d 10 rfl).2;have D:=λv=>a.2.other 12 v AC;have f:=a.1;clear d a B;generalize u 10=f7 at *;subst b4;go_simp;exact C _ () _ ⟨AI _,λ_ _ _=>rfl⟩ ⟨f,D _⟩ rfl
  refine Zw.cons rfl (λ_ _=>rfl) (λQ g b u X B J a d K C=>?_) ?_
  ·obtain⟨o,z,fz,V⟩:=(d 11 rfl).2;have D:=λv=>a.2.done 13 v;have f:=a.1;clear d a B;generalize u 11=g5 at *;subst fz;go_simp;exact C _ () _ ⟨AI _,λ_ _ _=>rfl⟩ ⟨f,D _⟩ ⟨o,z,rfl,V⟩
  refine Zw.cons rfl (λ_ _=>rfl) (λQ g b u X B J a d K C=>?_) ?_
  ·have f0:u 12=_:=(d 12 rfl).2;have D:=λv=>a.2.other 14 v AC;have f:=a.1;clear d a B;generalize u 12=g6 at *;subst f0;go_simp;exact C _ () _ ⟨AI _,λ_ _ _=>rfl⟩ ⟨f,D _⟩ rfl
  exact Zw.nil
 intro _ b9 u X9 fm ak d;obtain⟨ak,ft⟩:=ak;clear fm ft;obtain⟨o,z,dq,de⟩:=d 13 AC;have dr:u 14=_:=d 14 AC;clear d b9;rw[dq,dr];clear dq dr;generalize u 0=w0 at *;generalize u 1=w1 at *;generalize u 2=w2 at *;generalize u 3=w3 at *;generalize u 4=w4 at *;generalize u 5=w5 at *;generalize u 6=w6 at *;generalize u 7=w7 at *;generalize u 8=w8 at *;generalize u 9=w9 at *;generalize u 10=gq at *;generalize u 11=gr at *;generalize u 12=gs at *;clear u;have T:=LH (O.out.off ak.1 ak.2);have bl:=LH (cf.out.trans (Zu.of_int (O.out.bk.keep ak.2)));have bo:=LH (ak.2.blk az.out (O.out.bk.not_map az.out));have cm:=LH de;have dn:Z0 (Zv G) G.rules (Zp s) (j+1) n=Z0 (Zv G) G.rules (Zp s) j n+y:=by
  rw[cu.out j x Hx.out,if_pos (by have:=d8.out;omega),Hy.out]
 have df:j=R->E<y:=by
  intro e;subst e;have e1:=Hx.out.symm.trans bs.out;injection e1 with e1;subst e1;have h1:=ao.out;have H:=a6.out;have h3:=Hq.out;have h4:=Hy.out;omega
 have dc:j<R->y<=E:=by
  intro dd;have h1:=cq.out (j+1) AA;have H:=ao.out;have h3:=a6.out;omega
 have d7:=LH dn;have d4:=LH df;have d3:=LH dc;clear dn df dc z0 z1 z2 cl az O bm ak de;rcases a5.out with ⟨dd,rfl,rfl⟩ | ⟨gk,rfl,rfl⟩
 case inr =>
  have fq:j<R:=by
   rcases BD j R with h | h
   ·exact h
   have:=d4.out AA;omega
  have br:Hid (r=Z0 (Zv G) G.rules (Zp s) (j+1) n+(E-y)):=LH (by
   have h1:=d7.out;have H:=ao.out;omega)
  clear a5;go_wp2_with fail;go_roundw
  case rel=>exact⟨j+1,E-y,o,z,S',A',c',AF,AA,rfl,br,cm,T,bl⟩
  simp[intOf] <;> omega
 obtain rfl:j=R:=by
  rcases BD j R with h | h
  ·have:=d3.out h;omega
  omega
 obtain rfl:x=x0:=by
  have e1:=Hx.out.symm.trans bs.out;injection e1
 obtain rfl:F=q:=by
  have h1:=ao.out;have H:=a6.out;omega
 clear a5 dd;have g0:X9.cell? ⟨mk,0,none⟩=some (.pointer (some ⟨gc,0,none⟩)):=T.out.box.cell 0;have g2:X9.cell? ⟨mk,1,none⟩=some (.slice A' cs.length c'):=T.out.box.cell 1;have gl:=T.out.box.lt;have gj:=T.out.few;by_cases be:cs.length=300
 case pos =>
  have fo:((cs.length:Int)==300)=true:=by rw[be];rfl
  have bp:=LH be;clear be;go_wp2_with fail;go_ret;exact⟨bl.out,.inr ⟨by rw[bp.out,AW];omega,rfl,T.out.bk.base⟩⟩
 have fo:((cs.length:Int)==300)=false:=by
  rw[AP];omega
 have bp:=LH be;have d0:Hid ((prog.info? 3).map (λi=>(i.zero,i.size,i.bytes))=some (some (.int .i64 0),1,8)):=LH AB;have z1:X9.cell? ⟨L,1,none⟩=some (.slice N x.right.length P):=bo.out.cell 1;have zl:=bo.out.lt;have bx:U.heap.size<=X9.heap.size:=T.out.bk.base.size;have fu:cs.length+1<=maxLen:=by unfold maxLen;omega
 go_upto_region 11 with (first
  | (at_builtin;refine Nk rfl _ _ 27 rfl U.heap.size 8 underlying27 d0.out A' cs.length c' (cs.map λi:Nat=>(i:Int)) rfl T.out.row (j:Int) rfl fu AA bx ?_;intro A5 c5 w5 dk bz fl
     have al:=T.out.push (i:=j) (Zy _ _) dk bz bp.out;have p1:w5.cell? ⟨mk,1,none⟩=some (.slice A' cs.length c'):=al.1.cell 1;have p0:w5.cell? ⟨mk,0,none⟩=some (.pointer (some ⟨gc,0,none⟩)):=al.1.cell 0;have p2:=al.1.frozen 1;have p3:=al.1.lt;have HP:=LH al.2;have cd:Hid (Blk (w5.setCell ⟨mk,1,none⟩ (.slice A5 (cs.length+1) c5)) L 52 #[.int .i64 x.left,.slice N x.right.length P,.int .i64 x.prec]):=LH (by
      have c8:=bo.out.ext (Zy X9 (.cells #[.int .i64 (j:Int)] 3));have bw:=(Off.of_grown bz).blk c8 λe=>by
       obtain⟨_,_,v,hv⟩:=(T.out.below (Zy X9 (.cells #[.int .i64 (j:Int)] 3))).row.blk e;exact absurd (hv.same_ty c8) AC
      exact bw.other mk 1 _ λe=>by
       rw[e] at bw;exact absurd (bw.same_ty al.1) AC)
     clear al dk bz fl))
 generalize w5.setCell ⟨mk,1,none⟩ (.slice A5 (cs.length+1) c5)=W6 at *;clear p0 p1 p2 p3 z1 zl g0 g2 gl;have hi:W6.cell? ⟨L,1,none⟩=some (.slice N x.right.length P):=cd.out.cell 1;have hk:=cd.out.lt;have CF:=LH (dw.out mk (cs++[j]) x.right n F t1 N P o z W6 (by rw[AW] at fx;omega) HU.out dx.out (by have h1:=cw.out;have H:=co.out;omega) ch.out cp.out ce.out (cm.out.nkept HP.out.2) HP.out.1);go_wp2_with (first
  | (go_at_call 130
     (with_reducible refine CF.out.mono ?_);rintro e W7⟨fs,dg⟩;obtain⟨bv,rfl,bf⟩:∃bv,e = .returned (.bool bv)/\(((cs++[j]).length+t1.length<=300/\bv=true/\MkAt U ⟨gc,gt⟩ ⟨a1,n1,c1,a2,n2,c2,some ⟨bq,oq,none⟩,n3,c3⟩ G mk (cs++[j]++t1) W7)\/(300<(cs++[j]).length+t1.length/\bv=false/\Below U.heap.size U W7)):=by
      rcases dg with ⟨h1,rfl,H⟩ | ⟨h1,rfl,H⟩
      ·exact⟨true,rfl,.inl ⟨h1,rfl,H⟩⟩
      exact⟨false,rfl,.inr ⟨h1,rfl,H⟩⟩
     have d5:=LH bf;clear bf dg))
 go_ret;refine⟨bl.out.trans (HP.out.2.trans fs),?_⟩;have dh:=d5.out;rw[AS,CV] at dh;rw[AW];rcases dh with ⟨h1,rfl,H⟩ | ⟨h1,rfl,H⟩
 ·rw[DQ] at H;exact .inl ⟨AA,rfl,by rw[<-fv];exact H⟩
 exact .inr ⟨AA,rfl,H⟩
theorem Zw0{W:World}{h:GH}{G:Gr}(hB:BkG W h G)(hP:Xq G)(m:Nat)(HT:TC W k h G m):FC W k h G m:=by
 intro mk cs l n r t Al cl Ar cr w d9 hU dk du B hh hl hr a;have HB:=LH hB;have HP:=LH hP;have fh:=LH HT;have HU:=LH hU;have al:=LH dk;have a0:=LH du;have HK:=LH B;have Hh:=LH hh;have HL:=LH hl;have HR:=LH hr;have O:=LH a;clear hB hP HT hU dk du B hh hl hr a;go_enter func130,ntmps130;go_wp2_with fail;go_loopw [1,2,3] (λv1 v2 v3 wr=>∃(Z:List Int) (Al:Option Addr) (cl E r':Nat) (R:Option Addr) (T:Nat) (t' V:List Nat),v1 = .slice Al Z.length cl/\v2 = .int .i64 (E:Int)/\v3 = .slice R (limbs r').length T/\Hid (UnL G Z E r' t')/\Hid (InG G Z)/\Hid (Zx (Zv G) Z E<big)/\Hid (J1 Z E)/\Hid (∀s∈Z,G.has s=true)/\Hid (Za .i64 W Al Z.length cl Z)/\Hid (Zq .u32 wr R (limbs r').length T (limbs r'))/\Hid (MkAt W k h G mk V wr)/\Hid (Zu w wr)/\Hid (V++t'=cs++t)/\Hid (t'.length<=m)) (λv1 _ _ _=>slLen v1)
 case atStart=>exact⟨l,Al,cl,n,r,Ar,cr,t,cs,rfl,rfl,rfl,HU,al,a0,HK,Hh,HL,HR,O,LH (Zu.refl _),LH rfl,LH d9⟩
 clear HU al a0 HK Hh HL HR O d9;obtain⟨Z,gp,Y,E,r',R,T,t',V,rfl,rfl,rfl,HU,al,a0,HK,Hh,HL,HN,bl,b4,bo,cd⟩:=hrel;rcases Z with _ | ⟨s,I⟩
 case nil =>
  have e:t'=[]:=by
   have:=HU.out;cases this;rfl
  subst e;go_wp2_with fail;go_ret;obtain⟨S,A,c,M⟩:=bl.out;have dv:=bo.out;rw[DK] at dv;subst dv;have:=M.few;rw[AS] at this;exact⟨b4.out,.inl ⟨this,rfl,bl.out⟩⟩
 obtain⟨kk,q,L,t1,t2,fx,d6,cm,hq,ds,rfl,d4,a3⟩:=HU.out.parts HP.out al.out;obtain⟨dq,hF,d5⟩:=Zxk fx hq cm a0.out;have dz:=HU.out.lt HP.out al.out;have cc:=LH d6;have de:=LH cm;have Hq:=LH hq;have ca:=LH ds;have fm:=LH d4;have fl:=LH a3;have fi:=LH dq;have HF:=LH hF;have fn:=LH d5;have dd:=LH dz;have g2:=HK.out.n;have f0:=HK.out.len;have fz:=HL.out.cap;clear d6 cm hq ds d4 a3 dq hF d5 dz;obtain⟨S,A,c,dl⟩:=bl.out;have c3:=LH dl;clear bl dl;obtain⟨ab,ao,s',rfl,dt,df,f2⟩:=HL.out.get (j:=0) AE;obtain rfl:s=s':=by
  have:=df.out;simpa using this
 have br:=HL.out.tail1;rw[show (s::I).length-1=I.length from rfl] at br;obtain⟨At,fr⟩:∃At:Option Addr,(if Y=1 then some (⟨ab,ao,none⟩:Addr) else some ⟨ab,ao+1,none⟩)=At:=⟨_,rfl⟩;rw[fr] at br;have bx:=LH br;clear br df;simp only[AW] at f0 fz ⊢;have gw:(1:Int)<=(Y:Int):=AA
 have g1:(1:Int)<=(I.length:Int)+1:=AA
 go_upto_region 4 with fail;go_loopw [3,9,10] (λv3 v9 gk wz=>∃(j H:Nat) (R:Option Addr) (T:Nat),v3 = .slice R (limbs H).length T/\v9 = .int .i64 (j:Int)/\gk = .bool (decide (j<=kk))/\j<=kk+1/\Hid (j<=kk->r'=Yv (Zv G) s I E j+H)/\Hid (j=kk+1->H=q*Zx (Zv G) I (E-kk)+L)/\Hid (Zq .u32 wz R (limbs H).length T (limbs H))/\Hid (Me W k h G mk V S A c wz)/\Hid (Zu w wz)) (λ_ i _ _=>kk+2-(intOf i).toNat)
 case atStart=>exact⟨0,r',R,T,rfl,rfl,AE,AU _,LH (λ_=>by rw[Ug];omega),LH (λh=>AA),HN,c3,b4⟩
 clear HN c3 b4;obtain⟨j,H,R,T,rfl,rfl,rfl,fv,Hj,dc,HN,O,bj⟩:=hrel;by_cases hj:j<=kk
 case pos =>
  have be:=Hj.out hj;have cp:H<big:=by have:=dd.out;have:=a0.out;omega
  obtain⟨x,hx⟩:∃x,Zv G s j*Zx (Zv G) I (E-j)=x:=⟨_,rfl⟩;have d7:Yv (Zv G) s I E (j+1)=Yv (Zv G) s I E j+x:=by rw[Xy,hx]
  have M:=O.out;have CP:Calls prog 176 #[.pointer (some ⟨k.c,0,none⟩),.slice (some ⟨ab,ao,none⟩) (I.length+1) Y,.int .i64 (j:Int),.int .i64 (E:Int)] wr (Zuw W k h G S wr x):=by
   have h1:=tr_pair HB.out (s:=s) (l:=I) (kk:=j) (n:=E) HK.out AA Hh.out S wr (some ⟨ab,ao,none⟩) Y M.bk M.lt HL.out;rw[fsingle,hx] at h1;exact h1
  have CP:=LH CP;have bp:=LH cp;have g0:wr.cell? ⟨mk,0,none⟩=some (.pointer (some ⟨k.c,0,none⟩)):=M.box.cell 0;have gl:=M.box.lt;by_cases gy:j<kk
  case pos =>
   have HX:Hid (x<=H):=LH (by
    have h1:=Wz (Zv G) s I E (show j+1<=kk by omega);have P:=cc.out;omega)
   have fo:Hid (r'=Yv (Zv G) s I E (j+1)+(H-x)):=LH (by have:=HX.out;omega);clear be cp hx d7 M;go_wp2_with (first
    | (go_at_call 176
       (with_reducible refine CP.out.mono ?_);rintro e W2⟨ba,au,A8,n8,c8,d8,rfl,bf⟩;have av:=O.out.bk.keep au;have b5:=LH (O.out.off ba au);have bm:=LH (HN.out.kept av);have b0:=LH (bj.out.trans (Zu.of_int av));have CO:=LH (Zu6 R T H A8 n8 c8 d8 x W2 bm.out bp.out bf);clear ba au bf av)
    | (go_at_call 129
       (with_reducible refine CO.out.mono ?_);rintro e W3⟨ah,bd⟩;obtain⟨A9,c9,rfl,d0⟩:∃A9 c9,e = .returned (.tuple #[.slice A9 (limbs (H-x)).length c9,.bool true])/\Zq .u32 W3 A9 (limbs (H-x)).length c9 (limbs (H-x)):=by
        rcases bd with ⟨P,rfl⟩ | ⟨P,A9,c9,rfl,h3⟩
        ·have:=HX.out;omega
        exact⟨A9,c9,rfl,h3⟩
       have b6:=LH (b5.out.below ah);have b8:=LH d0;have b1:=LH (b0.out.trans (Zu.of_below ah));clear ah bd d0))
   go_roundw
   case rel=>exact⟨j+1,H-x,A9,c9,rfl,AF,by rw[DY (AA:j+1<=kk)],AA,LH (λ_=>fo.out),LH (λh=>AA),b8,b6,b1⟩
   simp[intOf] <;> omega
  obtain rfl:j=kk:=AA
  have a8:Hid (H=q*Zx (Zv G) I (E-j)+L):=LH (by have:=cc.out;omega);have HX:Hid (H<x):=LH (by have h1:=fn.out;have P:=a8.out;omega);clear be cp hx d7 M;go_wp2_with (first
   | (go_at_call 176
      (with_reducible refine CP.out.mono ?_);rintro e W2⟨ba,au,A8,n8,c8,d8,rfl,bf⟩;have av:=O.out.bk.keep au;have b5:=LH (O.out.off ba au);have bm:=LH (HN.out.kept av);have b0:=LH (bj.out.trans (Zu.of_int av));have CO:=LH (Zu6 R T H A8 n8 c8 d8 x W2 bm.out bp.out bf);clear ba au bf av)
   | (go_at_call 129
      (with_reducible refine CO.out.mono ?_);rintro e W3⟨ah,bd⟩;obtain rfl:e = .returned (.tuple #[.slice R (limbs H).length T,.bool false]):=by
       rcases bd with ⟨P,rfl⟩ | ⟨P,A9,c9,rfl,h3⟩
       ·rfl
       have:=HX.out;omega
      have b6:=LH (b5.out.below ah);have b8:=LH (bm.out.below ah);have b1:=LH (b0.out.trans (Zu.of_below ah));clear ah bd))
  go_roundw
  case rel=>exact⟨j+1,H,R,T,rfl,AF,by rw[BR (AA:¬j+1<=j)],AA,LH (λh=>AA),LH (λ_=>a8.out),b8,b6,b1⟩
  simp[intOf] <;> omega
 obtain rfl:j=kk+1:=AA
 obtain rfl:=dc.out rfl;clear hj fv Hj dc;generalize be:q*Zx (Zv G) I (E-kk)+L=H at *;have a8:=LH be;clear be;have gz:IntKind.i64.wrap ((kk:Int)+1-1)=(kk:Int):=by rw[BT _ AA];omega
 obtain⟨F,a9⟩:∃F,Hid (Zx (Zv G) I (E-kk)=F):=⟨_,LH rfl⟩;have c0:Hid (F<big):=LH (by rw[<-a9.out];exact HF.out);have cz:Hid (0<F):=LH (by rw[<-a9.out];have:=de.out;omega);have co:H=q*F+L:=by rw[<-a9.out];exact a8.out.symm
 have cn:L<F:=by rw[<-a9.out];exact de.out
 have fj:Hid (H / F=q):=LH (by rw[co,Ej,Nat.mul_add_div cz.out,Nat.div_eq_of_lt cn,DJ]);have fk:Hid (H % F=L):=LH (by rw[co,Ej,Nat.mul_add_mod,Ei cn]);have bp:Hid (H<big):=LH (by have h1:=cc.out;have P:=dd.out;have h3:=a0.out;have h4:=a8.out;omega);have K2:Hid (J1 I (E-kk)):=LH ⟨λx hx=>HK.out.sym x (.tail _ hx),AA,AA⟩;have H2:Hid (∀x∈I,G.has x=true):=LH λx hx=>Hh.out x (.tail _ hx);clear co cn;go_upto_region 8 with fail;generalize decide (kk+1<=kk)=dh at *;generalize ((kk+1:Nat):Int)=f3 at *;refine Yi (Γ:=Unit) (λ_ b u X=>(Wd W k h G S X/\Off k.map wr X)/\Do b u 99 undef) (λX U=>Zf X U) () (λu=>(⟨(.pointer (some ⟨mk,0,none⟩) :: .slice (some ⟨ab,ao,none⟩) (I.length+1) Y :: .int .i64 (E:Int) :: .slice R (limbs H).length T::undef::undef::undef::undef::u8 :: .int .i64 (kk:Int) :: .bool dh::u 17::u 18::u 19 :: .slice (some ⟨ab,ao,none⟩) (I.length+1) Y :: .int .i64 ((I.length:Int)+1) :: .bool true :: .bool dh::u18::u19::u20::u21::u22::u23::u24::u25::u26::u27::u28::u29::u30::u31::u32 :: .int .i64 f3 :: .int .i64 (kk:Int)::u 13::u 0::u 1::u 2::u 3::u 4::u 5::u 6::u 7::u 8::u 9::u 10::u 11::u 12::u 14::u 15::u 16::u52::u53::u54::u55::u56::u57::u58::u59::u60::u61::u62::u63::u64::u65::u66::u67::u68::u69::u70::u71::u72::[]).toArray,[]⟩:Act)) [u36,u37,u38,u39,u40,u41,u42,u43,u44,u45,u46,u47,u48,u35,u49,u50,u51,u11,u12,u13] [λv X=>v = .slice R (limbs H).length T,λv X=>v = .pointer (some ⟨mk,0,none⟩),λv X=>v = .pointer (some ⟨mk,0,none⟩),λv X=>v = .pointer (some ⟨mk,0,none⟩),λv X=>v = .pointer (some ⟨k.c,0,none⟩),λv X=>v = .slice (some ⟨ab,ao,none⟩) (I.length+1) Y,λv X=>v = .slice At I.length (Y-1),λv X=>v = .int .i64 (E:Int),λv X=>v = .int .i64 (kk:Int),λv X=>v = .int .i64 ((E-kk:Nat):Int),λv X=>∃A1 n1 c1 d1,v = .agg #[.slice A1 n1 c1,.bool d1]/\Z1 X A1 n1 c1 d1 F,λv X=>∃f o,v = .slice f (limbs F).length o/\Zq .u32 X f (limbs F).length o (limbs F),λv X=>∃f o Ar cr z,v = .tuple #[.slice f (limbs q).length o,.slice Ar (limbs L).length cr,.int .i64 z]/\Zq .u32 X f (limbs q).length o (limbs q)/\Zq .u32 X Ar (limbs L).length cr (limbs L),λv X=>∃f o Ar cr z,v = .tuple #[.slice f (limbs q).length o,.slice Ar (limbs L).length cr,.int .i64 z]/\Zq .u32 X f (limbs q).length o (limbs q)/\Zq .u32 X Ar (limbs L).length cr (limbs L),λv X=>∃f o,v = .slice f (limbs q).length o/\Zq .u32 X f (limbs q).length o (limbs q),λv X=>∃f o,v = .slice f (limbs L).length o/\Zq .u32 X f (limbs L).length o (limbs L),λv X=>∃z:Int,v = .int .i64 z,λv X=>∃f o,v = .slice f (limbs q).length o/\Zq .u32 X f (limbs q).length o (limbs q),λv X=>∃f o,v = .slice f (limbs L).length o/\Zq .u32 X f (limbs L).length o (limbs L),λv X=>∃z:Int,v = .int .i64 z] (l:=[_,_,_,_,_,_,_,_,_,_,_,_,_,_,_,_,_,_,_,_]) AB AB rfl ⟨⟨O.out.bk.below (AK _ _).drew,Off.of_below (AK _ _).drew⟩,λ_=>rfl⟩ ⟨λ_ _ _ h _=>h,λ_ _ _ h _=>h,λ_ _ _ h _=>h,λ_ _ _ h _=>h,λ_ _ _ h _=>h,λ_ _ _ h _=>h,λ_ _ _ h _=>h,λ_ _ _ h _=>h,λ_ _ _ h _=>h,λ_ _ _ h _=>h,(λv X U ⟨A1,n1,c1,d1,e,h⟩ J=>⟨A1,n1,c1,d1,e,h.kept J⟩),(λv X U ⟨f,o,e,h⟩ J=>⟨f,o,e,h.kept J⟩),(λv X U ⟨f,o,Ar,cr,z,e,h1,P⟩ J=>⟨f,o,Ar,cr,z,e,h1.kept J,P.kept J⟩),(λv X U ⟨f,o,Ar,cr,z,e,h1,P⟩ J=>⟨f,o,Ar,cr,z,e,h1.kept J,P.kept J⟩),(λv X U ⟨f,o,e,h⟩ J=>⟨f,o,e,h.kept J⟩),(λv X U ⟨f,o,e,h⟩ J=>⟨f,o,e,h.kept J⟩),(λv X U h _=>h),(λv X U ⟨f,o,e,h⟩ J=>⟨f,o,e,h.kept J⟩),(λv X U ⟨f,o,e,h⟩ J=>⟨f,o,e,h.kept J⟩),(λv X U h _=>h),trivial⟩ ?_ ?_
 ·refine Zw.cons rfl (λ_ _=>rfl) (λQ g b u X D N a d K B=>?_) ?_
  ·have C:=λv=>a.2.other 0 v AC;have y:=a.1;clear d a D;go_simp;exact B _ () _ ⟨AI _,λ_ _ _=>rfl⟩ ⟨y,C _⟩ rfl
  refine Zw.cons rfl (λ_ _=>rfl) (λQ g b u X D N a d K B=>?_) ?_
  ·have C:=λv=>a.2.other 1 v AC;have y:=a.1;clear d a D;go_simp;exact B _ () _ ⟨AI _,λ_ _ _=>rfl⟩ ⟨y,C _⟩ rfl
  refine Zw.cons rfl (λ_ _=>rfl) (λQ g b u X D N a d K B=>?_) ?_
  ·have p1:u 1=_:=(d 1 rfl).2;have C:=λv=>a.2.other 2 v AC;have y:=a.1;clear d a D;generalize u 1=x1 at *;subst p1;go_simp;exact B _ () _ ⟨AI _,λ_ _ _=>rfl⟩ ⟨y,C _⟩ rfl
  refine Zw.cons rfl (λ_ _=>rfl) (λQ g b u X D N a d K B=>?_) ?_
  ·have p2:u 2=_:=(d 2 rfl).2;have C:=λv=>a.2.other 3 v AC;have y:=a.1;clear d a D;generalize u 2=x2 at *;subst p2;go_simp;exact B _ () _ ⟨AI _,λ_ _ _=>rfl⟩ ⟨y,C _⟩ rfl
  refine Zw.cons rfl (λ_ _=>rfl) (λQ g b u X D N a d K B=>?_) ?_
  ·have p3:u 3=_:=(d 3 rfl).2;have C:=λv=>a.2.other 4 v AC;have y:=a.1;have gX:=y.2.blk O.out.box (O.out.bk.not_map O.out.box);have y0:X.cell? ⟨mk,0,none⟩=some (.pointer (some ⟨k.c,0,none⟩)):=gX.cell 0;have yl:=gX.lt;clear gX;clear d a D;generalize u 3=x3 at *;subst p3;go_simp;exact B _ () _ ⟨AI _,λ_ _ _=>rfl⟩ ⟨y,C _⟩ rfl
  refine Zw.cons rfl (λ_ _=>rfl) (λQ g b u X D N a d K B=>?_) ?_
  ·have C:=λv=>a.2.other 5 v AC;have y:=a.1;clear d a D;go_simp;exact B _ () _ ⟨AI _,λ_ _ _=>rfl⟩ ⟨y,C _⟩ rfl
  refine Zw.cons rfl (λ_ _=>rfl) (λQ g b u X D N a d K B=>?_) ?_
  ·have p5:u 5=_:=(d 5 rfl).2;have C:=λv=>a.2.other 6 v AC;have y:=a.1;clear d a D;generalize u 5=x5 at *;subst p5;go_simp;exact B _ () _ ⟨AI _,λ_ _ _=>rfl⟩ ⟨y,C _⟩ rfl
  refine Zw.cons rfl (λ_ _=>rfl) (λQ g b u X D N a d K B=>?_) ?_
  ·have C:=λv=>a.2.other 7 v AC;have y:=a.1;clear d a D;go_simp;exact B _ () _ ⟨AI _,λ_ _ _=>rfl⟩ ⟨y,C _⟩ rfl
  refine Zw.cons rfl (λ_ _=>rfl) (λQ g b u X D N a d K B=>?_) ?_
  ·have C:=λv=>a.2.other 8 v AC;have y:=a.1;clear d a D;go_simp;exact B _ () _ ⟨AI _,λ_ _ _=>rfl⟩ ⟨y,C _⟩ rfl
  refine Zw.cons rfl (λ_ _=>rfl) (λQ g b u X D N a d K B=>?_) ?_
  ·have p7:u 7=_:=(d 7 rfl).2;have p8:u 8=_:=(d 8 rfl).2;have C:=λv=>a.2.other 9 v AC;have y:=a.1;have hw:IntKind.i64.wrap ((E:Int)-(kk:Int))=((E-kk:Nat):Int):=by rw[BT _ AA];omega
   clear d a D;generalize u 7=x7 at *;subst p7;generalize u 8=x8 at *;subst p8;go_simp;exact B _ () _ ⟨AI _,λ_ _ _=>rfl⟩ ⟨y,C _⟩ (by first | rfl | rw[hw])
  refine Zw.cons rfl (λ_ _=>rfl) (λQ g b u X D N a d K B=>?_) ?_
  ·have p4:u 4=_:=(d 4 rfl).2;have p6:u 6=_:=(d 6 rfl).2;have p9:u 9=_:=(d 9 rfl).2;have C:=λv=>a.2.other 10 v AC;have y:=a.1;have CC:=Zzz HB.out K2.out H2.out S X At (Y-1) y.1 (λb J=>AJ (O.out.lt b J) y.2.size) (bx.out.below y.1.base);clear d a D;generalize u 4=x4 at *;subst p4;generalize u 6=x6 at *;subst p6;generalize u 9=x9 at *;subst p9;go_simp;go_at_call 125;(with_reducible refine CC.mono ?_);rintro e U⟨fs,dn,A1,n1,c1,d1,rfl,hv⟩;rw[a9.out] at hv;go_simp;exact B _ () _ (y.1.keep dn) ⟨⟨fs,y.2.map_trans dn⟩,C _⟩ ⟨A1,n1,c1,d1,rfl,hv⟩
  refine Zw.cons rfl (λ_ _=>rfl) (λQ g b u X D N a d K B=>?_) ?_
  ·obtain⟨A1,n1,c1,d1,f5,hv⟩:=(d 10 rfl).2;have C:=λv=>a.2.other 11 v AC;have y:=a.1;have dm:Zq .u32 X A1 n1 c1 (limbs F):=by
    have h1:=hv.2;rwa [Z7 c0.out] at h1
   obtain rfl:=dm.len;clear d a D;generalize u 10=hy at *;subst f5;go_simp;exact B _ () _ ⟨AI _,λ_ _ _=>rfl⟩ ⟨y,C _⟩ ⟨_,_,rfl,dm⟩
  refine Zw.cons rfl (λ_ _=>rfl) (λQ g b u X D N a d K B=>?_) ?_
  ·have p0:u 0=_:=(d 0 rfl).2;obtain⟨f,o,f6,hn⟩:=(d 11 rfl).2;have C:=λv=>a.2.other 12 v AC;have y:=a.1;have ft:=HN.out.kept (O.out.bk.keep y.2);have CC:=nat_quo R _ T (limbs H) f _ o (limbs F) X ft hn (Z9 _) (Z9 _);rw[Zv2 bp.out c0.out cz.out,fj.out,fk.out] at CC;unfold RetQuo at CC;clear d a D;generalize u 0=x0 at *;subst p0;generalize u 11=hz at *;subst f6;go_simp;go_at_call 182;(with_reducible refine CC.mono ?_);rintro e U⟨f,o,Ar,cr,rfl,aw,ax,J⟩;go_simp;exact B _ () _ (.of_below J) ⟨⟨y.1.below J,y.2.map_trans (Off.of_below J)⟩,C _⟩ ⟨f,o,Ar,cr,_,rfl,aw,ax⟩
  refine Zw.cons rfl (λ_ _=>rfl) (λQ g b u X D N a d K B=>?_) ?_
  ·obtain⟨f,o,Ar,cr,z,f7,aw,ax⟩:=(d 12 rfl).2;have C:=λv=>a.2.other 13 v AC;have y:=a.1;clear d a D;generalize u 12=h0 at *;subst f7;go_simp;exact B _ () _ ⟨AI _,λ_ _ _=>rfl⟩ ⟨y,C _⟩ ⟨f,o,Ar,cr,z,rfl,aw,ax⟩
  refine Zw.cons rfl (λ_ _=>rfl) (λQ g b u X D N a d K B=>?_) ?_
  ·obtain⟨f,o,Ar,cr,z,bg,aw,ax⟩:=(d 13 rfl).2;have C:=λv=>a.2.other 14 v AC;have y:=a.1;clear d a D;generalize u 13=fe at *;subst bg;go_simp;exact B _ () _ ⟨AI _,λ_ _ _=>rfl⟩ ⟨y,C _⟩ ⟨_,_,rfl,aw⟩
  refine Zw.cons rfl (λ_ _=>rfl) (λQ g b u X D N a d K B=>?_) ?_
  ·obtain⟨f,o,Ar,cr,z,bg,aw,ax⟩:=(d 13 rfl).2;have C:=λv=>a.2.other 15 v AC;have y:=a.1;clear d a D;generalize u 13=fe at *;subst bg;go_simp;exact B _ () _ ⟨AI _,λ_ _ _=>rfl⟩ ⟨y,C _⟩ ⟨_,_,rfl,ax⟩
  refine Zw.cons rfl (λ_ _=>rfl) (λQ g b u X D N a d K B=>?_) ?_
  ·obtain⟨f,o,Ar,cr,z,bg,aw,ax⟩:=(d 13 rfl).2;have C:=λv=>a.2.other 16 v AC;have y:=a.1;clear d a D;generalize u 13=fe at *;subst bg;go_simp;exact B _ () _ ⟨AI _,λ_ _ _=>rfl⟩ ⟨y,C _⟩ ⟨_,rfl⟩
  refine Zw.cons rfl (λ_ _=>rfl) (λQ g b u X D N a d K B=>?_) ?_
  ·obtain⟨f,o,f8,hn⟩:=(d 14 rfl).2;have C:=λv=>a.2.other 17 v AC;have y:=a.1;clear d a D;generalize u 14=h5 at *;subst f8;go_simp;exact B _ () _ ⟨AI _,λ_ _ _=>rfl⟩ ⟨y,C _⟩ ⟨_,_,rfl,hn⟩
  refine Zw.cons rfl (λ_ _=>rfl) (λQ g b u X D N a d K B=>?_) ?_
  ·obtain⟨f,o,f9,hn⟩:=(d 15 rfl).2;have C:=λv=>a.2.other 18 v AC;have y:=a.1;clear d a D;generalize u 15=h6 at *;subst f9;go_simp;exact B _ () _ ⟨AI _,λ_ _ _=>rfl⟩ ⟨y,C _⟩ ⟨_,_,rfl,hn⟩
  refine Zw.cons rfl (λ_ _=>rfl) (λQ g b u X D N a d K B=>?_) ?_
  ·obtain⟨z,ga⟩:=(d 16 rfl).2;have C:=λv=>a.2.other 19 v AC;have y:=a.1;clear d a D;generalize u 16=h7 at *;subst ga;go_simp;exact B _ () _ ⟨AI _,λ_ _ _=>rfl⟩ ⟨y,C _⟩ ⟨_,rfl⟩
  exact Zw.nil
 intro _ b9 u X9 fu ag d;obtain⟨ag,fw⟩:=ag;clear fu fw;obtain⟨f,o,fb,d2⟩:=d 17 AC;obtain⟨Ar,cr,fc,d3⟩:=d 18 AC;obtain⟨ji,fd⟩:=d 19 AC;clear d b9;rw[fb,fc,fd];clear fb fc fd;generalize u 0=w0 at *;generalize u 1=w1 at *;generalize u 2=w2 at *;generalize u 3=w3 at *;generalize u 4=w4 at *;generalize u 5=w5 at *;generalize u 6=w6 at *;generalize u 7=w7 at *;generalize u 8=w8 at *;generalize u 9=w9 at *;generalize u 10=g6 at *;generalize u 11=g7 at *;generalize u 12=g8 at *;generalize u 13=g9 at *;generalize u 14=ha at *;generalize u 15=hc at *;generalize u 16=hd at *;clear u;have c4:=LH (O.out.off ag.1 ag.2);have b3:=LH (bj.out.trans (Zu.of_int (O.out.bk.keep ag.2)));have fg:=LH d2;have c5:=LH d3;have e0:X9.cell? ⟨ab,ao,none⟩=some (.int .i64 s):=(ag.1.base.cell (p:=⟨ab,ao+0,none⟩) dt).trans f2;have el:=AJ dt ag.1.base.size;have g3:=(HK.out.sym s (AX ..)).1;have g4:=(HK.out.sym s (AX ..)).2;have hw:IntKind.i64.wrap ((E:Int)-(kk:Int))=((E-kk:Nat):Int):=by rw[BT _ AA];omega
 have gq:=ca;have c2:Hid (InG G I):=LH al.out.tail;have fy:kk<=10:=AA
 clear ag d2 d3 O HN bj;by_cases a3:s<0
 case neg =>
  obtain⟨rfl,rfl,rfl⟩:=fm.out AA;have cb:Hid (V++t2=cs++t):=LH (by have:=bo.out;rwa [DG] at this);have ce:Hid (t2.length<=m):=LH (by have:=cd.out;rwa [DG] at this);go_wp2_with fail;go_roundw
  case rel=>exact⟨I,At,Y-1,E-1,L,Ar,cr,t2,V,rfl,AF,rfl,ca,c2,HF,K2,H2,bx,c5,LH ⟨S,A,c,c4.out⟩,b3,cb,ce⟩
  simp[slLen]
 have g5:IntKind.i64.wrap (-1-s)=((Zp s:Nat):Int):=by
  rw[BT _ AA];unfold Zp;omega
 have CT:=fh.out mk V s kk q t1 f o X9 (by have:=cd.out;rw[AS] at this;omega) a3 (al.out s (AX ..) a3) (fl.out a3) fi.out fy fg.out ⟨S,A,c,c4.out⟩;have f1:V.length+(t1.length+t2.length)=cs.length+t.length:=by
  have:=congrArg List.length bo.out;simp only[AS] at this;exact this
 by_cases gx:V.length+t1.length<=300
 case pos =>
  have bv:Hid (Calls prog 77 #[.pointer (some ⟨mk,0,none⟩),.int .i64 (Zp s:Int),.int .i64 (kk:Int),.slice f (limbs q).length o] X9 λe w'=>e = .returned (.bool true)/\Zu X9 w'/\MkAt W k h G mk (V++t1) w'):=LH (CT.mono λe w' hr=>by
   obtain⟨h1,⟨_,P,h3⟩ | ⟨P,_,_⟩⟩:=hr
   ·exact⟨P,h1,h3⟩
   omega)
  have cb:Hid (V++t1++t2=cs++t):=LH (by rw[DQ];exact bo.out);have ce:Hid (t2.length<=m):=LH (by have:=cd.out;rw[AS] at this;omega);clear CT f1;go_wp2_with (first
   | (go_at_call 77
      (with_reducible refine bv.out.mono ?_);rintro e W6⟨rfl,a2,bb⟩;have b7:=LH bb;have ff:=LH (c5.out.nkept a2);have b2:=LH (b3.out.trans a2);clear a2 bb))
  go_roundw
  case rel=>exact⟨I,At,Y-1,E-kk,L,Ar,cr,t2,V++t1,rfl,AF,rfl,ca,c2,HF,K2,H2,bx,ff,b7,b2,cb,ce⟩
  simp[slLen]
 have bv:Hid (Calls prog 77 #[.pointer (some ⟨mk,0,none⟩),.int .i64 (Zp s:Int),.int .i64 (kk:Int),.slice f (limbs q).length o] X9 λe w'=>e = .returned (.bool false)/\Zu X9 w'/\Below W.heap.size W w'):=LH (CT.mono λe w' hr=>by
  obtain⟨h1,⟨P,_,_⟩ | ⟨_,P,h3⟩⟩:=hr
  ·omega
  exact⟨P,h1,h3⟩)
 clear CT;go_wp2_with (first
  | (go_at_call 77
     (with_reducible refine bv.out.mono ?_);rintro e W6⟨rfl,a2,bb⟩;have b7:=LH bb;have b2:=LH (b3.out.trans a2);clear a2 bb))
 go_ret;exact⟨b2.out,.inr ⟨AA,rfl,b7.out⟩⟩
end Go.Proofs.YtggbjdmpjidhgaaGreatDoor
