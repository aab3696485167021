/- ranks: is a rank beyond so many? (walked) -/
import Derived.Test.YtggbjdmpjidhgaaGreatDoorY20
import Derived.Test.YtggbjdmpjidhgaaGreatDoorY21
set_option linter.all false
set_option maxHeartbeats 1500000
set_option maxRecDepth 100000
namespace Go.Proofs.YtggbjdmpjidhgaaGreatDoor
open Go.RowKit Go.Proofs.Tryz
variable{k:BkH}{h:GH}{G:Gr}
theorem tr_mtree{U:World}(hB:BkG U h G)(Y:Xq G)(m:Nat)(HF:FC U k h G m):TC U k h G (m+1):=by
 intro mk cs s n r t Ar cr w fx h0 hl hT da V hr a;obtain⟨R,x0,q,t1,am,dp,hU,dl,rfl⟩:=hT;have hq:q<Zx (Zv G) x0.right n:=hU.lt Y (InG.at Y.fits am);have b1:Z0 (Zv G) G.rules (Zp s) (R+1) n<=Zv G s n:=by
  rw[Uu Y h0 hl];exact Kj _ _ _ _ _
 rw[Y3 _ am,if_pos dp] at b1;have gm:R<G.rules.length:=(AO.1 am).1;have fy:x0.left=(Zp s:Int):=by
  have:=(Y.fits.left x0 (AM am)).1;omega
 have d2:Hid (∀(j:Nat) (x:Rul),G.rules[j]? = some x->J1 x.right n/\(∀s∈x.right,G.has s=true)/\0<=x.left):=LH λj x hx=>by
  have h1:=Bg Y.fits (AM hx) V;exact⟨h1.1,h1.2,(Y.fits.left x (AM hx)).1⟩
 have cu:Hid (∀(j:Nat) (x:Rul),G.rules[j]? = some x->Z0 (Zv G) G.rules (Zp s) (j+1) n=Z0 (Zv G) G.rules (Zp s) j n+(if x.left.toNat=Zp s then Zx (Zv G) x.right n else 0)):=LH λj x hx=>Y3 _ hx _ _;have cq:Hid (∀j,j<=R->Z0 (Zv G) G.rules (Zp s) j n<=Z0 (Zv G) G.rules (Zp s) R n):=LH λj hj=>Vf _ _ _ _ hj;have dx:Hid (InG G x0.right):=InG.at Y.fits am;obtain⟨S,A,c,aq⟩:=a;obtain⟨a1,n1,c1,a2,n2,c2,a3,n3,c3⟩:=h;obtain⟨gc,gt⟩:=k;have fv:n3=G.rules.length:=hB.at_.rules.len.symm;have gi:=hB.at_.rules.cap;have gp:=Y.fits.n3.2;have HB:=LH hB;have dw:=LH HF;have HU:=LH hU;have bs:=LH am;have co:=LH da;have HR:=LH hr;have HM:=LH aq;have cw:=LH b1;have a5:=LH dl;have Hq:=LH hq;have g0:w.cell? ⟨mk,0,none⟩=some (.pointer (some ⟨gc,0,none⟩)):=aq.box.cell 0;have L:=aq.box.lt;have b2:w.cell? ⟨gc,2,none⟩=some (.slice a3 n3 c3):=aq.bk.box.cell 2;have fc:=aq.bk.box.lt;clear hB Y HF hU am dp da hr aq b1 dl hq h0 hl;go_enter func77,ntmps77;go_wp2_with fail;go_loopw [3,21] (λv i wr=>∃(j E:Nat) (Av:Option Addr) (cv:Nat) (S:Nat->Prop) (A:Option Addr) (c:Nat),i = .int .i64 (j:Int)/\j<=R/\v = .slice Av (limbs E).length cv/\Hid (r=Z0 (Zv G) G.rules (Zp s) j n+E)/\Hid (Zq .u32 wr Av (limbs E).length cv (limbs E))/\Hid (Me U ⟨gc,gt⟩ ⟨a1,n1,c1,a2,n2,c2,a3,n3,c3⟩ G mk cs S A c wr)/\Hid (Zu w wr)) (λ_ i _=>n3-(intOf i).toNat)
 case atStart=>exact⟨0,r,Ar,cr,S,A,c,rfl,AV _,rfl,LH (by rw[Qb];omega),HR,HM,LH (Zu.refl _)⟩
 obtain⟨j,E,Av,cv,S',A',c',rfl,hj,rfl,ao,HN,cj,cg⟩:=hrel;clear g0 L b2 fc HM HR;have M:=cj.out;obtain⟨bq,oq,x,N,P,rfl,bd,Hx,q0,q1,q2,c4⟩:=HB.at_.rules.get (j:=j) (by show j<n3;omega);have e0:=(M.bk.base.cell (p:=⟨bq,oq+j*3,none⟩) bd).trans q0;have e1:=(M.bk.base.cell (p:=⟨bq,oq+j*3+1,none⟩) bd).trans q1;have e2:=(M.bk.base.cell (p:=⟨bq,oq+j*3+2,none⟩) bd).trans q2;have bx:=AK bd M.bk.base.size;have ce:=LH c4;have g0:wr.cell? ⟨mk,0,none⟩=some (.pointer (some ⟨gc,0,none⟩)):=M.box.cell 0;have L:=M.box.lt;have bc:=Zy wr (.cells #[.int .i64 x.left,.slice N x.right.length P,.int .i64 x.prec] 52);have ar:=Blk.new wr 52 #[.int .i64 x.left,.slice N x.right.length P,.int .i64 x.prec];have O:=LH (M.below bc);have cf:=LH (cg.trans (Zu.of_below bc));have bm:=LH (HN.below bc);have bh:=d2 j x Hx;have ch:=LH bh.1;have cp:=LH bh.2.1;have gn:=bh.2.2;clear M q0 q1 q2 c4 bc bh cj cg HN;go_upto_region 4 with fail;clear g0 L e0 e1 e2 bx;have dz:Hid (wr.heap.size=wr.heap.size):=rfl;generalize wr.alloc (.cells #[.int .i64 x.left,.slice N x.right.length P,.int .i64 x.prec] 52)=W1 at *;generalize wr.heap.size=L at *;clear dz;have z0:W1.cell? ⟨L,0,none⟩=some (.int .i64 x.left):=ar.cell 0;have z1:W1.cell? ⟨L,1,none⟩=some (.slice N x.right.length P):=ar.cell 1;have z2:W1.cell? ⟨L,2,none⟩=some (.int .i64 x.prec):=ar.cell 2;have cl:=ar.lt;have ay:=LH ar;clear ar;by_cases av:x.left=(Zp s:Int)
 case neg =>
  have fw:(x.left != (Zp s:Int))=true:=by simpa using av
  have fq:j≠R:=by
   rintro rfl;have e:=Hx.symm.trans bs;injection e with e;subst e;exact av fy
  have br:Hid (r=Z0 (Zv G) G.rules (Zp s) (j+1) n+E):=LH (by
   rw[cu j x Hx,if_neg AA];exact ao)
  clear av;go_wp2_with fail;go_roundw
  case rel=>exact⟨j+1,E,Av,cv,S',A',c',AF,AA,rfl,br,bm,O,cf⟩
  simp[intOf] <;> omega
 have fw:(x.left != (Zp s:Int))=false:=by simpa using av
 have d8:=LH av;obtain⟨y,Hy⟩:∃y,Hid (Zx (Zv G) x.right n=y):=⟨_,LH rfl⟩;obtain⟨F,bb,a4⟩:∃F bb,Hid ((E<y/\F=E/\bb=false)\/(y<=E/\F=E-y/\bb=true)):=by
  by_cases hh:E<y
  ·exact⟨_,_,LH (.inl ⟨hh,rfl,rfl⟩)⟩
  exact⟨_,_,LH (.inr ⟨AA,rfl,rfl⟩)⟩
 have dm:E<big:=by
  have h1:=ao.out;have H:=a5.out;have h3:=cw.out;have h4:=co.out;have h5:=Hq.out;have h6:=cq j hj;omega
 have d6:=LH dm;clear av dm;go_upto_region 6 with fail;generalize decide (j<G.rules.length)=fa at *;refine Yi (Γ:=Unit) (λ_ b u X=>(Wd U ⟨gc,gt⟩ ⟨a1,n1,c1,a2,n2,c2,some ⟨bq,oq,none⟩,n3,c3⟩ G S' X/\Off (BkH.map ⟨gc,gt⟩) W1 X)/\Do b u 13 (.slice Av (limbs E).length cv)) (λX W=>Zf X W) () (λu=>(⟨(.pointer (some ⟨mk,0,none⟩) :: .int .i64 ((Zp s:Nat):Int) :: .int .i64 (n:Int)::u 13::undef::undef::undef::undef::u8 :: .int .i64 (j:Int) :: .pointer (some ⟨L,0,none⟩)::u 14 :: .pointer (some ⟨mk,0,none⟩) :: .pointer (some ⟨mk,0,none⟩) :: .pointer (some ⟨mk,0,none⟩) :: .pointer (some ⟨gc,0,none⟩) :: .pointer (some ⟨gc,0,none⟩) :: .pointer (some ⟨gc,0,none⟩) :: .pointer (some ⟨gc,2,none⟩) :: .slice (some ⟨bq,oq,none⟩) G.rules.length c3 :: .int .i64 (G.rules.length:Int) :: .int .i64 (j:Int) :: .bool fa :: .int .i64 (j:Int) :: .pointer (some ⟨bq,oq+j*3,none⟩) :: .agg #[.int .i64 x.left,.slice N x.right.length P,.int .i64 x.prec] :: .pointer (some ⟨L,0,none⟩) :: .int .i64 x.left :: .int .i64 ((Zp s:Nat):Int) :: .bool false::u 10::u 0::u 1::u 2::u 3::u 4::u 5::u 6::u 7::u 8::u 9::u 11::u 12::u43::u44::u45::u46::u47::u48::u49::u50::u51::u52::u53::u54::u55::u56::u57::u58::u59::u60::u61::u62::u63::u64::u65::u66::[]).toArray,[]⟩:Act)) [u31,u32,u33,u34,u35,u36,u37,u38,u39,u40,u30,u41,u42,.slice Av (limbs E).length cv,.bool false] [λv X=>v = .slice Av (limbs E).length cv,λv X=>v = .pointer (some ⟨mk,0,none⟩),λv X=>v = .pointer (some ⟨mk,0,none⟩),λv X=>v = .pointer (some ⟨mk,0,none⟩),λv X=>v = .pointer (some ⟨gc,0,none⟩),λv X=>v = .pointer (some ⟨L,1,none⟩),λv X=>v = .slice N x.right.length P,λv X=>v = .int .i64 (n:Int),λv X=>∃Z ag ad d1,v = .agg #[.slice Z ag ad,.bool d1]/\Z1 X Z ag ad d1 y,λv X=>∃o z,v = .tuple #[.slice o (limbs F).length z,.bool bb]/\Zq .u32 X o (limbs F).length z (limbs F),λv X=>∃o z,v = .tuple #[.slice o (limbs F).length z,.bool bb]/\Zq .u32 X o (limbs F).length z (limbs F),λv X=>∃o z,v = .slice o (limbs F).length z/\Zq .u32 X o (limbs F).length z (limbs F),λv X=>v = .bool bb,λv X=>∃o z,v = .slice o (limbs F).length z/\Zq .u32 X o (limbs F).length z (limbs F),λv X=>v = .bool bb] (l:=[_,_,_,_,_,_,_,_,_,_,_,_,_,_,_]) AB AB rfl ⟨⟨O.bk.below (AL _ _).drew,Off.of_below (AL _ _).drew⟩,λ_=>rfl⟩ ⟨AI,AI,AI,AI,AI,AI,AI,AI,(λv X W ⟨Z,ag,ad,d1,e,h⟩ I=>⟨Z,ag,ad,d1,e,h.kept I⟩),(λv X W ⟨o,z,e,h⟩ I=>⟨o,z,e,h.kept I⟩),(λv X W ⟨o,z,e,h⟩ I=>⟨o,z,e,h.kept I⟩),(λv X W ⟨o,z,e,h⟩ I=>⟨o,z,e,h.kept I⟩),AI,(λv X W ⟨o,z,e,h⟩ I=>⟨o,z,e,h.kept I⟩),AI,trivial⟩ ?_ ?_
 ·refine Zw.con (λQ g b u X B J a d K C=>?_) ?_
  ·have fn:b 13=false:=B.no J AB;have fr:u 13=_:=a.2 fn;have D:=λv=>a.2.other 0 v AC;have f:=a.1;clear d a B;generalize u 13=xk at *;subst fr;go_simp;exact C _ () _ ⟨AJ _,λ_ _ _=>rfl⟩ ⟨f,D _⟩ rfl
  refine Zw.con (λQ g b u X B J a d K C=>?_) ?_
  ·have D:=λv=>a.2.other 1 v AC;have f:=a.1;clear d a B;go_simp;exact C _ () _ ⟨AJ _,λ_ _ _=>rfl⟩ ⟨f,D _⟩ rfl
  refine Zw.con (λQ g b u X B J a d K C=>?_) ?_
  ·have p1:u 1=_:=(d 1 rfl).2;have D:=λv=>a.2.other 2 v AC;have f:=a.1;clear d a B;rw[p1] at C⊢;go_simp;exact C _ () _ ⟨AJ _,λ_ _ _=>rfl⟩ ⟨f,D _⟩ rfl
  refine Zw.con (λQ g b u X B J a d K C=>?_) ?_
  ·have p2:u 2=_:=(d 2 rfl).2;have D:=λv=>a.2.other 3 v AC;have f:=a.1;clear d a B;rw[p2] at C⊢;go_simp;exact C _ () _ ⟨AJ _,λ_ _ _=>rfl⟩ ⟨f,D _⟩ rfl
  refine Zw.con (λQ g b u X B J a d K C=>?_) ?_
  ·have p3:u 3=_:=(d 3 rfl).2;have D:=λv=>a.2.other 4 v AC;have f:=a.1;have gX:=f.2.blk O.box (O.bk.not_map O.box);have y0:X.cell? ⟨mk,0,none⟩=some (.pointer (some ⟨gc,0,none⟩)):=gX.cell 0;have yl:=gX.lt;clear gX;clear d a B;rw[p3] at C⊢;go_simp;exact C _ () _ ⟨AJ _,λ_ _ _=>rfl⟩ ⟨f,D _⟩ rfl
  refine Zw.con (λQ g b u X B J a d K C=>?_) ?_
  ·have D:=λv=>a.2.other 5 v AC;have f:=a.1;clear d a B;go_simp;exact C _ () _ ⟨AJ _,λ_ _ _=>rfl⟩ ⟨f,D _⟩ rfl
  refine Zw.con (λQ g b u X B J a d K C=>?_) ?_
  ·have p5:u 5=_:=(d 5 rfl).2;have D:=λv=>a.2.other 6 v AC;have f:=a.1;have gX:=f.2.blk ay (O.bk.not_map ay);have y0:X.cell? ⟨L,1,none⟩=some (.slice N x.right.length P):=gX.cell 1;have yl:=gX.lt;clear gX;clear d a B;rw[p5] at C⊢;go_simp;exact C _ () _ ⟨AJ _,λ_ _ _=>rfl⟩ ⟨f,D _⟩ rfl
  refine Zw.con (λQ g b u X B J a d K C=>?_) ?_
  ·have D:=λv=>a.2.other 7 v AC;have f:=a.1;clear d a B;go_simp;exact C _ () _ ⟨AJ _,λ_ _ _=>rfl⟩ ⟨f,D _⟩ rfl
  refine Zw.con (λQ g b u X B J a d K C=>?_) ?_
  ·have p4:u 4=_:=(d 4 rfl).2;have p6:u 6=_:=(d 6 rfl).2;have p7:u 7=_:=(d 7 rfl).2;have D:=λv=>a.2.other 8 v AC;have f:=a.1;have CC:=Zzz HB ch cp S' X N P f.1 (λb I=>AK (O.lt b I) f.2.size) (ce.below f.1.base);clear d a B;rw[p4,p6,p7] at C⊢;go_simp;go_at_call 125;refine CC.mono ?_;rintro e W⟨fj,c7,Z,ag,ad,d1,rfl,hv⟩;rw[Hy] at hv;go_simp;exact C _ () _ (f.1.keep c7) ⟨⟨fj,f.2.map_trans c7⟩,D _⟩ ⟨Z,ag,ad,d1,rfl,hv⟩
  refine Zw.con (λQ g b u X B J a d K C=>?_) ?_
  ·have p0:u 0=_:=(d 0 rfl).2;obtain⟨Z,ag,ad,d1,p8,hv⟩:=(d 8 rfl).2;have D:=λv=>a.2.other 9 v AC;have f:=a.1;have c6:=bm.kept (O.bk.keep f.2);have CC:=Zu6 Av cv E Z ag ad d1 y X c6 d6 hv;clear d a B;generalize u 0=x0 at *;subst p0;generalize u 8=x8 at *;subst p8;go_simp;go_at_call 129;refine CC.mono ?_;rintro e W⟨I,bf⟩;obtain⟨o,z,rfl,V⟩:∃o z,e = .returned (.tuple #[.slice o (limbs F).length z,.bool bb])/\Zq .u32 W o (limbs F).length z (limbs F):=by
    rcases a4.out with ⟨h1,rfl,rfl⟩ | ⟨h1,rfl,rfl⟩ <;> rcases bf with ⟨H,rfl⟩ | ⟨H,A9,c9,rfl,h3⟩
    ·exact⟨_,_,rfl,c6.below I⟩
    ·omega
    ·omega
    exact⟨_,_,rfl,h3⟩
   go_simp;exact C _ () _ (.of_below I) ⟨⟨f.1.below I,f.2.map_trans (Off.of_below I)⟩,D _⟩ ⟨o,z,rfl,V⟩
  refine Zw.con (λQ g b u X B J a d K C=>?_) ?_
  ·obtain⟨o,z,p9,V⟩:=(d 9 rfl).2;have D:=λv=>a.2.other 10 v AC;have f:=a.1;clear d a B;generalize u 9=x9 at *;subst p9;go_simp;exact C _ () _ ⟨AJ _,λ_ _ _=>rfl⟩ ⟨f,D _⟩ ⟨o,z,rfl,V⟩
  refine Zw.con (λQ g b u X B J a d K C=>?_) ?_
  ·obtain⟨o,z,b4,V⟩:=(d 10 rfl).2;have D:=λv=>a.2.other 11 v AC;have f:=a.1;clear d a B;generalize u 10=f7 at *;subst b4;go_simp;exact C _ () _ ⟨AJ _,λ_ _ _=>rfl⟩ ⟨f,D _⟩ ⟨o,z,rfl,V⟩
  refine Zw.con (λQ g b u X B J a d K C=>?_) ?_
  ·obtain⟨o,z,b4,V⟩:=(d 10 rfl).2;have D:=λv=>a.2.other 12 v AC;have f:=a.1;clear d a B;generalize u 10=f7 at *;subst b4;go_simp;exact C _ () _ ⟨AJ _,λ_ _ _=>rfl⟩ ⟨f,D _⟩ rfl
  refine Zw.con (λQ g b u X B J a d K C=>?_) ?_
  ·obtain⟨o,z,fz,V⟩:=(d 11 rfl).2;have D:=λv=>a.2.done 13 v;have f:=a.1;clear d a B;generalize u 11=g5 at *;subst fz;go_simp;exact C _ () _ ⟨AJ _,λ_ _ _=>rfl⟩ ⟨f,D _⟩ ⟨o,z,rfl,V⟩
  refine Zw.con (λQ g b u X B J a d K C=>?_) ?_
  ·have f0:u 12=_:=(d 12 rfl).2;have D:=λv=>a.2.other 14 v AC;have f:=a.1;clear d a B;rw[f0] at C⊢;go_simp;exact C _ () _ ⟨AJ _,λ_ _ _=>rfl⟩ ⟨f,D _⟩ rfl
  exact Zw.nil
 intro _ b9 u X9 fm ak d;obtain⟨ak,ft⟩:=ak;clear fm ft;obtain⟨o,z,dq,de⟩:=d 13 AC;have dr:u 14=_:=d 14 AC;clear d b9;rw[dq,dr];clear dq dr;generalize u 0=w0 at *;generalize u 1=w1 at *;generalize u 2=w2 at *;generalize u 3=w3 at *;generalize u 4=w4 at *;generalize u 5=w5 at *;generalize u 6=w6 at *;generalize u 7=w7 at *;generalize u 8=w8 at *;generalize u 9=w9 at *;generalize u 10=gq at *;generalize u 11=gr at *;generalize u 12=gs at *;clear u;have T:=LH (O.off ak.1 ak.2);have bl:=LH (cf.trans (Zu.of_int (O.bk.keep ak.2)));have bo:=LH (ak.2.blk ay (O.bk.not_map ay));have cm:=LH de;have dn:Z0 (Zv G) G.rules (Zp s) (j+1) n=Z0 (Zv G) G.rules (Zp s) j n+y:=by
  rw[cu j x Hx,if_pos (by have:=d8.out;omega),Hy]
 have df:j=R->E<y:=by
  intro e;subst e;have e1:=Hx.symm.trans bs;injection e1 with e1;subst e1;have h1:=ao.out;have H:=a5.out;have h3:=Hq.out;have h4:=Hy.out;omega
 have dc:j<R->y<=E:=by
  intro dd;have h1:=cq (j+1) AA;have H:=ao.out;have h3:=a5.out;omega
 have d7:=LH dn;have d4:=LH df;have d3:=LH dc;clear dn df dc z0 z1 z2 cl ay O bm ak de;rcases a4.out with ⟨dd,rfl,rfl⟩ | ⟨gk,rfl,rfl⟩
 case inr =>
  have fq:j<R:=by
   rcases BC j R with h | h
   ·exact h
   have:=d4 AA;omega
  have br:Hid (r=Z0 (Zv G) G.rules (Zp s) (j+1) n+(E-y)):=LH (by
   have h1:=d7.out;have H:=ao.out;omega)
  clear a4;go_wp2_with fail;go_roundw
  case rel=>exact⟨j+1,E-y,o,z,S',A',c',AF,AA,rfl,br,cm,T,bl⟩
  simp[intOf] <;> omega
 obtain rfl:j=R:=by
  rcases BC j R with h | h
  ·have:=d3 h;omega
  omega
 obtain rfl:x=x0:=by
  have e1:=Hx.symm.trans bs;injection e1
 obtain rfl:F=q:=by
  have h1:=ao.out;have H:=a5.out;omega
 clear a4 dd;have g0:X9.cell? ⟨mk,0,none⟩=some (.pointer (some ⟨gc,0,none⟩)):=T.box.cell 0;have g2:X9.cell? ⟨mk,1,none⟩=some (.slice A' cs.length c'):=T.box.cell 1;have gl:=T.box.lt;have gj:=T.few;by_cases be:cs.length=300
 case pos =>
  have fo:((cs.length:Int)==300)=true:=by rw[be];rfl
  have bp:=LH be;clear be;go_wp2_with fail;go_ret;exact⟨bl,.inr ⟨by rw[bp,AZ];omega,rfl,T.bk.base⟩⟩
 have fo:((cs.length:Int)==300)=false:=by
  rw[AQ];omega
 have bp:=LH be;have d0:Hid ((prog.info? 3).map (λi=>(i.zero,i.size,i.bytes))=some (some (.int .i64 0),1,8)):=LH AB;have z1:X9.cell? ⟨L,1,none⟩=some (.slice N x.right.length P):=bo.cell 1;have zl:=bo.lt;have bx:U.heap.size<=X9.heap.size:=T.bk.base.size;have fu:cs.length+1<=maxLen:=by unfold maxLen;omega
 go_upto_region 11 with (first
  | (at_builtin;refine Nk rfl _ _ 27 rfl U 8 underlying27 d0 A' cs.length c' (cs.map λi:Nat=>(i:Int)) rfl T.row (j:Int) rfl fu AA bx ?_;intro A5 c5 w5 dk bz fl
     have al:=T.push (i:=j) (Zy _ _) dk bz bp;have p1:w5.cell? ⟨mk,1,none⟩=some (.slice A' cs.length c'):=al.1.cell 1;have p0:w5.cell? ⟨mk,0,none⟩=some (.pointer (some ⟨gc,0,none⟩)):=al.1.cell 0;have p2:=al.1.frozen 1;have p3:=al.1.lt;have HP:=LH al.2;have cd:Hid (Blk (w5.setCell ⟨mk,1,none⟩ (.slice A5 (cs.length+1) c5)) L 52 #[.int .i64 x.left,.slice N x.right.length P,.int .i64 x.prec]):=LH (by
      have c8:=bo.ext (Zy X9 (.cells #[.int .i64 (j:Int)] 3));have bw:=(Off.of_grown bz).blk c8 λe=>by
       obtain⟨_,_,v,hv⟩:=(T.below (Zy X9 (.cells #[.int .i64 (j:Int)] 3))).row.blk e;exact absurd (hv.same_ty c8) AC
      exact bw.other mk 1 _ λe=>by
       rw[e] at bw;exact absurd (bw.same_ty al.1) AC)
     clear al dk bz fl))
 generalize w5.setCell ⟨mk,1,none⟩ (.slice A5 (cs.length+1) c5)=W6 at *;clear p0 p1 p2 p3 z1 zl g0 g2 gl;have hi:W6.cell? ⟨L,1,none⟩=some (.slice N x.right.length P):=cd.cell 1;have hk:=cd.lt;have CF:=LH (dw mk (cs++[j]) x.right n F t1 N P o z W6 (by rw[AZ] at fx;omega) HU dx (by have h1:=cw.out;have H:=co.out;omega) ch cp ce (cm.nkept HP.2) HP.1);go_wp2_with (first
  | (go_at_call 130
     refine CF.out.mono ?_;rintro e W7⟨fs,dg⟩;obtain⟨bv,rfl,bf⟩:∃bv,e = .returned (.bool bv)/\(((cs++[j]).length+t1.length<=300/\bv=true/\MkAt U ⟨gc,gt⟩ ⟨a1,n1,c1,a2,n2,c2,some ⟨bq,oq,none⟩,n3,c3⟩ G mk (cs++[j]++t1) W7)\/(300<(cs++[j]).length+t1.length/\bv=false/\Below U U W7)):=by
      rcases dg with ⟨h1,rfl,H⟩ | ⟨h1,rfl,H⟩
      ·exact⟨true,rfl,.inl ⟨h1,rfl,H⟩⟩
      exact⟨false,rfl,.inr ⟨h1,rfl,H⟩⟩
     have d5:=LH bf;clear bf dg))
 go_ret;refine⟨bl.trans (HP.2.trans fs),?_⟩;have dh:=d5.out;rw[AU,CU] at dh;rw[AZ];rcases dh with ⟨h1,rfl,H⟩ | ⟨h1,rfl,H⟩
 ·rw[DO] at H;exact .inl ⟨AA,rfl,by rw[<-fv];exact H⟩
 exact .inr ⟨AA,rfl,H⟩
theorem Zw0{W:World}(hB:BkG W h G)(hP:Xq G)(m:Nat)(HT:TC W k h G m):FC W k h G m:=by
 intro mk cs l n r t Al cl Ar cr w d9 hU dk du B hh hl hr a;have HB:=LH hB;have HP:=LH hP;have fh:=LH HT;have HU:=LH hU;have al:=LH dk;have a0:=LH du;have HK:=LH B;have Hh:=LH hh;have HL:=LH hl;have HR:=LH hr;have O:=LH a;clear hB hP HT hU dk du B hh hl hr a;go_enter func130,ntmps130;go_wp2_with fail;go_loopw [1,2,3] (λv1 v2 v3 wr=>∃(Z:List Int) (Al:Option Addr) (cl E r':Nat) (R:Option Addr) (T:Nat) (t' V:List Nat),v1 = .slice Al Z.length cl/\v2 = .int .i64 (E:Int)/\v3 = .slice R (limbs r').length T/\Hid (UnL G Z E r' t')/\Hid (InG G Z)/\Hid (Zx (Zv G) Z E<big)/\Hid (J1 Z E)/\Hid (∀s∈Z,G.has s=true)/\Hid (Za .i64 W Al Z.length cl Z)/\Hid (Zq .u32 wr R (limbs r').length T (limbs r'))/\Hid (MkAt W k h G mk V wr)/\Hid (Zu w wr)/\Hid (V++t'=cs++t)/\Hid (t'.length<=m)) (λv1 _ _ _=>slLen v1)
 case atStart=>exact⟨l,Al,cl,n,r,Ar,cr,t,cs,rfl,rfl,rfl,HU,al,a0,HK,Hh,HL,HR,O,LH (Zu.refl _),LH rfl,LH d9⟩
 clear HU al a0 HK Hh HL HR O d9;obtain⟨Z,gp,Y,E,r',R,T,t',V,rfl,rfl,rfl,HU,al,a0,HK,Hh,HL,HN,bl,b4,bo,cd⟩:=hrel;rcases Z with _ | ⟨s,I⟩
 case nil =>
  have e:t'=[]:=by
   have:=HU.out;cases this;rfl
  subst e;go_wp2_with fail;go_ret;obtain⟨S,A,c,M⟩:=bl.out;have dv:=bo.out;rw[DH] at dv;subst dv;have:=M.few;rw[AU] at this;exact⟨b4,.inl ⟨this,rfl,bl⟩⟩
 obtain⟨kk,q,L,t1,t2,fx,d6,cm,hq,ds,rfl,d4,a3⟩:=HU.parts HP al;obtain⟨dq,hF,d5⟩:=Zxk fx hq cm a0;have dz:=HU.lt HP al;have cc:=LH d6;have de:=LH cm;have Hq:=LH hq;have ca:=LH ds;have fm:=LH d4;have fl:=LH a3;have fi:=LH dq;have HF:=LH hF;have fn:=LH d5;have dd:=LH dz;have g2:=HK.n;have f0:=HK.len;have fz:=HL.cap;clear d6 cm hq ds d4 a3 dq hF d5 dz;obtain⟨S,A,c,dl⟩:=bl.out;have c3:=LH dl;clear bl dl;obtain⟨ab,ao,s',rfl,dt,df,f2⟩:=HL.get (j:=0) AE;obtain rfl:s=s':=by
  have:=df.out;simpa using this
 have br:=HL.tail1;rw[show (s::I).length-1=I.length from rfl] at br;obtain⟨At,fr⟩:∃At:Option Addr,(if Y=1 then some (⟨ab,ao,none⟩:Addr) else some ⟨ab,ao+1,none⟩)=At:=⟨_,rfl⟩;rw[fr] at br;have bx:=LH br;clear br df;simp only[AZ] at f0 fz ⊢;have gw:(1:Int)<=(Y:Int):=AA
 have g1:(1:Int)<=(I.length:Int)+1:=AA
 go_upto_region 4 with fail;go_loopw [3,9,10] (λv3 v9 gk wz=>∃(j H:Nat) (R:Option Addr) (T:Nat),v3 = .slice R (limbs H).length T/\v9 = .int .i64 (j:Int)/\gk = .bool (decide (j<=kk))/\j<=kk+1/\Hid (j<=kk->r'=Yv (Zv G) s I E j+H)/\Hid (j=kk+1->H=q*Zx (Zv G) I (E-kk)+L)/\Hid (Zq .u32 wz R (limbs H).length T (limbs H))/\Hid (Me W k h G mk V S A c wz)/\Hid (Zu w wz)) (λ_ i _ _=>kk+2-(intOf i).toNat)
 case atStart=>exact⟨0,r',R,T,rfl,rfl,AE,AV _,LH (λ_=>by rw[Ug];omega),LH (λh=>AA),HN,c3,b4⟩
 clear HN c3 b4;obtain⟨j,H,R,T,rfl,rfl,rfl,fv,Hj,dc,HN,O,bj⟩:=hrel;by_cases hj:j<=kk
 case pos =>
  have be:=Hj hj;have cp:H<big:=by have:=dd.out;have:=a0.out;omega
  obtain⟨x,hx⟩:∃x,Zv G s j*Zx (Zv G) I (E-j)=x:=⟨_,rfl⟩;have d7:Yv (Zv G) s I E (j+1)=Yv (Zv G) s I E j+x:=by rw[Xy,hx]
  have M:=O.out;have CP:Calls prog 176 #[.pointer (some ⟨k.c,0,none⟩),.slice (some ⟨ab,ao,none⟩) (I.length+1) Y,.int .i64 (j:Int),.int .i64 (E:Int)] wr (Zuw W k h G S wr x):=by
   have h1:=tr_pair HB (s:=s) (l:=I) (kk:=j) (n:=E) HK AA Hh S wr (some ⟨ab,ao,none⟩) Y M.bk M.lt HL;rw[fsingle,hx] at h1;exact h1
  have CP:=LH CP;have bp:=LH cp;have g0:wr.cell? ⟨mk,0,none⟩=some (.pointer (some ⟨k.c,0,none⟩)):=M.box.cell 0;have gl:=M.box.lt;by_cases gy:j<kk
  case pos =>
   have HX:Hid (x<=H):=LH (by
    have h1:=Wz (Zv G) s I E (show j+1<=kk by omega);have P:=cc.out;omega)
   have fo:Hid (r'=Yv (Zv G) s I E (j+1)+(H-x)):=LH (by have:=HX.out;omega);clear be cp hx d7 M;go_wp2_with (first
    | (go_at_call 176
       refine CP.out.mono ?_;rintro e W2⟨ba,au,A8,n8,c8,d8,rfl,bf⟩;have av:=O.bk.keep au;have b5:=LH (O.off ba au);have bm:=LH (HN.kept av);have b0:=LH (bj.trans (Zu.of_int av));have CO:=LH (Zu6 R T H A8 n8 c8 d8 x W2 bm bp bf);clear ba au bf av)
    | (go_at_call 129
       refine CO.out.mono ?_;rintro e W3⟨ah,bd⟩;obtain⟨A9,c9,rfl,d0⟩:∃A9 c9,e = .returned (.tuple #[.slice A9 (limbs (H-x)).length c9,.bool true])/\Zq .u32 W3 A9 (limbs (H-x)).length c9 (limbs (H-x)):=by
        rcases bd with ⟨P,rfl⟩ | ⟨P,A9,c9,rfl,h3⟩
        ·have:=HX.out;omega
        exact⟨A9,c9,rfl,h3⟩
       have b6:=LH (b5.below ah);have b8:=LH d0;have b1:=LH (b0.trans (Zu.of_below ah));clear ah bd d0))
   go_roundw
   case rel=>exact⟨j+1,H-x,A9,c9,rfl,AF,by rw[Eg (AA:j+1<=kk)],AA,LH (λ_=>fo),LH (λh=>AA),b8,b6,b1⟩
   simp[intOf] <;> omega
  obtain rfl:j=kk:=AA
  have a8:Hid (H=q*Zx (Zv G) I (E-j)+L):=LH (by have:=cc.out;omega);have HX:Hid (H<x):=LH (by have h1:=fn.out;have P:=a8.out;omega);clear be cp hx d7 M;go_wp2_with (first
   | (go_at_call 176
      refine CP.out.mono ?_;rintro e W2⟨ba,au,A8,n8,c8,d8,rfl,bf⟩;have av:=O.bk.keep au;have b5:=LH (O.off ba au);have bm:=LH (HN.kept av);have b0:=LH (bj.trans (Zu.of_int av));have CO:=LH (Zu6 R T H A8 n8 c8 d8 x W2 bm bp bf);clear ba au bf av)
   | (go_at_call 129
      refine CO.out.mono ?_;rintro e W3⟨ah,bd⟩;obtain rfl:e = .returned (.tuple #[.slice R (limbs H).length T,.bool false]):=by
       rcases bd with ⟨P,rfl⟩ | ⟨P,A9,c9,rfl,h3⟩
       ·rfl
       have:=HX.out;omega
      have b6:=LH (b5.below ah);have b8:=LH (bm.below ah);have b1:=LH (b0.trans (Zu.of_below ah));clear ah bd))
  go_roundw
  case rel=>exact⟨j+1,H,R,T,rfl,AF,by rw[Ej (AA:¬j+1<=j)],AA,LH (λh=>AA),LH (λ_=>a8),b8,b6,b1⟩
  simp[intOf] <;> omega
 obtain rfl:j=kk+1:=AA
 obtain rfl:=dc rfl;clear hj fv Hj dc;generalize be:q*Zx (Zv G) I (E-kk)+L=H at *;have a8:=LH be;clear be;have gz:IntKind.i64.wrap ((kk:Int)+1-1)=(kk:Int):=by rw[BS _ AA];omega
 obtain⟨F,a9⟩:∃F,Hid (Zx (Zv G) I (E-kk)=F):=⟨_,LH rfl⟩;have c0:Hid (F<big):=LH (by rw[<-a9];exact HF);have cz:Hid (0<F):=LH (by rw[<-a9];have:=de.out;omega);have co:H=q*F+L:=by rw[<-a9];exact a8.symm
 have cn:L<F:=by rw[<-a9];exact de
 have fj:Hid (H / F=q):=LH (by rw[co,Ei,Nat.mul_add_div cz,Nat.div_eq_of_lt cn,DG]);have fk:Hid (H % F=L):=LH (by rw[co,Ei,Nat.mul_add_mod,Eh cn]);have bp:Hid (H<big):=LH (by have h1:=cc.out;have P:=dd.out;have h3:=a0.out;have h4:=a8.out;omega);have K2:Hid (J1 I (E-kk)):=LH ⟨λx hx=>HK.sym x (.tail _ hx),AA,AA⟩;have H2:Hid (∀x∈I,G.has x=true):=LH λx hx=>Hh x (.tail _ hx);clear co cn;go_upto_region 8 with fail;generalize decide (kk+1<=kk)=dh at *;generalize ((kk+1:Nat):Int)=f3 at *;refine Yi (Γ:=Unit) (λ_ b u X=>(Wd W k h G S X/\Off k.map wr X)/\Do b u 99 undef) (λX U=>Zf X U) () (λu=>(⟨(.pointer (some ⟨mk,0,none⟩) :: .slice (some ⟨ab,ao,none⟩) (I.length+1) Y :: .int .i64 (E:Int) :: .slice R (limbs H).length T::undef::undef::undef::undef::u8 :: .int .i64 (kk:Int) :: .bool dh::u 17::u 18::u 19 :: .slice (some ⟨ab,ao,none⟩) (I.length+1) Y :: .int .i64 ((I.length:Int)+1) :: .bool true :: .bool dh::u18::u19::u20::u21::u22::u23::u24::u25::u26::u27::u28::u29::u30::u31::u32 :: .int .i64 f3 :: .int .i64 (kk:Int)::u 13::u 0::u 1::u 2::u 3::u 4::u 5::u 6::u 7::u 8::u 9::u 10::u 11::u 12::u 14::u 15::u 16::u52::u53::u54::u55::u56::u57::u58::u59::u60::u61::u62::u63::u64::u65::u66::u67::u68::u69::u70::u71::u72::[]).toArray,[]⟩:Act)) [u36,u37,u38,u39,u40,u41,u42,u43,u44,u45,u46,u47,u48,u35,u49,u50,u51,u11,u12,u13] [λv X=>v = .slice R (limbs H).length T,λv X=>v = .pointer (some ⟨mk,0,none⟩),λv X=>v = .pointer (some ⟨mk,0,none⟩),λv X=>v = .pointer (some ⟨mk,0,none⟩),λv X=>v = .pointer (some ⟨k.c,0,none⟩),λv X=>v = .slice (some ⟨ab,ao,none⟩) (I.length+1) Y,λv X=>v = .slice At I.length (Y-1),λv X=>v = .int .i64 (E:Int),λv X=>v = .int .i64 (kk:Int),λv X=>v = .int .i64 ((E-kk:Nat):Int),λv X=>∃A1 n1 c1 d1,v = .agg #[.slice A1 n1 c1,.bool d1]/\Z1 X A1 n1 c1 d1 F,λv X=>∃f o,v = .slice f (limbs F).length o/\Zq .u32 X f (limbs F).length o (limbs F),λv X=>∃f o Ar cr z,v = .tuple #[.slice f (limbs q).length o,.slice Ar (limbs L).length cr,.int .i64 z]/\Zq .u32 X f (limbs q).length o (limbs q)/\Zq .u32 X Ar (limbs L).length cr (limbs L),λv X=>∃f o Ar cr z,v = .tuple #[.slice f (limbs q).length o,.slice Ar (limbs L).length cr,.int .i64 z]/\Zq .u32 X f (limbs q).length o (limbs q)/\Zq .u32 X Ar (limbs L).length cr (limbs L),λv X=>∃f o,v = .slice f (limbs q).length o/\Zq .u32 X f (limbs q).length o (limbs q),λv X=>∃f o,v = .slice f (limbs L).length o/\Zq .u32 X f (limbs L).length o (limbs L),λv X=>∃z:Int,v = .int .i64 z,λv X=>∃f o,v = .slice f (limbs q).length o/\Zq .u32 X f (limbs q).length o (limbs q),λv X=>∃f o,v = .slice f (limbs L).length o/\Zq .u32 X f (limbs L).length o (limbs L),λv X=>∃z:Int,v = .int .i64 z] (l:=[_,_,_,_,_,_,_,_,_,_,_,_,_,_,_,_,_,_,_,_]) AB AB rfl ⟨⟨O.bk.below (AL _ _).drew,Off.of_below (AL _ _).drew⟩,λ_=>rfl⟩ ⟨AI,AI,AI,AI,AI,AI,AI,AI,AI,AI,(λv X U ⟨A1,n1,c1,d1,e,h⟩ J=>⟨A1,n1,c1,d1,e,h.kept J⟩),(λv X U ⟨f,o,e,h⟩ J=>⟨f,o,e,h.kept J⟩),(λv X U ⟨f,o,Ar,cr,z,e,h1,P⟩ J=>⟨f,o,Ar,cr,z,e,h1.kept J,P.kept J⟩),(λv X U ⟨f,o,Ar,cr,z,e,h1,P⟩ J=>⟨f,o,Ar,cr,z,e,h1.kept J,P.kept J⟩),(λv X U ⟨f,o,e,h⟩ J=>⟨f,o,e,h.kept J⟩),(λv X U ⟨f,o,e,h⟩ J=>⟨f,o,e,h.kept J⟩),(λv X U h _=>h),(λv X U ⟨f,o,e,h⟩ J=>⟨f,o,e,h.kept J⟩),(λv X U ⟨f,o,e,h⟩ J=>⟨f,o,e,h.kept J⟩),(λv X U h _=>h),trivial⟩ ?_ ?_
 ·refine Zw.con (λQ g b u X D N a d K B=>?_) ?_
  ·have C:=λv=>a.2.other 0 v AC;have y:=a.1;clear d a D;go_simp;exact B _ () _ ⟨AJ _,λ_ _ _=>rfl⟩ ⟨y,C _⟩ rfl
  refine Zw.con (λQ g b u X D N a d K B=>?_) ?_
  ·have C:=λv=>a.2.other 1 v AC;have y:=a.1;clear d a D;go_simp;exact B _ () _ ⟨AJ _,λ_ _ _=>rfl⟩ ⟨y,C _⟩ rfl
  refine Zw.con (λQ g b u X D N a d K B=>?_) ?_
  ·have p1:u 1=_:=(d 1 rfl).2;have C:=λv=>a.2.other 2 v AC;have y:=a.1;clear d a D;rw[p1] at B⊢;go_simp;exact B _ () _ ⟨AJ _,λ_ _ _=>rfl⟩ ⟨y,C _⟩ rfl
  refine Zw.con (λQ g b u X D N a d K B=>?_) ?_
  ·have p2:u 2=_:=(d 2 rfl).2;have C:=λv=>a.2.other 3 v AC;have y:=a.1;clear d a D;rw[p2] at B⊢;go_simp;exact B _ () _ ⟨AJ _,λ_ _ _=>rfl⟩ ⟨y,C _⟩ rfl
  refine Zw.con (λQ g b u X D N a d K B=>?_) ?_
  ·have p3:u 3=_:=(d 3 rfl).2;have C:=λv=>a.2.other 4 v AC;have y:=a.1;have gX:=y.2.blk O.box (O.bk.not_map O.box);have y0:X.cell? ⟨mk,0,none⟩=some (.pointer (some ⟨k.c,0,none⟩)):=gX.cell 0;have yl:=gX.lt;clear gX;clear d a D;rw[p3] at B⊢;go_simp;exact B _ () _ ⟨AJ _,λ_ _ _=>rfl⟩ ⟨y,C _⟩ rfl
  refine Zw.con (λQ g b u X D N a d K B=>?_) ?_
  ·have C:=λv=>a.2.other 5 v AC;have y:=a.1;clear d a D;go_simp;exact B _ () _ ⟨AJ _,λ_ _ _=>rfl⟩ ⟨y,C _⟩ rfl
  refine Zw.con (λQ g b u X D N a d K B=>?_) ?_
  ·have p5:u 5=_:=(d 5 rfl).2;have C:=λv=>a.2.other 6 v AC;have y:=a.1;clear d a D;rw[p5] at B⊢;go_simp;exact B _ () _ ⟨AJ _,λ_ _ _=>rfl⟩ ⟨y,C _⟩ rfl
  refine Zw.con (λQ g b u X D N a d K B=>?_) ?_
  ·have C:=λv=>a.2.other 7 v AC;have y:=a.1;clear d a D;go_simp;exact B _ () _ ⟨AJ _,λ_ _ _=>rfl⟩ ⟨y,C _⟩ rfl
  refine Zw.con (λQ g b u X D N a d K B=>?_) ?_
  ·have C:=λv=>a.2.other 8 v AC;have y:=a.1;clear d a D;go_simp;exact B _ () _ ⟨AJ _,λ_ _ _=>rfl⟩ ⟨y,C _⟩ rfl
  refine Zw.con (λQ g b u X D N a d K B=>?_) ?_
  ·have p7:u 7=_:=(d 7 rfl).2;have p8:u 8=_:=(d 8 rfl).2;have C:=λv=>a.2.other 9 v AC;have y:=a.1;have hw:IntKind.i64.wrap ((E:Int)-(kk:Int))=((E-kk:Nat):Int):=by rw[BS _ AA];omega
   clear d a D;generalize u 7=x7 at *;subst p7;generalize u 8=x8 at *;subst p8;go_simp;exact B _ () _ ⟨AJ _,λ_ _ _=>rfl⟩ ⟨y,C _⟩ (by first | rfl | rw[hw])
  refine Zw.con (λQ g b u X D N a d K B=>?_) ?_
  ·have p4:u 4=_:=(d 4 rfl).2;have p6:u 6=_:=(d 6 rfl).2;have p9:u 9=_:=(d 9 rfl).2;have C:=λv=>a.2.other 10 v AC;have y:=a.1;have CC:=Zzz HB K2 H2 S X At (Y-1) y.1 (λb J=>AK (O.lt b J) y.2.size) (bx.below y.1.base);clear d a D;rw[p4,p6,p9] at B⊢;go_simp;go_at_call 125;refine CC.mono ?_;rintro e U⟨fs,dn,A1,n1,c1,d1,rfl,hv⟩;rw[a9] at hv;go_simp;exact B _ () _ (y.1.keep dn) ⟨⟨fs,y.2.map_trans dn⟩,C _⟩ ⟨A1,n1,c1,d1,rfl,hv⟩
  refine Zw.con (λQ g b u X D N a d K B=>?_) ?_
  ·obtain⟨A1,n1,c1,d1,f5,hv⟩:=(d 10 rfl).2;have C:=λv=>a.2.other 11 v AC;have y:=a.1;have dm:Zq .u32 X A1 n1 c1 (limbs F):=by
    have h1:=hv.2;rwa [Z7 c0] at h1
   obtain rfl:=dm.len;clear d a D;generalize u 10=hy at *;subst f5;go_simp;exact B _ () _ ⟨AJ _,λ_ _ _=>rfl⟩ ⟨y,C _⟩ ⟨_,_,rfl,dm⟩
  refine Zw.con (λQ g b u X D N a d K B=>?_) ?_
  ·have p0:u 0=_:=(d 0 rfl).2;obtain⟨f,o,f6,hn⟩:=(d 11 rfl).2;have C:=λv=>a.2.other 12 v AC;have y:=a.1;have ft:=HN.kept (O.bk.keep y.2);have CC:=nat_quo R _ T (limbs H) f _ o (limbs F) X ft hn (Z9 _) (Z9 _);rw[Zv2 bp c0 cz,fj,fk] at CC;unfold RetQuo at CC;clear d a D;rw[p0] at B⊢;generalize u 11=hz at *;subst f6;go_simp;go_at_call 182;refine CC.mono ?_;rintro e U⟨f,o,Ar,cr,rfl,aw,ax,J⟩;go_simp;exact B _ () _ (.of_below J) ⟨⟨y.1.below J,y.2.map_trans (Off.of_below J)⟩,C _⟩ ⟨f,o,Ar,cr,_,rfl,aw,ax⟩
  refine Zw.con (λQ g b u X D N a d K B=>?_) ?_
  ·obtain⟨f,o,Ar,cr,z,f7,aw,ax⟩:=(d 12 rfl).2;have C:=λv=>a.2.other 13 v AC;have y:=a.1;clear d a D;generalize u 12=h0 at *;subst f7;go_simp;exact B _ () _ ⟨AJ _,λ_ _ _=>rfl⟩ ⟨y,C _⟩ ⟨f,o,Ar,cr,z,rfl,aw,ax⟩
  refine Zw.con (λQ g b u X D N a d K B=>?_) ?_
  ·obtain⟨f,o,Ar,cr,z,bg,aw,ax⟩:=(d 13 rfl).2;have C:=λv=>a.2.other 14 v AC;have y:=a.1;clear d a D;generalize u 13=fe at *;subst bg;go_simp;exact B _ () _ ⟨AJ _,λ_ _ _=>rfl⟩ ⟨y,C _⟩ ⟨_,_,rfl,aw⟩
  refine Zw.con (λQ g b u X D N a d K B=>?_) ?_
  ·obtain⟨f,o,Ar,cr,z,bg,aw,ax⟩:=(d 13 rfl).2;have C:=λv=>a.2.other 15 v AC;have y:=a.1;clear d a D;generalize u 13=fe at *;subst bg;go_simp;exact B _ () _ ⟨AJ _,λ_ _ _=>rfl⟩ ⟨y,C _⟩ ⟨_,_,rfl,ax⟩
  refine Zw.con (λQ g b u X D N a d K B=>?_) ?_
  ·obtain⟨f,o,Ar,cr,z,bg,aw,ax⟩:=(d 13 rfl).2;have C:=λv=>a.2.other 16 v AC;have y:=a.1;clear d a D;generalize u 13=fe at *;subst bg;go_simp;exact B _ () _ ⟨AJ _,λ_ _ _=>rfl⟩ ⟨y,C _⟩ ⟨_,rfl⟩
  refine Zw.con (λQ g b u X D N a d K B=>?_) ?_
  ·obtain⟨f,o,f8,hn⟩:=(d 14 rfl).2;have C:=λv=>a.2.other 17 v AC;have y:=a.1;clear d a D;generalize u 14=h5 at *;subst f8;go_simp;exact B _ () _ ⟨AJ _,λ_ _ _=>rfl⟩ ⟨y,C _⟩ ⟨_,_,rfl,hn⟩
  refine Zw.con (λQ g b u X D N a d K B=>?_) ?_
  ·obtain⟨f,o,f9,hn⟩:=(d 15 rfl).2;have C:=λv=>a.2.other 18 v AC;have y:=a.1;clear d a D;generalize u 15=h6 at *;subst f9;go_simp;exact B _ () _ ⟨AJ _,λ_ _ _=>rfl⟩ ⟨y,C _⟩ ⟨_,_,rfl,hn⟩
  refine Zw.con (λQ g b u X D N a d K B=>?_) ?_
  ·obtain⟨z,ga⟩:=(d 16 rfl).2;have C:=λv=>a.2.other 19 v AC;have y:=a.1;clear d a D;generalize u 16=h7 at *;subst ga;go_simp;exact B _ () _ ⟨AJ _,λ_ _ _=>rfl⟩ ⟨y,C _⟩ ⟨_,rfl⟩
  exact Zw.nil
 intro _ b9 u X9 fu ag d;obtain⟨ag,fw⟩:=ag;clear fu fw;obtain⟨f,o,fb,d2⟩:=d 17 AC;obtain⟨Ar,cr,fc,d3⟩:=d 18 AC;obtain⟨ji,fd⟩:=d 19 AC;clear d b9;rw[fb,fc,fd];clear fb fc fd;generalize u 0=w0 at *;generalize u 1=w1 at *;generalize u 2=w2 at *;generalize u 3=w3 at *;generalize u 4=w4 at *;generalize u 5=w5 at *;generalize u 6=w6 at *;generalize u 7=w7 at *;generalize u 8=w8 at *;generalize u 9=w9 at *;generalize u 10=g6 at *;generalize u 11=g7 at *;generalize u 12=g8 at *;generalize u 13=g9 at *;generalize u 14=ha at *;generalize u 15=hc at *;generalize u 16=hd at *;clear u;have c4:=LH (O.off ag.1 ag.2);have b3:=LH (bj.trans (Zu.of_int (O.bk.keep ag.2)));have fg:=LH d2;have c5:=LH d3;have e0:X9.cell? ⟨ab,ao,none⟩=some (.int .i64 s):=(ag.1.base.cell (p:=⟨ab,ao+0,none⟩) dt).trans f2;have el:=AK dt ag.1.base.size;have g3:=(HK.sym s (AX ..)).1;have g4:=(HK.sym s (AX ..)).2;have hw:IntKind.i64.wrap ((E:Int)-(kk:Int))=((E-kk:Nat):Int):=by rw[BS _ AA];omega
 have gq:=ca;have c2:Hid (InG G I):=al.tail;have fy:kk<=10:=AA
 clear ag d2 d3 O HN bj;by_cases a3:s<0
 case neg =>
  obtain⟨rfl,rfl,rfl⟩:=fm AA;have cb:Hid (V++t2=cs++t):=LH (by have:=bo.out;rwa [DD] at this);have ce:Hid (t2.length<=m):=LH (by have:=cd.out;rwa [DD] at this);go_wp2_with fail;go_roundw
  case rel=>exact⟨I,At,Y-1,E-1,L,Ar,cr,t2,V,rfl,AF,rfl,ca,c2,HF,K2,H2,bx,c5,LH ⟨S,A,c,c4⟩,b3,cb,ce⟩
  simp[slLen]
 have g5:IntKind.i64.wrap (-1-s)=((Zp s:Nat):Int):=by
  rw[BS _ AA];unfold Zp;omega
 have CT:=fh mk V s kk q t1 f o X9 (by have:=cd.out;rw[AU] at this;omega) a3 (al s (AX ..) a3) (fl a3) fi fy fg ⟨S,A,c,c4⟩;have f1:V.length+(t1.length+t2.length)=cs.length+t.length:=by
  have:=congrArg List.length bo;simp only[AU] at this;exact this
 by_cases gx:V.length+t1.length<=300
 case pos =>
  have bv:Hid (Calls prog 77 #[.pointer (some ⟨mk,0,none⟩),.int .i64 (Zp s:Int),.int .i64 (kk:Int),.slice f (limbs q).length o] X9 λe w'=>e = .returned (.bool true)/\Zu X9 w'/\MkAt W k h G mk (V++t1) w'):=LH (CT.mono λe w' hr=>by
   obtain⟨h1,⟨_,P,h3⟩ | ⟨P,_,_⟩⟩:=hr
   ·exact⟨P,h1,h3⟩
   omega)
  have cb:Hid (V++t1++t2=cs++t):=LH (by rw[DO];exact bo);have ce:Hid (t2.length<=m):=LH (by have:=cd.out;rw[AU] at this;omega);clear CT f1;go_wp2_with (first
   | (go_at_call 77
      refine bv.out.mono ?_;rintro e W6⟨rfl,a2,bb⟩;have b7:=LH bb;have ff:=LH (c5.nkept a2);have b2:=LH (b3.trans a2);clear a2 bb))
  go_roundw
  case rel=>exact⟨I,At,Y-1,E-kk,L,Ar,cr,t2,V++t1,rfl,AF,rfl,ca,c2,HF,K2,H2,bx,ff,b7,b2,cb,ce⟩
  simp[slLen]
 have bv:Hid (Calls prog 77 #[.pointer (some ⟨mk,0,none⟩),.int .i64 (Zp s:Int),.int .i64 (kk:Int),.slice f (limbs q).length o] X9 λe w'=>e = .returned (.bool false)/\Zu X9 w'/\Below W W w'):=LH (CT.mono λe w' hr=>by
  obtain⟨h1,⟨P,_,_⟩ | ⟨_,P,h3⟩⟩:=hr
  ·omega
  exact⟨P,h1,h3⟩)
 clear CT;go_wp2_with (first
  | (go_at_call 77
     refine bv.out.mono ?_;rintro e W6⟨rfl,a2,bb⟩;have b7:=LH bb;have b2:=LH (b3.trans a2);clear a2 bb))
 go_ret;exact⟨b2,.inr ⟨AA,rfl,b7⟩⟩
theorem Zvi{b:World}{k:BkH}{h:GH}{G:Gr}(c:BkG b h G)(d:Xq G):∀m,TC b k h G m/\FC b k h G m
 | 0=>by
   have a:TC b k h G 0:=by
    intro mk cs s n r t Ar cr w f h0 j a;obtain⟨i,x,q,l,_,_,_,_,rfl⟩:=a;rw[List.length_cons] at f;omega
   exact⟨a,Zw0 c d 0 a⟩
 | m+1=>by
   have g:=Zvi (k:=k) c d m;have a:=tr_mtree c d m g.2;exact⟨a,Zw0 c d (m+1) a⟩
theorem tr_ttree{W0:World}(hB:BkG W0 h G)(hP:Xq G)(m:Nat)(HF:FT W0 k h G m):TT W0 k h G (m+1):=by
 intro B s n r t z w gd h0 hl hT dl hn f1;obtain⟨C,d,q,t1,ax,dx,hU,dt,rfl⟩:=hT;have ci:Z0 (Zv G) G.rules (Zp s) (C+1) n<=Zv G s n:=by
  rw[Uu hP h0 hl];exact Kj _ _ _ _ _
 have hq:q<Zx (Zv G) d.right n:=hU.lt hP (InG.at hP.fits ax);rw[Y3 _ ax,if_pos dx] at ci;have g7:C<G.rules.length:=(AO.1 ax).1;have dw:d.left=(Zp s:Int):=by
  have:=(hP.fits.left d (AM ax)).1;omega
 have c1:Hid (∀(j:Nat) (x:Rul),G.rules[j]? = some x->J1 x.right n/\(∀s∈x.right,G.has s=true)/\0<=x.left):=LH λj x hx=>by
  have h1:=Bg hP.fits (AM hx) hn;exact⟨h1.1,h1.2,(hP.fits.left x (AM hx)).1⟩
 have c2:Hid (∀(j:Nat) (x:Rul),G.rules[j]? = some x->Z0 (Zv G) G.rules (Zp s) (j+1) n=Z0 (Zv G) G.rules (Zp s) j n+(if x.left.toNat=Zp s then Zx (Zv G) x.right n else 0)):=LH λj x hx=>Y3 _ hx _ _;have fj:Hid (∀j,j<=C->Z0 (Zv G) G.rules (Zp s) j n<=Z0 (Zv G) G.rules (Zp s) C n):=LH λj hj=>Vf _ _ _ _ hj;have d8:Hid (InG G d.right):=InG.at hP.fits ax;obtain⟨S,A,c,U⟩:=f1;obtain⟨Z,hZ⟩:∃Z,t1.map (λi:Nat=>(i:Int))++z=Z:=⟨_,rfl⟩;have U:Cc W0 k h G B ((C:Int)::Z) S A c w:=by rw[<-hZ];exact U
 obtain⟨a1,n1,d1,a2,n2,d2,a3,n3,d3⟩:=h;obtain⟨gc,gt⟩:=k;have hd:n3=G.rules.length:=hB.at_.rules.len.symm;have f4:=hB.at_.rules.cap;have hg:=hP.fits.n3.2;obtain⟨J,L,fu,am,ds⟩:=hB.at_.rules.2.2.2 (by show 0<n3;omega);obtain rfl:a3=some ⟨J,L,none⟩:=fu;obtain⟨ab,ao,i1,rfl,g4,c0,du⟩:=U.row.get (j:=0) AE;obtain rfl:(C:Int)=i1:=by
  have:=c0.out;simpa using this
 have f5:=U.row.cap;rw[AZ] at f5;obtain⟨At,ft⟩:∃At:Option Addr,(if c=1 then some (⟨ab,ao,none⟩:Addr) else some ⟨ab,ao+1,none⟩)=At:=⟨_,rfl⟩;have dg:=U.next ft;have ct:=LH ds;have c7:=LH dw;clear dw;have HB:=LH hB;have d6:=LH HF;have HU:=LH hU;have c6:=LH ax;have cz:=LH dl;have bw:=LH dg;have c4:=LH ci;have fn:=LH dt;have Hq:=LH hq;have HZ:=LH hZ;have g0:w.cell? ⟨B,0,none⟩=some (.pointer (some ⟨gc,0,none⟩)):=U.box.cell 0;have g2:w.cell? ⟨B,1,none⟩=some (.slice (some ⟨ab,ao,none⟩) (Z.length+1) c):=U.box.cell 1;have g3:=U.box.frozen 1;have g1:=U.box.lt;have e0:w.cell? ⟨ab,ao,none⟩=some (.int .i64 (C:Int)):=du;have hf:(1:Int)<=(Z.length:Int)+1:=AA
 have g6:(1:Int)<=(c:Int):=AA
 clear hB hP HF hU ax dx dl U dg ci dt hq h0 hl hZ ds c0 du;go_enter func73,ntmps73;go_upto_region 3 with fail;generalize w.setCell ⟨B,1,none⟩ (.slice At Z.length (c-1))=W1 at *;clear g0 g1 g2 g3 e0;have R:=bw.1;have cn:=LH bw.2;have fe:=LH R;clear bw;have g0:W1.cell? ⟨B,0,none⟩=some (.pointer (some ⟨gc,0,none⟩)):=R.box.cell 0;have g1:=R.box.lt;have b2:W1.cell? ⟨gc,2,none⟩=some (.slice (some ⟨J,L,none⟩) n3 d3):=R.bk.box.cell 2;have b4:=R.bk.box.lt;obtain⟨T,V,q0,q1,q2,de⟩:=ct C d c6;have e0:=(R.bk.base.cell (p:=⟨J,L+C*3,none⟩) am).trans q0;have e1:=(R.bk.base.cell (p:=⟨J,L+C*3+1,none⟩) am).trans q1;have e2:=(R.bk.base.cell (p:=⟨J,L+C*3+2,none⟩) am).trans q2;have cf:=AK am R.bk.base.size;have d9:=LH de;have ag:=Zy W1 (.cells #[.int .i64 d.left,.slice T d.right.length V,.int .i64 d.prec] 52);have Y:=Blk.new W1 52 #[.int .i64 d.left,.slice T d.right.length V,.int .i64 d.prec];have cp:=LH (R.below ag);have co:=LH (cn.trans (.of_below ag));clear R q0 q1 q2 de ag fe cn;go_upto_region 4 with fail;clear g0 g1 b2 b4 e0 e1 e2 cf;generalize W1.alloc (.cells #[.int .i64 d.left,.slice T d.right.length V,.int .i64 d.prec] 52)=W2 at *;generalize W1.heap.size=W at *;have bh:=LH Y;have y1:W2.cell? ⟨W,1,none⟩=some (.slice T d.right.length V):=Y.cell 1;have yl:=Y.lt;have bb:=c1 C d c6;have CF:=LH (d6 B d.right n q t1 z T V W2 (by rw[AZ] at gd;omega) HU d8 (by have h1:=c4.out;have h2:=cz.out;omega) bb.1 bb.2.1 d9 ⟨S,At,c-1,by rw[HZ];exact cp⟩);clear Y bb;go_upto_region 5 with (first
  | (go_at_call 123
     refine CF.out.mono ?_;rintro e W3⟨A3,c3,rfl,dp,dj,cg⟩;have cr:=LH dp;have cu:=LH dj;have fb:=LH (co.trans cg);have bi:Hid (Blk W3 W 52 #[.int .i64 d.left,.slice T d.right.length V,.int .i64 d.prec]):=LH ((cg.2 W bh.lt ⟨0,.i64,d.left,bh.cell 0⟩).trans bh);clear dp dj cg))
 obtain⟨S5,A5,c5,T5⟩:=cu.out;have g0:W3.cell? ⟨B,0,none⟩=some (.pointer (some ⟨gc,0,none⟩)):=T5.box.cell 0;have g1:=T5.box.lt;have b2:W3.cell? ⟨gc,2,none⟩=some (.slice (some ⟨J,L,none⟩) n3 d3):=T5.bk.box.cell 2;have b4:=T5.bk.box.lt;have cw:=LH T5;have g8:(C:Int)<=(d3:Int):=by have:=f4.1;omega
 have ha:(0:Int)<=(C:Int):=AA
 clear T5 cu CF bh co cp y1 yl;go_upto_region 6 with fail;go_loopw [6,53] (λv i wr=>∃(j:Nat) (Av:Option Addr) (cv:Nat) (S A:_) (c:Nat),i = .int .i64 (j:Int)/\j<=C/\v = .slice Av (limbs (q+Z0 (Zv G) G.rules (Zp s) j n)).length cv/\Hid (Zq .u32 wr Av (limbs (q+Z0 (Zv G) G.rules (Zp s) j n)).length cv (limbs (q+Z0 (Zv G) G.rules (Zp s) j n)))/\Hid (Cc W0 ⟨gc,gt⟩ ⟨a1,n1,d1,a2,n2,d2,some ⟨J,L,none⟩,n3,d3⟩ G B z S A c wr)/\Hid (Zf W3 wr)) (λ_ i _=>C-(intOf i).toNat)
 case atStart=>exact⟨0,A3,c3,S5,A5,c5,rfl,AV _,by rw[Qb,DG],LH (by rw[Qb,DG];exact cr),cw,LH ⟨AJ _,λ_ _ _=>rfl⟩⟩
 clear cr cw g0 g1 b2 b4;obtain⟨j,Av,cv,S',A',c',rfl,hj,rfl,HN,HM,a7⟩:=hrel;obtain⟨v,hv⟩:∃v,q+Z0 (Zv G) G.rules (Zp s) j n=v:=⟨_,rfl⟩;rw[hv] at HN ⊢;have Hv:=LH hv;clear hv;have M:=HM.out;have X5:=(a7.2 W bi.lt ⟨0,.i64,d.left,bi.cell 0⟩).trans bi;have f0:wr.cell? ⟨W,0,none⟩=some (.int .i64 d.left):=Blk.cell (cs:=#[.int .i64 d.left,.slice T d.right.length V,.int .i64 d.prec]) X5 0;have fl:=AK bi.lt a7.1;by_cases hc:j<C
 case neg =>
  obtain rfl:j=C:=AA
  have bu:=LH (fb.trans a7);have Hr:Hid (v=r):=LH (by have h1:=Hv.out;have h2:=fn.out;omega);clear M X5;go_wp2_with fail;go_ret2;have hr:=Hr.out;subst hr;exact⟨Av,cv,rfl,HN,⟨S',A',c',HM⟩,bu⟩
 obtain⟨y,hy⟩:∃y,G.rules[j]? = some y:=⟨_,AN AA⟩;obtain⟨Ay,cy,q0,q1,q2,df⟩:=ct j y hy;have e0:=(M.bk.base.cell (p:=⟨J,L+j*3,none⟩) am).trans q0;have e1:=(M.bk.base.cell (p:=⟨J,L+j*3+1,none⟩) am).trans q1;have e2:=(M.bk.base.cell (p:=⟨J,L+j*3+2,none⟩) am).trans q2;have cf:=AK am M.bk.base.size;have fa:=LH df;have Hy:=LH hy;have ag:=Zy wr (.cells #[.int .i64 y.left,.slice Ay y.right.length cy,.int .i64 y.prec] 52);have Y:=Blk.new wr 52 #[.int .i64 y.left,.slice Ay y.right.length cy,.int .i64 y.prec];have dk:Blk wr W 52 #[.int .i64 d.left,.slice T d.right.length V,.int .i64 d.prec]:=X5;have cd:=dk.ext ag;have P:=LH (M.below ag);have bt:=LH (a7.trans (.of_below ag));have bx:=LH (HN.below ag);clear M X5 dk q0 q1 q2 df hy ag HM HN a7;go_upto_region 8 with fail;clear e0 e1 e2 cf f0 fl;generalize wr.alloc (.cells #[.int .i64 y.left,.slice Ay y.right.length cy,.int .i64 y.prec] 52)=W4 at *;generalize wr.heap.size=g9 at *;have z0:W4.cell? ⟨g9,0,none⟩=some (.int .i64 y.left):=Y.cell 0;have z1:W4.cell? ⟨g9,1,none⟩=some (.slice Ay y.right.length cy):=Y.cell 1;have zl:=Y.lt;have f0:W4.cell? ⟨W,0,none⟩=some (.int .i64 d.left):=cd.cell 0;have fl:=cd.lt;have bz:=LH Y;clear Y cd;have bn:=c1 j y Hy;have fc:=LH bn.1;have fi:=LH bn.2.1;have he:=bn.2.2;clear bn;by_cases bp:y.left=d.left
 case neg =>
  have f9:(y.left==d.left)=false:=by rw[AQ];exact bp
  have ay:Hid (q+Z0 (Zv G) G.rules (Zp s) (j+1) n=v):=LH (by
   have h1:=c7.out;rw[c2 j y Hy,if_neg AA];exact Hv)
  clear bp;go_wp2_with fail;go_roundw
  case rel=>exact⟨j+1,Av,cv,S',A',c',AF,AA,by rw[ay],LH (by rw[ay];exact bx),P,bt⟩
  simp[intOf] <;> omega
 have f9:(y.left==d.left)=true:=by rw[BO];exact bp
 obtain⟨x,c8⟩:∃x,Hid (Zx (Zv G) y.right n=x):=⟨_,LH rfl⟩;have gb:Z0 (Zv G) G.rules (Zp s) (j+1) n=Z0 (Zv G) G.rules (Zp s) j n+x:=by
  have h1:=c7.out;rw[c2 j y Hy,if_pos AA,c8]
 have ay:Hid (q+Z0 (Zv G) G.rules (Zp s) (j+1) n=v+x):=LH (by have:=Hv.out;omega);have dv:v+x<big:=by
  have h1:=ay.out;have h2:=fj (j+1) AA;have h3:=c4.out;have h4:=Hq.out;have h5:=cz.out;omega
 have fo:=LH dv;have d7:Hid (x<big):=LH AA;clear bp gb dv;go_upto_region 9 with fail;generalize v=vv at *;refine Yi (Γ:=Unit) (λ_ b u X=>(Wd W0 ⟨gc,gt⟩ ⟨a1,n1,d1,a2,n2,d2,some ⟨J,L,none⟩,n3,d3⟩ G S' X/\Off (BkH.map ⟨gc,gt⟩) W4 X)/\Do b u 11 (.slice Av (limbs vv).length cv)) (λX X'=>Zf X X') () (λu=>(⟨(.pointer (some ⟨B,0,none⟩)::undef :: .slice none 0 0 :: .int .i64 0 :: .int .i64 (C:Int) :: .pointer (some ⟨W,0,none⟩)::u 11 :: .int .i64 (n:Int)::undef :: .pointer (some ⟨g9,0,none⟩) :: .pointer (some ⟨B,0,none⟩) :: .pointer (some ⟨B,0,none⟩) :: .pointer (some ⟨B,1,none⟩) :: .slice (some ⟨ab,ao,none⟩) (Z.length+1) c :: .pointer (some ⟨ab,ao,none⟩) :: .int .i64 (C:Int) :: .pointer (some ⟨B,0,none⟩) :: .pointer (some ⟨B,0,none⟩) :: .pointer (some ⟨B,0,none⟩) :: .pointer (some ⟨B,1,none⟩) :: .slice (some ⟨ab,ao,none⟩) (Z.length+1) c :: .slice At Z.length (c-1) :: .pointer (some ⟨B,0,none⟩) :: .pointer (some ⟨B,1,none⟩) :: .pointer (some ⟨B,0,none⟩) :: .pointer (some ⟨B,0,none⟩) :: .pointer (some ⟨B,0,none⟩) :: .pointer (some ⟨gc,0,none⟩) :: .pointer (some ⟨gc,0,none⟩) :: .pointer (some ⟨gc,0,none⟩) :: .pointer (some ⟨gc,2,none⟩) :: .slice (some ⟨J,L,none⟩) G.rules.length d3 :: .int .i64 (C:Int) :: .pointer (some ⟨J,L+C*3,none⟩) :: .agg #[.int .i64 d.left,.slice T d.right.length V,.int .i64 d.prec] :: .tuple #[.slice A3 (limbs q).length c3,.int .i64 (n:Int)] :: .pointer (some ⟨B,0,none⟩) :: .pointer (some ⟨W,1,none⟩) :: .slice T d.right.length V :: .tuple #[.slice A3 (limbs q).length c3,.int .i64 (n:Int)] :: .slice A3 (limbs q).length c3 :: .int .i64 (n:Int) :: .pointer (some ⟨B,0,none⟩) :: .pointer (some ⟨B,0,none⟩) :: .pointer (some ⟨B,0,none⟩) :: .pointer (some ⟨gc,0,none⟩) :: .pointer (some ⟨gc,0,none⟩) :: .pointer (some ⟨gc,0,none⟩) :: .pointer (some ⟨gc,2,none⟩) :: .slice (some ⟨J,L,none⟩) G.rules.length d3 :: .int .i64 (C:Int) :: .slice (some ⟨J,L,none⟩) C d3 :: .int .i64 (C:Int) :: .int .i64 (j:Int) :: .bool true :: .pointer (some ⟨J,L+j*3,none⟩) :: .agg #[.int .i64 y.left,.slice Ay y.right.length cy,.int .i64 y.prec] :: .pointer (some ⟨g9,0,none⟩) :: .int .i64 y.left :: .pointer (some ⟨W,0,none⟩) :: .int .i64 d.left :: .bool true::u 0::u 1::u 2::u 3::u 4::u 5::u 6::u 7::u 8::u 9::u 10::u73::undef::undef::[]).toArray,[]⟩:Act)) [u62,u63,u64,u65,u66,u67,u68,u69,u70,u71,u72,.slice Av (limbs vv).length cv] [λv X=>v = .slice Av (limbs vv).length cv,λv X=>v = .pointer (some ⟨B,0,none⟩),λv X=>v = .pointer (some ⟨B,0,none⟩),λv X=>v = .pointer (some ⟨B,0,none⟩),λv X=>v = .pointer (some ⟨gc,0,none⟩),λv X=>v = .pointer (some ⟨g9,1,none⟩),λv X=>v = .slice Ay y.right.length cy,λv X=>v = .int .i64 (n:Int),λv X=>∃A1 ap aj av,v = .agg #[.slice A1 ap aj,.bool av]/\Z1 X A1 ap aj av x,λv X=>∃H I,v = .slice H (limbs (x)).length I/\Zq .u32 X H (limbs (x)).length I (limbs (x)),λv X=>∃H I,v = .slice H (limbs (vv+x)).length I/\Zq .u32 X H (limbs (vv+x)).length I (limbs (vv+x)),λv X=>∃H I,v = .slice H (limbs (vv+x)).length I/\Zq .u32 X H (limbs (vv+x)).length I (limbs (vv+x))] (l:=[_,_,_,_,_,_,_,_,_,_,_,_]) AB AB rfl ⟨⟨P.bk.below (AL _ _).drew,Off.of_below (AL _ _).drew⟩,λ_=>rfl⟩ ⟨AI,AI,AI,AI,AI,AI,AI,AI,(λv X X' ⟨A1,ap,aj,av,e,h⟩ N=>⟨A1,ap,aj,av,e,h.kept N⟩),(λv X X' ⟨H,I,e,h⟩ N=>⟨H,I,e,h.kept N⟩),(λv X X' ⟨H,I,e,h⟩ N=>⟨H,I,e,h.kept N⟩),(λv X X' ⟨H,I,e,h⟩ N=>⟨H,I,e,h.kept N⟩),trivial⟩ ?_ ?_
 ·refine Zw.con (λQ g b u X D O a f K E=>?_) ?_
  ·have f3:b 11=false:=D.no O AB;have bb:u 11=_:=a.2 f3;have F:=λv=>a.2.other 0 v AC;have o:=a.1;clear f a D;generalize u 11=xk at *;subst bb;go_simp;exact E _ () _ ⟨AJ _,λ_ _ _=>rfl⟩ ⟨o,F _⟩ rfl
  refine Zw.con (λQ g b u X D O a f K E=>?_) ?_
  ·have F:=λv=>a.2.other 1 v AC;have o:=a.1;clear f a D;go_simp;exact E _ () _ ⟨AJ _,λ_ _ _=>rfl⟩ ⟨o,F _⟩ rfl
  refine Zw.con (λQ g b u X D O a f K E=>?_) ?_
  ·have p1:u 1=_:=(f 1 rfl).2;have F:=λv=>a.2.other 2 v AC;have o:=a.1;clear f a D;rw[p1] at E⊢;go_simp;exact E _ () _ ⟨AJ _,λ_ _ _=>rfl⟩ ⟨o,F _⟩ rfl
  refine Zw.con (λQ g b u X D O a f K E=>?_) ?_
  ·have p2:u 2=_:=(f 2 rfl).2;have F:=λv=>a.2.other 3 v AC;have o:=a.1;clear f a D;rw[p2] at E⊢;go_simp;exact E _ () _ ⟨AJ _,λ_ _ _=>rfl⟩ ⟨o,F _⟩ rfl
  refine Zw.con (λQ g b u X D O a f K E=>?_) ?_
  ·have p3:u 3=_:=(f 3 rfl).2;have F:=λv=>a.2.other 4 v AC;have o:=a.1;have gX:=o.2.blk P.box (P.bk.not_map P.box);have y0:X.cell? ⟨B,0,none⟩=some (.pointer (some ⟨gc,0,none⟩)):=gX.cell 0;have yl:=gX.lt;clear gX;clear f a D;rw[p3] at E⊢;go_simp;exact E _ () _ ⟨AJ _,λ_ _ _=>rfl⟩ ⟨o,F _⟩ rfl
  refine Zw.con (λQ g b u X D O a f K E=>?_) ?_
  ·have F:=λv=>a.2.other 5 v AC;have o:=a.1;clear f a D;go_simp;exact E _ () _ ⟨AJ _,λ_ _ _=>rfl⟩ ⟨o,F _⟩ rfl
  refine Zw.con (λQ g b u X D O a f K E=>?_) ?_
  ·have p5:u 5=_:=(f 5 rfl).2;have F:=λv=>a.2.other 6 v AC;have o:=a.1;have gX:=o.2.blk bz (P.bk.not_map bz);have y0:X.cell? ⟨g9,1,none⟩=some (.slice Ay y.right.length cy):=gX.cell 1;have yl:=gX.lt;clear gX;clear f a D;rw[p5] at E⊢;go_simp;exact E _ () _ ⟨AJ _,λ_ _ _=>rfl⟩ ⟨o,F _⟩ rfl
  refine Zw.con (λQ g b u X D O a f K E=>?_) ?_
  ·have F:=λv=>a.2.other 7 v AC;have o:=a.1;clear f a D;go_simp;exact E _ () _ ⟨AJ _,λ_ _ _=>rfl⟩ ⟨o,F _⟩ rfl
  refine Zw.con (λQ g b u X D O a f K E=>?_) ?_
  ·have p4:u 4=_:=(f 4 rfl).2;have p6:u 6=_:=(f 6 rfl).2;have p7:u 7=_:=(f 7 rfl).2;have F:=λv=>a.2.other 8 v AC;have o:=a.1;have CC:=Zzz HB fc fi S' X Ay cy o.1 (λb N=>AK (P.lt b N) o.2.size) (fa.below o.1.base);clear f a D;rw[p4,p6,p7] at E⊢;go_simp;go_at_call 125;refine CC.mono ?_;rintro e X'⟨fx,di,A1,ap,aj,av,rfl,hv⟩;rw[c8] at hv;go_simp;exact E _ () _ (o.1.keep di) ⟨⟨fx,o.2.map_trans di⟩,F _⟩ ⟨A1,ap,aj,av,rfl,hv⟩
  refine Zw.con (λQ g b u X D O a f K E=>?_) ?_
  ·obtain⟨A1,ap,aj,av,p8,hv⟩:=(f 8 rfl).2;have F:=λv=>a.2.other 9 v AC;have o:=a.1;have dh:Zq .u32 X A1 ap aj (limbs x):=by
    have h1:=hv.2;rwa [Z7 d7] at h1
   obtain rfl:=dh.len;clear f a D;generalize u 8=x8 at *;subst p8;go_simp;exact E _ () _ ⟨AJ _,λ_ _ _=>rfl⟩ ⟨o,F _⟩ ⟨_,_,rfl,dh⟩
  refine Zw.con (λQ g b u X D O a f K E=>?_) ?_
  ·have p0:u 0=_:=(f 0 rfl).2;obtain⟨H,I,p9,ch⟩:=(f 9 rfl).2;have F:=λv=>a.2.other 10 v AC;have o:=a.1;have fy:=bx.kept (P.bk.keep o.2);have CC:=Ztm Av cv vv H I x X fy ch fo;clear f a D;rw[p0] at E⊢;generalize u 9=x9 at *;subst p9;go_simp;go_at_call 124;refine CC.mono ?_;rintro e X'⟨A9,c9,rfl,f8,N⟩;go_simp;exact E _ () _ (.of_below N) ⟨⟨o.1.below N,o.2.map_trans (Off.of_below N)⟩,F _⟩ ⟨A9,c9,rfl,f8⟩
  refine Zw.con (λQ g b u X D O a f K E=>?_) ?_
  ·obtain⟨H,I,gg,ch⟩:=(f 10 rfl).2;have F:=λv=>a.2.done 11 v;have o:=a.1;clear f a D;generalize u 10=h6 at *;subst gg;go_simp;exact E _ () _ ⟨AJ _,λ_ _ _=>rfl⟩ ⟨o,F _⟩ ⟨_,_,rfl,ch⟩
  exact Zw.nil
 intro _ b9 u X9 f2 a6 f;obtain⟨a6,f6⟩:=a6;clear f2 f6;obtain⟨H,I,dy,dq⟩:=f 11 AC;clear f b9;rw[dy];clear dy;generalize u 0=w0 at *;generalize u 1=w1 at *;generalize u 2=w2 at *;generalize u 3=w3 at *;generalize u 4=w4 at *;generalize u 5=w5 at *;generalize u 6=w6 at *;generalize u 7=w7 at *;generalize u 8=w8 at *;generalize u 9=w9 at *;generalize u 10=hh at *;clear u;have fd:=LH (P.off a6.1 a6.2);have bu:=LH (bt.trans (P.bk.keep a6.2));have ff:=LH dq;clear z0 z1 zl f0 fl a6 dq P bt bx bz;go_wp2_with fail;go_roundw
 case rel=>exact⟨j+1,H,I,S',A',c',AF,AA,by rw[ay],LH (by rw[ay];exact ff),fd,bu⟩
 simp[intOf] <;> omega
theorem Zwz{N:World}(hB:BkG N h G)(hP:Xq G)(m:Nat)(HT:TT N k h G m):FT N k h G m:=by
 intro I l
 induction l with
 | nil =>
   intro n r t z Al O w dc hU ai a3 f hh hl a0;cases hU;have dw:=LH a0;clear ai a3 f hh hl a0;go_enter func123,ntmps123;go_wp2_with fail;go_ret2;exact⟨none,0,by rw[Va];rfl,by rw[Va];exact Zq.nil _ _ _ _ AA,dw,⟨AJ _,λ_ _ _=>rfl⟩⟩
 | cons s E ih =>
   intro n r t z Al O w dc hU ai a3 f hh hl a0;obtain⟨kk,q,U,t1,t2,fn,da,bs,hq,cw,rfl,c2,c0⟩:=hU.parts hP ai;obtain⟨cu,hF,c7⟩:=Zxk fn hq bs a3;have cy:=hU.lt hP ai;obtain⟨V,Y,s',rfl,cx,cf,db⟩:=hl.get (j:=0) AE;obtain rfl:s=s':=by
    have:=cf.out;simpa using this
   have fo:=hl.cap;have fp:=f.len;have gh:=f.n;have az:=hl.tail1;rw[show (s::E).length-1=E.length from rfl] at az;obtain⟨At,fd⟩:∃At:Option Addr,(if O=1 then some (⟨V,Y,none⟩:Addr) else some ⟨V,Y+1,none⟩)=At:=⟨_,rfl⟩;rw[fd] at az;have a1:TlAt N k h G I (t1.map (λi:Nat=>(i:Int))++(t2.map (λi:Nat=>(i:Int))++z)) w:=by
    rw[<-DO,<-DF];exact a0
   rw[AU] at dc;simp only[AZ] at fp fo ⊢;have gc:(1:Int)<=(O:Int):=AA
   have gg:(1:Int)<=(E.length:Int)+1:=AA
   have gf:((E.length:Int)+1==0)=false:=by rw[AQ];omega
   have K2:Hid (J1 E (n-kk)):=LH ⟨λx hx=>f.sym x (.tail _ hx),AA,AA⟩;have H2:Hid (∀x∈E,G.has x=true):=LH λx hx=>hh x (.tail _ hx);have gj:=(f.sym s (AX ..)).1;have gk:=(f.sym s (AX ..)).2;have CF:Hid (∀W,TlAt N k h G I (t2.map (λi:Nat=>(i:Int))++z) W->Calls prog 123 #[.pointer (some ⟨I,0,none⟩),.slice At E.length (O-1)] W (TlRet N k h G I z (n-kk) U W)):=LH λW hW=>ih (n-kk) U t2 z At (O-1) W AA cw ai.tail hF K2 H2 az hW;have CT:Hid (s<0->Calls prog 73 #[.pointer (some ⟨I,0,none⟩)] w (TlRet N k h G I (t2.map (λi:Nat=>(i:Int))++z) kk q w)):=LH λhs=>HT I s kk q t1 _ w AA hs (ai s (AX ..) hs) (c0 hs) cu AA a1;have b8:Hid (0<=s->q=0/\kk=1/\TlAt N k h G I (t2.map (λi:Nat=>(i:Int))++z) w):=LH λhs=>by
    obtain⟨e1,e2,e3⟩:=c2 hs;subst e1;exact⟨e2,e3,a1⟩
   have dx:=LH a1;have HB:=LH hB;have HL:=LH hl;have di:=LH az;have HK:=LH f;have Hh:=LH hh;have ce:=LH da;have d2:=LH bs;have HF:=LH hF;have f9:=LH c7;have cd:=LH cy;have cc:=LH a3;have bp:Below N N w:=by
    obtain⟨S,A,c,M⟩:=a1;exact M.bk.base
   have e0:w.cell? ⟨V,Y,none⟩=some (.int .i64 s):=(bp.cell (p:=⟨V,Y+0,none⟩) cx).trans db;have el:=AK cx bp.size;have gi:IntKind.i64.wrap ((kk:Int)+((n-kk:Nat):Int))=(n:Int):=by rw[BS _ AA];omega
   clear hB hP HT ih hU ai a3 f hh hl a0 a1 da bs hq cw c2 c0 cu hF c7 cy az db cf bp;go_enter func123,ntmps123;go_upto_if 20 with fail
   go_cut [6,7] (λv6 v7 wx=>∃(A6:Option Addr) (c6:Nat),v6 = .slice A6 (limbs q).length c6/\v7 = .int .i64 (kk:Int)/\Hid (Zq .u32 wx A6 (limbs q).length c6 (limbs q))/\Hid (TlAt N k h G I (t2.map (λi:Nat=>(i:Int))++z) wx)/\Hid (Zf w wx))
   case first =>
    by_cases hs:s<0
    case pos =>
     have CT:=LH (CT hs);go_wp2_with (first
      | (go_at_call 73
         refine CT.out.mono ?_;rintro e W2⟨A6,c6,rfl,fq,bb,fl⟩))
     go_meet
     exact⟨A6,c6,rfl,rfl,LH fq,LH bb,LH fl⟩
    obtain⟨rfl,rfl,bb⟩:=b8 AA;have a8:=LH bb;clear bb;go_wp2_with fail;go_meet
    exact⟨none,0,by rw[Va];rfl,rfl,LH (by rw[Va];exact Zq.nil _ _ _ _ AA),a8,LH ⟨AJ _,λ_ _ _=>rfl⟩⟩
   obtain⟨A6,c6,rfl,rfl,b5,a8,b3⟩:=hcut;have bx:=LH (CF wc a8);clear CF CT b8 dx a8 e0 el;go_upto_region 8 with (first
    | (go_at_call 123
       refine bx.out.mono ?_;rintro e W3⟨A3,c3,rfl,cz,ct,bq⟩;have b4:=LH cz;have ca:=LH ct;have b6:=LH (b5.kept bq);have b2:=LH (b3.trans bq);clear cz ct bq))
   clear bx b5 b3;go_upto_region 10 with fail;obtain⟨S3,A5,c5,T3⟩:=ca.out;have cb:=LH T3;clear T3 ca;go_loopw [8,37] (λv i wr=>∃(j:Nat) (Av:Option Addr) (cv:Nat),i = .int .i64 (j:Int)/\j<=kk/\v = .slice Av (limbs (U+Yv (Zv G) s E n j)).length cv/\Hid (Zq .u32 wr Av (limbs (U+Yv (Zv G) s E n j)).length cv (limbs (U+Yv (Zv G) s E n j)))/\Hid (Cc N k h G I z S3 A5 c5 wr)/\Hid (Zf W3 wr)) (λ_ i _=>kk-(intOf i).toNat)
   case atStart=>exact⟨0,A3,c3,rfl,AV _,by rw[Ug,DG],LH (by rw[Ug,DG];exact b4),cb,LH ⟨AJ _,λ_ _ _=>rfl⟩⟩
   clear b4 cb;obtain⟨j,Av,cv,rfl,hj,rfl,HN,J,a7⟩:=hrel;obtain⟨v,hv⟩:∃v,U+Yv (Zv G) s E n j=v:=⟨_,rfl⟩;rw[hv] at HN ⊢;have Hv:=LH hv;clear hv;have g0:wr.cell? ⟨I,0,none⟩=some (.pointer (some ⟨k.c,0,none⟩)):=J.box.cell 0;have gl:=J.box.lt;by_cases ge:j<kk
   case pos =>
    obtain⟨x,hx⟩:∃x,Zv G s j*Zx (Zv G) E (n-j)=x:=⟨_,rfl⟩;have bh:Hid (U+Yv (Zv G) s E n (j+1)=v+x):=LH (by
     rw[Xy,hx];have:=Hv.out;omega)
    have cg:Hid (v+x<big):=LH (by
     have h1:=bh.out;have h2:=Wz (Zv G) s E n (show j+1<=kk by omega);have h3:=ce.out;have h4:=cd.out;have h5:=cc.out;omega)
    have dy:Hid (x<big):=LH (by have:=cg.out;omega);have CP:Calls prog 176 #[.pointer (some ⟨k.c,0,none⟩),.slice (some ⟨V,Y,none⟩) (E.length+1) O,.int .i64 (j:Int),.int .i64 (n:Int)] wr (Zuw N k h G S3 wr x):=by
     have h1:=tr_pair HB (s:=s) (l:=E) (kk:=j) (n:=n) HK AA Hh S3 wr (some ⟨V,Y,none⟩) O J.bk J.lt HL;rw[fsingle,hx] at h1;exact h1
    have CP:=LH CP;clear hx;go_wp2_with (first
     | (go_at_call 176
        refine CP.out.mono ?_;rintro e W4⟨cp,bn,A8,n8,c8,d8,rfl,dd⟩;have bm:Zq .u32 W4 A8 n8 c8 (limbs x):=by
         have h1:=dd.2;rwa [Z7 dy] at h1
        obtain rfl:=bm.len;have br:=J.bk.keep bn;have dr:=LH (J.off cp bn);have dl:=LH (a7.trans br);have CO:=LH (Ztm Av cv v A8 c8 x W4 (HN.kept br) bm cg);clear cp bn dd br bm)
     | (refine wpl_span rfl _ rfl A8 _ c8 d8 rfl ?_)
     | (go_at_call 124
        refine CO.out.mono ?_;rintro e W5⟨A9,c9,rfl,P,au⟩;have ds:=LH (dr.below au);have dm:=LH (dl.trans (.of_below au));have du:=LH P;clear au P))
    go_roundw
    case rel=>exact⟨j+1,A9,c9,AF,AA,by rw[bh],LH (by rw[bh];exact du),ds,dm⟩
    simp[intOf] <;> omega
   obtain rfl:j=kk:=AA
   obtain⟨F,ba⟩:∃F,Hid (Zx (Zv G) E (n-j)=F):=⟨_,LH rfl⟩;have b1:Hid (F<big):=LH (by rw[<-ba];exact HF);have a9:Hid (v+q*F=r):=LH (by
    rw[<-ba];have h1:=Hv.out;have h2:=ce.out;omega)
   have bg:Hid (r<big):=LH (by have h1:=cd.out;have h2:=cc.out;omega);have d0:Hid (q<big):=LH (by
    have h1:=a9.out;have h2:=bg.out;have h3:0<F:=by rw[<-ba];have:=d2.out;omega
    have h4:q<=q*F:=Nat.le_mul_of_pos_right _ h3;omega)
   have HQ:=LH (b6.kept a7);have dn:=LH (b2.trans a7);clear b6 b2 a7;have d1:Hid (q*F<big):=LH (by have h1:=a9.out;have h2:=bg.out;omega);go_upto_region 14 with fail;refine Yi (Γ:=Unit) (λ_ b u X=>(Wd N k h G S3 X/\Off k.map wr X)/\Do b u 99 undef) (λX R=>Zf X R) () (λu=>(⟨(.pointer (some ⟨I,0,none⟩) :: .slice (some ⟨V,Y,none⟩) (E.length+1) O::undef::undef :: .slice none 0 0 :: .int .i64 0 :: .slice A6 (limbs q).length c6 :: .int .i64 (j:Int) :: .slice Av (limbs v).length cv :: .int .i64 ((n-j:Nat):Int) :: .int .i64 (n:Int)::u11::u 14::u 15::u14::u15::u16::u17::u18::u19::u20::u21::u22::u23::u24::u25 :: .tuple #[.slice A3 (limbs U).length c3,.int .i64 ((n-j:Nat):Int)] :: .pointer (some ⟨I,0,none⟩) :: .slice (some ⟨V,Y,none⟩) (E.length+1) O :: .slice At E.length (O-1) :: .tuple #[.slice A3 (limbs U).length c3,.int .i64 ((n-j:Nat):Int)] :: .slice A3 (limbs U).length c3 :: .int .i64 ((n-j:Nat):Int) :: .int .i64 (j:Int) :: .int .i64 ((n-j:Nat):Int) :: .int .i64 (n:Int) :: .int .i64 (j:Int) :: .int .i64 (j:Int) :: .bool false::u39::u40::u41::u42::u43::u44::u45::u46::u47::u48::u49::u50::u51::u 11::u 0::u 1::u 2::u 3::u 4::u 5::u 6::u 7::u 8::u 9::u 10::u 12::u 13::u66::u67::u68::u69::[]).toArray,[]⟩:Act)) [u53,u54,u55,u56,u57,u58,u59,u60,u61,u62,u63,u52,u64,u65,undef,undef] [λv X=>v = .slice A6 (limbs q).length c6,λv X=>v = .pointer (some ⟨I,0,none⟩),λv X=>v = .pointer (some ⟨I,0,none⟩),λv X=>v = .pointer (some ⟨I,0,none⟩),λv X=>v = .pointer (some ⟨k.c,0,none⟩),λv X=>v = .slice (some ⟨V,Y,none⟩) (E.length+1) O,λv X=>v = .slice At E.length (O-1),λv X=>v = .int .i64 ((n-j:Nat):Int),λv X=>∃Z ag ad ah,v = .agg #[.slice Z ag ad,.bool ah]/\Z1 X Z ag ad ah F,λv X=>∃y B,v = .slice y (limbs (F)).length B/\Zq .u32 X y (limbs (F)).length B (limbs (F)),λv X=>∃y B T,v = .tuple #[.slice y (limbs (q*F)).length B,.int .i64 T]/\Zq .u32 X y (limbs (q*F)).length B (limbs (q*F)),λv X=>∃y B T,v = .tuple #[.slice y (limbs (q*F)).length B,.int .i64 T]/\Zq .u32 X y (limbs (q*F)).length B (limbs (q*F)),λv X=>∃y B,v = .slice y (limbs (q*F)).length B/\Zq .u32 X y (limbs (q*F)).length B (limbs (q*F)),λv X=>∃z9:Int,v = .int .i64 z9,λv X=>∃y B,v = .slice y (limbs (q*F)).length B/\Zq .u32 X y (limbs (q*F)).length B (limbs (q*F)),λv X=>∃z9:Int,v = .int .i64 z9] (l:=[_,_,_,_,_,_,_,_,_,_,_,_,_,_,_,_]) AB AB rfl ⟨⟨J.bk.below (AL _ _).drew,Off.of_below (AL _ _).drew⟩,λ_=>rfl⟩ ⟨AI,AI,AI,AI,AI,AI,AI,AI,(λv X R ⟨Z,ag,ad,ah,e,h⟩ H=>⟨Z,ag,ad,ah,e,h.kept H⟩),(λv X R ⟨y,B,e,h⟩ H=>⟨y,B,e,h.kept H⟩),(λv X R ⟨y,B,T,e,h⟩ H=>⟨y,B,T,e,h.kept H⟩),(λv X R ⟨y,B,T,e,h⟩ H=>⟨y,B,T,e,h.kept H⟩),(λv X R ⟨y,B,e,h⟩ H=>⟨y,B,e,h.kept H⟩),(λv X R h _=>h),(λv X R ⟨y,B,e,h⟩ H=>⟨y,B,e,h.kept H⟩),(λv X R h _=>h),trivial⟩ ?_ ?_
   ·refine Zw.con (λQ g b u X D L a d K f=>?_) ?_
    ·have C:=λv=>a.2.other 0 v AC;have o:=a.1;clear d a D;go_simp;exact f _ () _ ⟨AJ _,λ_ _ _=>rfl⟩ ⟨o,C _⟩ rfl
    refine Zw.con (λQ g b u X D L a d K f=>?_) ?_
    ·have C:=λv=>a.2.other 1 v AC;have o:=a.1;clear d a D;go_simp;exact f _ () _ ⟨AJ _,λ_ _ _=>rfl⟩ ⟨o,C _⟩ rfl
    refine Zw.con (λQ g b u X D L a d K f=>?_) ?_
    ·have p1:u 1=_:=(d 1 rfl).2;have C:=λv=>a.2.other 2 v AC;have o:=a.1;clear d a D;rw[p1] at f⊢;go_simp;exact f _ () _ ⟨AJ _,λ_ _ _=>rfl⟩ ⟨o,C _⟩ rfl
    refine Zw.con (λQ g b u X D L a d K f=>?_) ?_
    ·have p2:u 2=_:=(d 2 rfl).2;have C:=λv=>a.2.other 3 v AC;have o:=a.1;clear d a D;rw[p2] at f⊢;go_simp;exact f _ () _ ⟨AJ _,λ_ _ _=>rfl⟩ ⟨o,C _⟩ rfl
    refine Zw.con (λQ g b u X D L a d K f=>?_) ?_
    ·have p3:u 3=_:=(d 3 rfl).2;have C:=λv=>a.2.other 4 v AC;have o:=a.1;have gX:=o.2.blk J.box (J.bk.not_map J.box);have y0:X.cell? ⟨I,0,none⟩=some (.pointer (some ⟨k.c,0,none⟩)):=gX.cell 0;have yl:=gX.lt;clear gX;clear d a D;rw[p3] at f⊢;go_simp;exact f _ () _ ⟨AJ _,λ_ _ _=>rfl⟩ ⟨o,C _⟩ rfl
    refine Zw.con (λQ g b u X D L a d K f=>?_) ?_
    ·have C:=λv=>a.2.other 5 v AC;have o:=a.1;clear d a D;go_simp;exact f _ () _ ⟨AJ _,λ_ _ _=>rfl⟩ ⟨o,C _⟩ rfl
    refine Zw.con (λQ g b u X D L a d K f=>?_) ?_
    ·have p5:u 5=_:=(d 5 rfl).2;have C:=λv=>a.2.other 6 v AC;have o:=a.1;clear d a D;rw[p5] at f⊢;go_simp;exact f _ () _ ⟨AJ _,λ_ _ _=>rfl⟩ ⟨o,C _⟩ rfl
    refine Zw.con (λQ g b u X D L a d K f=>?_) ?_
    ·have C:=λv=>a.2.other 7 v AC;have o:=a.1;clear d a D;go_simp;exact f _ () _ ⟨AJ _,λ_ _ _=>rfl⟩ ⟨o,C _⟩ rfl
    refine Zw.con (λQ g b u X D L a d K f=>?_) ?_
    ·have p4:u 4=_:=(d 4 rfl).2;have p6:u 6=_:=(d 6 rfl).2;have p7:u 7=_:=(d 7 rfl).2;have C:=λv=>a.2.other 8 v AC;have o:=a.1;have CC:=Zzz HB K2 H2 S3 X At (O-1) o.1 (λb H=>AK (J.lt b H) o.2.size) (di.below o.1.base);clear d a D;rw[p4,p6,p7] at f⊢;go_simp;go_at_call 125;refine CC.mono ?_;rintro e R⟨fh,cs,Z,ag,ad,ah,rfl,hv⟩;rw[ba] at hv;go_simp;exact f _ () _ (o.1.keep cs) ⟨⟨fh,o.2.map_trans cs⟩,C _⟩ ⟨Z,ag,ad,ah,rfl,hv⟩
    refine Zw.con (λQ g b u X D L a d K f=>?_) ?_
    ·obtain⟨Z,ag,ad,ah,p8,hv⟩:=(d 8 rfl).2;have C:=λv=>a.2.other 9 v AC;have o:=a.1;have cr:Zq .u32 X Z ag ad (limbs F):=by
      have h1:=hv.2;rwa [Z7 b1] at h1
     obtain rfl:=cr.len;clear d a D;generalize u 8=x8 at *;subst p8;go_simp;exact f _ () _ ⟨AJ _,λ_ _ _=>rfl⟩ ⟨o,C _⟩ ⟨_,_,rfl,cr⟩
    refine Zw.con (λQ g b u X D L a d K f=>?_) ?_
    ·have p0:u 0=_:=(d 0 rfl).2;obtain⟨y,B,p9,P⟩:=(d 9 rfl).2;have C:=λv=>a.2.other 10 v AC;have o:=a.1;have fi:=HQ.kept (J.bk.keep o.2);have CC:=F2 A6 _ c6 (limbs q) y _ B (limbs F) X fi P (Z9 _) (Z9 _);rw[Nw q F d0 b1,Km d1] at CC;clear d a D;rw[p0] at f⊢;generalize u 9=x9 at *;subst p9;go_simp;go_at_call 177;refine CC.mono ?_;rintro e R⟨A9,c9,rfl,fr,H⟩;go_simp;exact f _ () _ (.of_below H) ⟨⟨o.1.below H,o.2.map_trans (Off.of_below H)⟩,C _⟩ ⟨A9,c9,_,rfl,fr⟩
    refine Zw.con (λQ g b u X D L a d K f=>?_) ?_
    ·obtain⟨y,B,T,fu,P⟩:=(d 10 rfl).2;have C:=λv=>a.2.other 11 v AC;have o:=a.1;clear d a D;generalize u 10=g2 at *;subst fu;go_simp;exact f _ () _ ⟨AJ _,λ_ _ _=>rfl⟩ ⟨o,C _⟩ ⟨_,_,_,rfl,P⟩
    refine Zw.con (λQ g b u X D L a d K f=>?_) ?_
    ·obtain⟨y,B,T,bt,P⟩:=(d 11 rfl).2;have C:=λv=>a.2.other 12 v AC;have o:=a.1;clear d a D;generalize u 11=f8 at *;subst bt;go_simp;exact f _ () _ ⟨AJ _,λ_ _ _=>rfl⟩ ⟨o,C _⟩ ⟨_,_,rfl,P⟩
    refine Zw.con (λQ g b u X D L a d K f=>?_) ?_
    ·obtain⟨y,B,T,bt,P⟩:=(d 11 rfl).2;have C:=λv=>a.2.other 13 v AC;have o:=a.1;clear d a D;generalize u 11=f8 at *;subst bt;go_simp;exact f _ () _ ⟨AJ _,λ_ _ _=>rfl⟩ ⟨o,C _⟩ ⟨_,rfl⟩
    refine Zw.con (λQ g b u X D L a d K f=>?_) ?_
    ·obtain⟨y,B,fv,P⟩:=(d 12 rfl).2;have C:=λv=>a.2.other 14 v AC;have o:=a.1;clear d a D;generalize u 12=g3 at *;subst fv;go_simp;exact f _ () _ ⟨AJ _,λ_ _ _=>rfl⟩ ⟨o,C _⟩ ⟨_,_,rfl,P⟩
    refine Zw.con (λQ g b u X D L a d K f=>?_) ?_
    ·obtain⟨z9,fw⟩:=(d 13 rfl).2;have C:=λv=>a.2.other 15 v AC;have o:=a.1;clear d a D;generalize u 13=g4 at *;subst fw;go_simp;exact f _ () _ ⟨AJ _,λ_ _ _=>rfl⟩ ⟨o,C _⟩ ⟨_,rfl⟩
    exact Zw.nil
   intro _ b9 u X9 fk aj d;obtain⟨aj,fm⟩:=aj;clear fk fm;obtain⟨y,B,df,c1⟩:=d 14 AC;obtain⟨hg,dg⟩:=d 15 AC;clear d b9;rw[df,dg];clear df dg;generalize u 0=w0 at *;generalize u 1=w1 at *;generalize u 2=w2 at *;generalize u 3=w3 at *;generalize u 4=w4 at *;generalize u 5=w5 at *;generalize u 6=w6 at *;generalize u 7=w7 at *;generalize u 8=w8 at *;generalize u 9=w9 at *;generalize u 10=gm at *;generalize u 11=gn at *;generalize u 12=gp at *;generalize u 13=gq at *;clear u;have dt:=LH (J.off aj.1 aj.2);have dp:=LH (dn.trans (J.bk.keep aj.2));have CO:=Ztm Av cv v y B (q*F) X9 (HN.kept (J.bk.keep aj.2)) c1 (by have h1:=a9.out;have h2:=bg.out;omega);rw[a9] at CO;have CO:=LH CO;clear aj c1 g0 gl;go_wp2_with (first
    | (go_at_call 124
       refine CO.out.mono ?_;rintro e W5⟨A9,c9,rfl,P,au⟩))
   go_ret2;exact⟨A9,c9,rfl,P,⟨S3,A5,c5,dt.below au⟩,dp.trans (.of_below au)⟩
