/- the reading of a grammar, its counts, and what is drawn: lemmas -/
import Derived.Test.YtaagompdgiobeaaGreatDoorJ08
set_option linter.all false
set_option maxHeartbeats 1500000
set_option maxRecDepth 100000
namespace Go.Proofs.YtaagompdgiobeaaGreatDoor
open Go.RowKit Go.Proofs.Tryz
open Go.Value renaming slice→K,slice→aK,int→aI,bool→aB,pointer→aP,string→aS,agg→aG open Go.IntKind renaming i64→aJ open Go.Obj renaming cells→aC open Go.Ending renaming returned→aR open List renaming length→Q,length→aQ open Option renaming none→aN
section
variable{f:Option Addr}{p:Qr}{j:Array Value}
def Zu6(Ar:Option Addr)(cr a:Nat)(b:Option Addr)(ns c:Nat)(k:Bool)(x:Nat)(w:World)(y:Zq .u32 w Ar (Zq3 a).length cr (Zq3 a))(A:a<big)(B:Z1 w b ns c k x):
 Calls prog 108 #[K Ar (Zq3 a).length cr,aG #[K b ns c,aB k]] w (RetOver a x Ar cr w):=by
 have o:=Zy w (aC #[K b ns c,aB k] 168);have n:=Blk.new w 168 #[K b ns c,aB k];have z:=y.below o;have p:=B.below o;have q:=LH o;have v:=LH z;go_enter func108,ntmps108;go_upto_region 1 with fail;generalize w.alloc (aC #[K b ns c,aB k] 168)=j at *;have N:=n.cell 0;have O:=n.cell 1;have P:=n.lt;have H:=LH n;rcases p.cases with ⟨C,rfl,ex⟩ | ⟨C,rfl,ex⟩
 case inr =>
  have g:a<x:=AA
  go_wp2_with fail;go_ret2;exact⟨q,.inl ⟨g,rfl⟩⟩
 have m:=p.2;rw[ex] at m;obtain rfl:=m.len;have G:=LH m;have l:=Zym Ar _ cr (Zq3 a) b _ c (Zq3 x) j v m (Z9 _) (Z9 _);rw[Zvu A C] at l;have l:=LH l;by_cases g:a<x
 case pos =>
  have J:=Q5.2 g;have s:=LH g;go_wp2_with (
   go_at_call 47;refine l.out.mono ?_;rintro e d⟨rfl,u⟩;have r:=LH (Zz q (u.below _)))
  go_ret2;exact⟨r,.inl ⟨s,rfl⟩⟩
 have J:¬Vm a x<0:=λh=>g (Q5.1 h);have s:Hid (x<=a):=LH AA;have E:Hid (∀d,Below j j d->Calls prog 103 #[K Ar (Zq3 a).length cr,K b (Zq3 x).length c] d (Xr d (Zq3 (a-x),0))):=LH λd f=>by
  have h:=nat_sub Ar _ cr (Zq3 a) b _ c (Zq3 x) d (v.below f) (G.below f) (Z9 _) (Z9 _);rwa [Zw6 A AA] at h
 go_wp2_with (first
  | (go_at_call 47
     refine l.out.mono ?_;rintro e d⟨rfl,u⟩;have f:=u.below j;have t:=H.ext f;have R:=t.cell 0;have S:=t.lt;have F:=LH (E d f);have r:=LH (Zz q f))
  | (go_at_call 103
     refine F.out.mono ?_;rintro e M⟨D,c3,rfl,L,I⟩))
 go_ret2;exact⟨Zz r I,.inr ⟨s,D,c3,rfl,L⟩⟩
theorem Zw0{Y:World}{k:BkH}{h:GH}{G:Gr}(hB:BkG Y h G)(hP:Xq G)(m:Nat)(HT:TC Y k h G m):FC Y k h G m:=by
 intro mk cs l n r t Al cl Ar cr w fb hU dm dw C hh hl hr a;have HB:=LH hB;have HP:=LH hP;have fj:=LH HT;have HU:=LH hU;have am:=LH dm;have a1:=LH dw;have HK:=LH C;have Hh:=LH hh;have HL:=LH hl;have HR:=LH hr;have O:=LH a;clear hB hP HT hU dm dw C hh hl hr a;go_enter func110,ntmps110;go_wp2_with fail;go_loopw [1,2,3] (λv1 v2 v3 wr=>∃(l':List Int) (Al:Option Addr) (cl D r':Nat) (R:Option Addr) (T:Nat) (t' V:List Nat),v1 = .slice Al l'.length cl/\v2 = .int .i64 (D:Int)/\v3 = .slice R (Zq3 r').length T/\Hid (UnL G l' D r' t')/\Hid (InG G l')/\Hid (Zx (Zv G) l' D<big)/\Hid (J1 l' D)/\Hid (∀s∈l',G.has s=true)/\Hid (Za .i64 Y Al l'.length cl l')/\Hid (Zq .u32 wr R (Zq3 r').length T (Zq3 r'))/\Hid (MkAt Y k h G mk V wr)/\Hid (Zu w wr)/\Hid (V++t'=cs++t)/\Hid (t'.length<=m)) (λv1 _ _ _=>slLen v1)
 case atStart=>exact⟨l,Al,cl,n,r,Ar,cr,t,cs,rfl,rfl,rfl,HU,am,a1,HK,Hh,HL,HR,O,LH (Zu.refl _),LH rfl,LH fb⟩
 clear HU am a1 HK Hh HL HR O fb;obtain⟨l',gp,Z,D,r',R,T,t',V,rfl,rfl,rfl,HU,am,a1,HK,Hh,HL,HN,bn,b6,bq,cf⟩:=hrel;rcases l' with _ | ⟨s,I⟩
 case nil =>
  have e:t'=[]:=by
   have:=HU.out;cases this;rfl
  subst e;go_wp2_with fail;go_ret;obtain⟨S,A,c,M⟩:=bn.out;have dx:=bq.out;rw[DJ] at dx;subst dx;have:=M.few;rw[AU] at this;exact⟨b6.out,.inl ⟨this,rfl,bn.out⟩⟩
 obtain⟨kk,q,N,t1,t2,fz,d9,co,hq,du,rfl,d6,a4⟩:=HU.out.parts HP.out am.out;obtain⟨ds,hF,d7⟩:=Zxk fz hq co a1.out;have d2:=HU.out.lt HP.out am.out;have ce:=LH d9;have dg:=LH co;have Hq:=LH hq;have cc:=LH du;have fo:=LH d6;have fn:=LH a4;have fk:=LH ds;have HF:=LH hF;have fp:=LH d7;have df:=LH d2;have g2:=HK.out.n;have f2:=HK.out.len;have f1:=HL.out.cap;clear d9 co hq du d6 a4 ds hF d7 d2;obtain⟨S,A,c,dn⟩:=bn.out;have c5:=LH dn;clear bn dn;obtain⟨ab,ao,s',rfl,dv,dh,f4⟩:=HL.out.get (j:=0) AE;obtain rfl:s=s':=by
  have:=dh.out;simpa using this
 have bt:=HL.out.tail1;rw[show (s::I).length-1=I.length from rfl] at bt;obtain⟨At,ft⟩:∃At:Option Addr,(if Z=1 then some (⟨ab,ao,none⟩:Addr) else some ⟨ab,ao+1,none⟩)=At:=⟨_,rfl⟩;rw[ft] at bt;have b0:=LH bt;clear bt dh;simp only[AY] at f2 f1 ⊢;have gw:(1:Int)<=(Z:Int):=AA
 have g1:(1:Int)<=(I.length:Int)+1:=AA
 go_upto_region 4 with fail;go_loopw [3,9,10] (λv3 v9 gk wz=>∃(j E:Nat) (R:Option Addr) (T:Nat),v3 = .slice R (Zq3 E).length T/\v9 = .int .i64 (j:Int)/\gk = .bool (decide (j<=kk))/\j<=kk+1/\Hid (j<=kk->r'=Yv (Zv G) s I D j+E)/\Hid (j=kk+1->E=q*Zx (Zv G) I (D-kk)+N)/\Hid (Zq .u32 wz R (Zq3 E).length T (Zq3 E))/\Hid (Me Y k h G mk V S A c wz)/\Hid (Zu w wz)) (λ_ i _ _=>kk+2-(intOf i).toNat)
 case atStart=>exact⟨0,r',R,T,rfl,rfl,AE,AV _,LH (λ_=>by rw[Ug];omega),LH (λh=>AA),HN,c5,b6⟩
 clear HN c5 b6;obtain⟨j,E,R,T,rfl,rfl,rfl,fx,Hj,de,HN,O,bm⟩:=hrel;by_cases hj:j<=kk
 case pos =>
  have bg:=Hj.out hj;have cu:E<big:=by have:=df.out;have:=a1.out;omega
  obtain⟨x,hx⟩:∃x,Zv G s j*Zx (Zv G) I (D-j)=x:=⟨_,rfl⟩;have fa:Yv (Zv G) s I D (j+1)=Yv (Zv G) s I D j+x:=by rw[Xy,hx]
  have M:=O.out;have CP:Calls prog 166 #[.pointer (some ⟨k.c,0,none⟩),.slice (some ⟨ab,ao,none⟩) (I.length+1) Z,.int .i64 (j:Int),.int .i64 (D:Int)] wr (Zuw Y k h G S wr x):=by
   have h1:=tr_pair HB.out (s:=s) (l:=I) (kk:=j) (n:=D) HK.out AA Hh.out S wr (some ⟨ab,ao,none⟩) Z M.bk M.lt HL.out;rw[fsingle,hx] at h1;exact h1
  have CP:=LH CP;have br:=LH cu;have g0:wr.cell? ⟨mk,0,none⟩=some (.pointer (some ⟨k.c,0,none⟩)):=M.box.cell 0;have gl:=M.box.lt;by_cases gy:j<kk
  case pos =>
   have HX:Hid (x<=E):=LH (by
    have h1:=Wz (Zv G) s I D (show j+1<=kk by omega);have P:=ce.out;omega)
   have fq:Hid (r'=Yv (Zv G) s I D (j+1)+(E-x)):=LH (by have:=HX.out;omega);clear bg cu hx fa M;go_wp2_with (first
    | (go_at_call 166
       (with_reducible refine CP.out.mono ?_);rintro e W2⟨bc,av,A8,n8,c8,d8,rfl,bh⟩;have aw:=O.out.bk.keep av;have b7:=LH (O.out.off bc av);have bo:=LH (HN.out.kept aw);have b2:=LH (bm.out.trans (Zu.of_int aw));have CO:=LH (Zu6 R T E A8 n8 c8 d8 x W2 bo.out br.out bh);clear bc av bh aw)
    | (go_at_call 108
       (with_reducible refine CO.out.mono ?_);rintro e W3⟨ai,bf⟩;obtain⟨A9,c9,rfl,d3⟩:∃A9 c9,e = .returned (.tuple #[.slice A9 (Zq3 (E-x)).length c9,.bool true])/\Zq .u32 W3 A9 (Zq3 (E-x)).length c9 (Zq3 (E-x)):=by
        rcases bf with ⟨P,rfl⟩ | ⟨P,A9,c9,rfl,h3⟩
        ·have:=HX.out;omega
        exact⟨A9,c9,rfl,h3⟩
       have b8:=LH (b7.out.below ai);have cb:=LH d3;have b3:=LH (b2.out.trans (Zu.of_below ai));clear ai bf d3))
   go_roundw
   case rel=>exact⟨j+1,E-x,A9,c9,rfl,AF,by rw[DV (AA:j+1<=kk)],AA,LH (λ_=>fq.out),LH (λh=>AA),cb,b8,b3⟩
   simp[intOf] <;> omega
  obtain rfl:j=kk:=AA
  have a9:Hid (E=q*Zx (Zv G) I (D-j)+N):=LH (by have:=ce.out;omega);have HX:Hid (E<x):=LH (by have h1:=fp.out;have P:=a9.out;omega);clear bg cu hx fa M;go_wp2_with (first
   | (go_at_call 166
      (with_reducible refine CP.out.mono ?_);rintro e W2⟨bc,av,A8,n8,c8,d8,rfl,bh⟩;have aw:=O.out.bk.keep av;have b7:=LH (O.out.off bc av);have bo:=LH (HN.out.kept aw);have b2:=LH (bm.out.trans (Zu.of_int aw));have CO:=LH (Zu6 R T E A8 n8 c8 d8 x W2 bo.out br.out bh);clear bc av bh aw)
   | (go_at_call 108
      (with_reducible refine CO.out.mono ?_);rintro e W3⟨ai,bf⟩;obtain rfl:e = .returned (.tuple #[.slice R (Zq3 E).length T,.bool false]):=by
       rcases bf with ⟨P,rfl⟩ | ⟨P,A9,c9,rfl,h3⟩
       ·rfl
       have:=HX.out;omega
      have b8:=LH (b7.out.below ai);have cb:=LH (bo.out.below ai);have b3:=LH (b2.out.trans (Zu.of_below ai));clear ai bf))
  go_roundw
  case rel=>exact⟨j+1,E,R,T,rfl,AF,by rw[BV (AA:¬j+1<=j)],AA,LH (λh=>AA),LH (λ_=>a9.out),cb,b8,b3⟩
  simp[intOf] <;> omega
 obtain rfl:j=kk+1:=AA
 obtain rfl:=de.out rfl;clear hj fx Hj de;generalize bg:q*Zx (Zv G) I (D-kk)+N=E at *;have a9:=LH bg;clear bg;have gz:IntKind.i64.wrap ((kk:Int)+1-1)=(kk:Int):=by rw[BZ _ AA];omega
 obtain⟨F,ba⟩:∃F,Hid (Zx (Zv G) I (D-kk)=F):=⟨_,LH rfl⟩;have c3:Hid (F<big):=LH (by rw[<-ba.out];exact HF.out);have c2:Hid (0<F):=LH (by rw[<-ba.out];have:=dg.out;omega);have ct:E=q*F+N:=by rw[<-ba.out];exact a9.out.symm
 have cp:N<F:=by rw[<-ba.out];exact dg.out
 have fl:Hid (E / F=q):=LH (by rw[ct,Ef,Nat.mul_add_div c2.out,Nat.div_eq_of_lt cp,DN]);have fm:Hid (E % F=N):=LH (by rw[ct,Ef,Nat.mul_add_mod,Ec cp]);have br:Hid (E<big):=LH (by have h1:=ce.out;have P:=df.out;have h3:=a1.out;have h4:=a9.out;omega);have K2:Hid (J1 I (D-kk)):=LH ⟨λx hx=>HK.out.sym x (.tail _ hx),AA,AA⟩;have H2:Hid (∀x∈I,G.has x=true):=LH λx hx=>Hh.out x (.tail _ hx);clear ct cp;go_upto_region 8 with fail;generalize decide (kk+1<=kk)=dj at *;generalize ((kk+1:Nat):Int)=f5 at *;refine Yi (Γ:=Unit) (λ_ b u X=>(Wd Y k h G S X/\Off k.map wr X)/\Do b u 99 undef) (λX U=>Zf X U) () (λu=>(⟨(.pointer (some ⟨mk,0,none⟩) :: .slice (some ⟨ab,ao,none⟩) (I.length+1) Z :: .int .i64 (D:Int) :: .slice R (Zq3 E).length T::undef::undef::undef::undef::u8 :: .int .i64 (kk:Int) :: .bool dj::u 17::u 18::u 19 :: .slice (some ⟨ab,ao,none⟩) (I.length+1) Z :: .int .i64 ((I.length:Int)+1) :: .bool true :: .bool dj::u18::u19::u20::u21::u22::u23::u24::u25::u26::u27::u28::u29::u30::u31::u32 :: .int .i64 f5 :: .int .i64 (kk:Int)::u 13::u 0::u 1::u 2::u 3::u 4::u 5::u 6::u 7::u 8::u 9::u 10::u 11::u 12::u 14::u 15::u 16::u52::u53::u54::u55::u56::u57::u58::u59::u60::u61::u62::u63::u64::u65::u66::u67::u68::u69::u70::u71::u72::[]).toArray,[]⟩:Act)) [u36,u37,u38,u39,u40,u41,u42,u43,u44,u45,u46,u47,u48,u35,u49,u50,u51,u11,u12,u13] [λv X=>v = .slice R (Zq3 E).length T,λv X=>v = .pointer (some ⟨mk,0,none⟩),λv X=>v = .pointer (some ⟨mk,0,none⟩),λv X=>v = .pointer (some ⟨mk,0,none⟩),λv X=>v = .pointer (some ⟨k.c,0,none⟩),λv X=>v = .slice (some ⟨ab,ao,none⟩) (I.length+1) Z,λv X=>v = .slice At I.length (Z-1),λv X=>v = .int .i64 (D:Int),λv X=>v = .int .i64 (kk:Int),λv X=>v = .int .i64 ((D-kk:Nat):Int),λv X=>∃A1 n1 c1 d1,v = .agg #[.slice A1 n1 c1,.bool d1]/\Z1 X A1 n1 c1 d1 F,λv X=>∃d o,v = .slice d (Zq3 F).length o/\Zq .u32 X d (Zq3 F).length o (Zq3 F),λv X=>∃d o Ar cr z,v = .tuple #[.slice d (Zq3 q).length o,.slice Ar (Zq3 N).length cr,.int .i64 z]/\Zq .u32 X d (Zq3 q).length o (Zq3 q)/\Zq .u32 X Ar (Zq3 N).length cr (Zq3 N),λv X=>∃d o Ar cr z,v = .tuple #[.slice d (Zq3 q).length o,.slice Ar (Zq3 N).length cr,.int .i64 z]/\Zq .u32 X d (Zq3 q).length o (Zq3 q)/\Zq .u32 X Ar (Zq3 N).length cr (Zq3 N),λv X=>∃d o,v = .slice d (Zq3 q).length o/\Zq .u32 X d (Zq3 q).length o (Zq3 q),λv X=>∃d o,v = .slice d (Zq3 N).length o/\Zq .u32 X d (Zq3 N).length o (Zq3 N),λv X=>∃z:Int,v = .int .i64 z,λv X=>∃d o,v = .slice d (Zq3 q).length o/\Zq .u32 X d (Zq3 q).length o (Zq3 q),λv X=>∃d o,v = .slice d (Zq3 N).length o/\Zq .u32 X d (Zq3 N).length o (Zq3 N),λv X=>∃z:Int,v = .int .i64 z] (l:=[_,_,_,_,_,_,_,_,_,_,_,_,_,_,_,_,_,_,_,_]) AB AB rfl ⟨⟨O.out.bk.below (AP _ _).drew,Off.of_below (AP _ _).drew⟩,λ_=>rfl⟩ ⟨AI,AI,AI,AI,AI,AI,AI,AI,AI,AI,(λv X U ⟨A1,n1,c1,d1,e,h⟩ J=>⟨A1,n1,c1,d1,e,h.kept J⟩),(λv X U ⟨d,o,e,h⟩ J=>⟨d,o,e,h.kept J⟩),(λv X U ⟨d,o,Ar,cr,z,e,h1,P⟩ J=>⟨d,o,Ar,cr,z,e,h1.kept J,P.kept J⟩),(λv X U ⟨d,o,Ar,cr,z,e,h1,P⟩ J=>⟨d,o,Ar,cr,z,e,h1.kept J,P.kept J⟩),(λv X U ⟨d,o,e,h⟩ J=>⟨d,o,e,h.kept J⟩),(λv X U ⟨d,o,e,h⟩ J=>⟨d,o,e,h.kept J⟩),(λv X U h _=>h),(λv X U ⟨d,o,e,h⟩ J=>⟨d,o,e,h.kept J⟩),(λv X U ⟨d,o,e,h⟩ J=>⟨d,o,e,h.kept J⟩),(λv X U h _=>h),trivial⟩ ?_ ?_
 ·refine Zw.v0 ?_;refine Zw.v0 ?_;refine Zw.v1 1 ?_;refine Zw.v1 2 ?_;refine Zw.vf (λQ g b u X K H W a f C=>?_) ?_
  ·have p3:u 3=_:=f 3 rfl;have B:=a.1;have gX:=B.2.blk O.out.box (O.out.bk.not_map O.out.box);have y0:X.cell? ⟨mk,0,none⟩=some (.pointer (some ⟨k.c,0,none⟩)):=gX.cell 0;have yl:=gX.lt;clear gX;clear f a H;generalize u 3=x3 at *;subst p3;go_simp;exact C
  refine Zw.v0 ?_;refine Zw.vf (λQ g b u X K H W a f C=>?_) ?_
  ·have p5:u 5=_:=f 5 rfl;clear f a H;generalize u 5=x5 at *;subst p5;go_simp;exact C
  refine Zw.v0 ?_;refine Zw.v0 ?_;refine Zw.con (λQ g b u X H W a y K C=>?_) ?_
  ·have p7:u 7=_:=(y 7 rfl).2;have p8:u 8=_:=(y 8 rfl).2;have L:=λv=>a.2.other 9 v AC;have B:=a.1;have hw:IntKind.i64.wrap ((D:Int)-(kk:Int))=((D-kk:Nat):Int):=by rw[BZ _ AA];omega
   clear y a H;generalize u 7=x7 at *;subst p7;generalize u 8=x8 at *;subst p8;go_simp;exact C _ () _ ⟨AJ _,λ_ _ _=>rfl⟩ ⟨B,L _⟩ (by first | rfl | rw[hw])
  refine Zw.con (λQ g b u X H W a y K C=>?_) ?_
  ·have p4:u 4=_:=(y 4 rfl).2;have p6:u 6=_:=(y 6 rfl).2;have p9:u 9=_:=(y 9 rfl).2;have L:=λv=>a.2.other 10 v AC;have B:=a.1;have CC:=Zzz HB.out K2.out H2.out S X At (Z-1) B.1 (λb J=>AK (O.out.lt b J) B.2.size) (b0.out.below B.1.base);clear y a H;rw[p4,p6,p9] at C⊢;go_simp;go_at_call 109;(with_reducible refine CC.mono ?_);rintro e U⟨fu,dq,A1,n1,c1,d1,rfl,hv⟩;rw[ba.out] at hv;go_simp;exact C _ () _ (B.1.keep dq) ⟨⟨fu,B.2.map_trans dq⟩,L _⟩ ⟨A1,n1,c1,d1,rfl,hv⟩
  refine Zw.con (λQ g b u X H W a y K C=>?_) ?_
  ·obtain⟨A1,n1,c1,d1,f6,hv⟩:=(y 10 rfl).2;have L:=λv=>a.2.other 11 v AC;have B:=a.1;have dp:Zq .u32 X A1 n1 c1 (Zq3 F):=by
    have h1:=hv.2;rwa [Z7 c3.out] at h1
   obtain rfl:=dp.len;clear y a H;generalize u 10=hu at *;subst f6;go_simp;exact C _ () _ ⟨AJ _,λ_ _ _=>rfl⟩ ⟨B,L _⟩ ⟨_,_,rfl,dp⟩
  refine Zw.con (λQ g b u X H W a y K C=>?_) ?_
  ·have p0:u 0=_:=(y 0 rfl).2;obtain⟨d,o,f7,hn⟩:=(y 11 rfl).2;have L:=λv=>a.2.other 12 v AC;have B:=a.1;have fv:=HN.out.kept (O.out.bk.keep B.2);have CC:=nat_quo R _ T (Zq3 E) d _ o (Zq3 F) X fv hn (Z9 _) (Z9 _);rw[Zv2 br.out c3.out c2.out,fl.out,fm.out] at CC;unfold RetQuo at CC;clear y a H;rw[p0] at C⊢;generalize u 11=hy at *;subst f7;go_simp;go_at_call 167;(with_reducible refine CC.mono ?_);rintro e U⟨d,o,Ar,cr,rfl,ax,ay,J⟩;go_simp;exact C _ () _ (.of_below J) ⟨⟨B.1.below J,B.2.map_trans (Off.of_below J)⟩,L _⟩ ⟨d,o,Ar,cr,_,rfl,ax,ay⟩
  refine Zw.con (λQ g b u X H W a y K C=>?_) ?_
  ·obtain⟨d,o,Ar,cr,z,f8,ax,ay⟩:=(y 12 rfl).2;have L:=λv=>a.2.other 13 v AC;have B:=a.1;clear y a H;generalize u 12=hz at *;subst f8;go_simp;exact C _ () _ ⟨AJ _,λ_ _ _=>rfl⟩ ⟨B,L _⟩ ⟨d,o,Ar,cr,z,rfl,ax,ay⟩
  refine Zw.con (λQ g b u X H W a y K C=>?_) ?_
  ·obtain⟨d,o,Ar,cr,z,bi,ax,ay⟩:=(y 13 rfl).2;have L:=λv=>a.2.other 14 v AC;have B:=a.1;clear y a H;generalize u 13=fg at *;subst bi;go_simp;exact C _ () _ ⟨AJ _,λ_ _ _=>rfl⟩ ⟨B,L _⟩ ⟨_,_,rfl,ax⟩
  refine Zw.con (λQ g b u X H W a y K C=>?_) ?_
  ·obtain⟨d,o,Ar,cr,z,bi,ax,ay⟩:=(y 13 rfl).2;have L:=λv=>a.2.other 15 v AC;have B:=a.1;clear y a H;generalize u 13=fg at *;subst bi;go_simp;exact C _ () _ ⟨AJ _,λ_ _ _=>rfl⟩ ⟨B,L _⟩ ⟨_,_,rfl,ay⟩
  refine Zw.con (λQ g b u X H W a y K C=>?_) ?_
  ·obtain⟨d,o,Ar,cr,z,bi,ax,ay⟩:=(y 13 rfl).2;have L:=λv=>a.2.other 16 v AC;have B:=a.1;clear y a H;generalize u 13=fg at *;subst bi;go_simp;exact C _ () _ ⟨AJ _,λ_ _ _=>rfl⟩ ⟨B,L _⟩ ⟨_,rfl⟩
  refine Zw.con (λQ g b u X H W a y K C=>?_) ?_
  ·obtain⟨d,o,f9,hn⟩:=(y 14 rfl).2;have L:=λv=>a.2.other 17 v AC;have B:=a.1;clear y a H;generalize u 14=h0 at *;subst f9;go_simp;exact C _ () _ ⟨AJ _,λ_ _ _=>rfl⟩ ⟨B,L _⟩ ⟨_,_,rfl,hn⟩
  refine Zw.con (λQ g b u X H W a y K C=>?_) ?_
  ·obtain⟨d,o,ga,hn⟩:=(y 15 rfl).2;have L:=λv=>a.2.other 18 v AC;have B:=a.1;clear y a H;generalize u 15=h5 at *;subst ga;go_simp;exact C _ () _ ⟨AJ _,λ_ _ _=>rfl⟩ ⟨B,L _⟩ ⟨_,_,rfl,hn⟩
  refine Zw.con (λQ g b u X H W a y K C=>?_) ?_
  ·obtain⟨z,gb⟩:=(y 16 rfl).2;have L:=λv=>a.2.other 19 v AC;have B:=a.1;clear y a H;generalize u 16=h6 at *;subst gb;go_simp;exact C _ () _ ⟨AJ _,λ_ _ _=>rfl⟩ ⟨B,L _⟩ ⟨_,rfl⟩
  exact Zw.nil
 intro _ b9 u X9 fw ah y;obtain⟨ah,fy⟩:=ah;clear fw fy;obtain⟨d,o,fd,d4⟩:=y 17 AC;obtain⟨Ar,cr,fe,d5⟩:=y 18 AC;obtain⟨jg,ff⟩:=y 19 AC;clear y b9;rw[fd,fe,ff];clear fd fe ff;generalize u 0=w0 at *;generalize u 1=w1 at *;generalize u 2=w2 at *;generalize u 3=w3 at *;generalize u 4=w4 at *;generalize u 5=w5 at *;generalize u 6=w6 at *;generalize u 7=w7 at *;generalize u 8=w8 at *;generalize u 9=w9 at *;generalize u 10=g6 at *;generalize u 11=g7 at *;generalize u 12=g8 at *;generalize u 13=g9 at *;generalize u 14=ha at *;generalize u 15=hc at *;generalize u 16=hd at *;clear u;have c6:=LH (O.out.off ah.1 ah.2);have b5:=LH (bm.out.trans (Zu.of_int (O.out.bk.keep ah.2)));have fi:=LH d4;have c7:=LH d5;have e0:X9.cell? ⟨ab,ao,none⟩=some (.int .i64 s):=(ah.1.base.cell (p:=⟨ab,ao+0,none⟩) dv).trans f4;have el:=AK dv ah.1.base.size;have g3:=(HK.out.sym s (By ..)).1;have g4:=(HK.out.sym s (By ..)).2;have hw:IntKind.i64.wrap ((D:Int)-(kk:Int))=((D-kk:Nat):Int):=by rw[BZ _ AA];omega
 have gq:=cc;have c4:Hid (InG G I):=am.out.tail;have f0:kk<=10:=AA
 clear ah d4 d5 O HN bm;by_cases a4:s<0
 case neg =>
  obtain⟨rfl,rfl,rfl⟩:=fo.out AA;have cd:Hid (V++t2=cs++t):=LH (by have:=bq.out;rwa [DA] at this);have cg:Hid (t2.length<=m):=LH (by have:=cf.out;rwa [DA] at this);go_wp2_with fail;go_roundw
  case rel=>exact⟨I,At,Z-1,D-1,N,Ar,cr,t2,V,rfl,AF,rfl,cc,c4,HF,K2,H2,b0,c7,LH ⟨S,A,c,c6.out⟩,b5,cd,cg⟩
  simp[slLen]
 have g5:IntKind.i64.wrap (-1-s)=((Zp s:Nat):Int):=by
  rw[BZ _ AA];unfold Zp;omega
 have CT:=fj.out mk V s kk q t1 d o X9 (by have:=cf.out;rw[AU] at this;omega) a4 (am.out s (By ..) a4) (fn.out a4) fk.out f0 fi.out ⟨S,A,c,c6.out⟩;have f3:V.length+(t1.length+t2.length)=cs.length+t.length:=by
  have:=congrArg List.length bq.out;simp only[AU] at this;exact this
 by_cases gx:V.length+t1.length<=300
 case pos =>
  have bx:Hid (Calls prog 49 #[.pointer (some ⟨mk,0,none⟩),.int .i64 (Zp s:Int),.int .i64 (kk:Int),.slice d (Zq3 q).length o] X9 λe w'=>e = .returned (.bool true)/\Zu X9 w'/\MkAt Y k h G mk (V++t1) w'):=LH (CT.mono λe w' hr=>by
   obtain⟨h1,⟨_,P,h3⟩ | ⟨P,_,_⟩⟩:=hr
   ·exact⟨P,h1,h3⟩
   omega)
  have cd:Hid (V++t1++t2=cs++t):=LH (by rw[DW];exact bq.out);have cg:Hid (t2.length<=m):=LH (by have:=cf.out;rw[AU] at this;omega);clear CT f3;go_wp2_with (first
   | (go_at_call 49
      (with_reducible refine bx.out.mono ?_);rintro e W6⟨rfl,a3,bd⟩;have ca:=LH bd;have fh:=LH (c7.out.nkept a3);have b4:=LH (b5.out.trans a3);clear a3 bd))
  go_roundw
  case rel=>exact⟨I,At,Z-1,D-kk,N,Ar,cr,t2,V++t1,rfl,AF,rfl,cc,c4,HF,K2,H2,b0,fh,ca,b4,cd,cg⟩
  simp[slLen]
 have bx:Hid (Calls prog 49 #[.pointer (some ⟨mk,0,none⟩),.int .i64 (Zp s:Int),.int .i64 (kk:Int),.slice d (Zq3 q).length o] X9 λe w'=>e = .returned (.bool false)/\Zu X9 w'/\Below Y Y w'):=LH (CT.mono λe w' hr=>by
  obtain⟨h1,⟨P,_,_⟩ | ⟨_,P,h3⟩⟩:=hr
  ·omega
  exact⟨P,h1,h3⟩)
 clear CT;go_wp2_with (first
  | (go_at_call 49
     (with_reducible refine bx.out.mono ?_);rintro e W6⟨rfl,a3,bd⟩;have ca:=LH bd;have b4:=LH (b5.out.trans a3);clear a3 bd))
 go_ret;exact⟨b4.out,.inr ⟨AA,rfl,ca.out⟩⟩
theorem Ztz(h:GH)(G:Gr)(n:Nat)(w:World)(B:Yf w h G)(h1:h.n1<=100)(h2:h.n2<=100)(h3:h.n3<=100)(hP:Xq G)(hO:Ni G (N5 G).1)(hn:n<=100):
 Calls prog 30 #[GV h G.zt,.int .i64 (n:Int)] w (RetMake G n w):=by
 obtain⟨a1,n1,c1,a2,n2,c2,a3,n3,c3⟩:=h;have e2:G.O.length=n2:=B.O.len;have e3:G.U.length=n3:=B.U.len;have k2:=B.O.cap;have k3:=B.U.cap;simp only[] at h1 h2 h3 k2 k3;have Hg:=LH B;have bq:=Zy w (.cells #[.slice a1 n1 c1,.slice a2 n2 c2,.slice a3 n3 c3,.int .i64 G.zt] 26);have bx:=Y1.new w 26 ⟨a1,n1,c1,a2,n2,c2,a3,n3,c3⟩ G.zt;clear B;go_enter func30,ntmps30;have⟨z5,z0,z1,z2,z3⟩:=bx;simp only[] at z0 z1 z2 z3;go_wp2_with fail;generalize w.alloc (.cells #[.slice a1 n1 c1,.slice a2 n2 c2,.slice a3 n3 c3,.int .i64 G.zt] 26)=W0 at *;(with_reducible refine (rf_Order ⟨a1,n1,c1,a2,n2,c2,a3,n3,c3⟩ G W0 (Hg.out.below bq) (by simp only[];omega) (by simp only[];omega) (by simp only[];omega)).mono ?_);rintro e y⟨bv,Ao,co,rfl,hI⟩;have cd:=LH (Zz bq bv);have aq:=LH (bx.below bv);have hr:=hI.cap;have HP:=LH hP;have be:=LH hP.fits;have HO:=LH hO;have fy:(Z6 (N5 G).1).length=(N5 G).1.length:=by simp[Z6]
 generalize (N5 G).2=er at *;generalize (N5 G).1=C at *;have HI:=LH hI;clear z0 z1 z2 z3 z5 bx bv bq hI hP hO fy;go_wp2_with fail;go_loopw [5,8] (λcv i wr=>∃(m:Nat) (A:Option Addr) (c:Nat) (R:List Nat) (tab:Nat->Nat->Nat),m<=n+1/\i = .int .i64 (m:Int)/\cv = .slice A m c/\Hid (Jc wr y.heap.size A m c n2 R tab)/\Hid (Ll G C tab m 0)/\Hid (∀k,m<=k->∀i,tab k i=0)/\Hid (Below y.heap.size y wr)) (λ_ i _=>n+1-(intOf i).toNat)
 case atStart=>exact⟨0,none,0,[],λ_ _=>0,AV _,rfl,rfl,LH (Jc.zt _ _ _ _),LH (Ll.zt G C),LH λ_ _ _=>rfl,LH (AP _ _)⟩
 obtain⟨m,A,c,R,tab,hm,rfl,rfl,z,HD,HZ,q⟩:=hrel;have O:=aq.out.below q.out;have⟨y5,y0,y1,y2,y3⟩:=O;simp only[] at y0 y1 y2 y3;clear O;by_cases hf:m<=n
 case neg =>
  obtain rfl:n+1=m:=AA
  have hl:¬(((n+1:Nat):Int)<=(n:Int)):=AA
  have d3:Hid (RetMake G n w (.returned (.slice A (n+1) c)) wr):=LH ⟨Zz cd.out q.out,A,c,tab,rfl,by rw[e2];exact z.out.tab,λk hk i hi=>HD.out.low k AA i hi⟩;go_wp2_with fail;go_ret;exact d3.out
 have fx:=Zzv n2 AA;have dl:=Vp.new wr 110 n2;have dk:=Zy wr (.cells (zeroCells n2) 110);have dh:(wr.alloc (.cells (zeroCells n2) 110)).heap.size=wr.heap.size+1:=Zl _ _;have b3:=Zy (wr.alloc (.cells (zeroCells n2) 110)) (.cells #[.slice (some ⟨wr.heap.size,0,none⟩) n2 n2] 115);have dc:((wr.alloc (.cells (zeroCells n2) 110)).alloc (.cells #[.slice (some ⟨wr.heap.size,0,none⟩) n2 n2] 115)).cell? ⟨(wr.alloc (.cells (zeroCells n2) 110)).heap.size,0,none⟩=some (.slice (some ⟨wr.heap.size,0,none⟩) n2 n2):=(Blk.new _ 115 #[.slice (some ⟨wr.heap.size,0,none⟩) n2 n2]).cell 0;have bh:=LH (Zz dk b3);have bj:=LH (dl.below b3);have af:=LH (z.out.below bh.out);have df:∀g∈R,g<wr.heap.size:=λg B=>by
  obtain⟨j,hj⟩:=BQ B;exact (z.out.row j g hj).2.lt
 have cl:=LH df;have bi:=LH dc;have ay:y.heap.size<=wr.heap.size:=q.out.size;have bw:y.heap.size<=((wr.alloc (.cells (zeroCells n2) 110)).alloc (.cells #[.slice (some ⟨wr.heap.size,0,none⟩) n2 n2] 115)).heap.size:=by rw[Zl,Zl];omega
 have d9:=LH Tryz.infoValS;have cn:=LH dh;clear dl dk b3 dc df dh;go_upto_region 7 with (at_builtin;refine Zqv rfl _ _ 70 rfl y.heap.size 115 _ 24 underlying70 d9.out AC (by intro u hu k x he;subst he;simp[Value.cells] at hu) A m c (R.map λg=>Value.slice (some ⟨g,0,none⟩) n2 n2) rfl af.out.own af.out.noInt slices_noInt _ 1 (.slice (some ⟨wr.heap.size,0,none⟩) n2 n2) rfl (by first | exact bi.out | (rw[<-cn.out];exact bi.out)) rfl (by intro k x he;cases he) AA AA bw ?_;intro A5 c5 w5 ho B ha dd);have dx:Hid (Jc w5 y.heap.size A5 (m+1) c5 n2 (R++[wr.heap.size]) tab):=LH (af.out.snoc ho B dd (by rw[<-zero_row n2 m λi=>HZ.out m (AJ _) i];exact bj.out) ay λfv=>Nat.lt_irrefl _ (cl.out _ fv));have ds:Hid (Below y.heap.size y w5):=LH ((q.out.trans (bh.out.mono ay)).trans ((Off.of_grown B).is_below bw λk hk=>(af.out.own.lt k hk).1));have g8:wr.heap.size<w5.heap.size:=AK bj.out.lt B.size;have bg:Hid ((R++[wr.heap.size])[m]? = some wr.heap.size):=LH (by rw[BX (by rw[z.out.len];exact AJ _),z.out.len,Nat.sub_self];rfl);have g7:y.heap.size<=wr.heap.size:=ay;clear ho B ha dd fx bw ay y0 y1 y2 y3 y5;generalize wr.heap.size=L at *;generalize R++[L]=ag at *;clear z af q bh bj cl bi cn;go_wp2_with fail;go_loopw [9] (λi Y=>∃(p:Nat) (f:Nat->Nat->Nat),p<=C.length/\i = .int .i64 (p:Int)/\Hid (Jc Y y.heap.size A5 (m+1) c5 n2 ag f)/\Hid (Ll G C f m p)/\Hid (∀k,m<k->∀i,f k i=0)/\Hid (Below y.heap.size y Y)) (λi _=>C.length-(intOf i).toNat)
 case atStart=>exact⟨0,tab,AV _,rfl,dx,HD,LH λk hk i=>HZ.out k AA i,ds⟩
 obtain⟨p,f,d,rfl,z,a7,bb,q⟩:=hrel;have O:=aq.out.below q.out;have⟨y5,y0,y1,y2,y3⟩:=O;simp only[] at y0 y1 y2 y3;clear O;by_cases b4:p<C.length
 case neg =>
  obtain rfl:p=C.length:=AA
  have a8:Hid (Ll G C f (m+1) 0):=LH (a7.out.row HO.out λi=>bb.out (m+1) AA i);have bd:Hid (∀k,m+1<=k->∀i,f k i=0):=LH λk hk i=>bb.out k AA i;go_wp2_with fail;go_roundw
  case rel=>exact⟨m+1,A5,c5,ag,f,AA,AF,rfl,z,a8,bd,q⟩
  simp[intOf] <;> omega
 have br:=Zy wr (.cells #[.slice none 0 0,.bool false] 110);have c8:=Blk.new wr 110 #[.slice none 0 0,.bool false];obtain⟨o,ar⟩:∃o,Hid (C[p]? = some o):=⟨_,LH (AL b4)⟩;have da:o<n2:=by rw[<-e2];exact HO.out.lt o (AM ar.out)
 have di:∀g∈ag,g<wr.heap.size:=λg B=>by
  obtain⟨j,hj⟩:=BQ B;exact (z.out.row j g hj).2.lt
 have dj:∀b,(Value.slice A5 (m+1) c5).ownBlock=some b->b<wr.heap.size:=λb U=>(z.out.own.lt b U).2;have dy:=LH (z.out.below br);have du:=LH (q.out.trans (br.mono q.out.size));have g9:y.heap.size<=wr.heap.size:=q.out.size;go_upto_region 11 with fail;generalize wr.alloc (.cells #[.slice none 0 0,.bool false] 110)=WS at *;generalize wr.heap.size=H at *;have d2:=LH c8;have fe:=LH di;have ff:=LH dj;clear c8 di dj br z q y0 y1 y2 y3 y5;go_wp2_with fail;go_loopw [11] (λi Y=>∃(k:Nat) (I:Option Addr) (ns cs:Nat) (J:Bool),k<=n3/\i = .int .i64 (k:Int)/\Hid (Jc Y y.heap.size A5 (m+1) c5 n2 ag f)/\Hid (Blk Y H 110 #[.slice I ns cs,.bool J])/\Hid (Z1 Y I ns cs J (Yc (Yk f) (G.U.take k) o m))/\Hid (Below y.heap.size y Y)) (λi _=>n3-(intOf i).toNat)
 case atStart=>exact⟨0,none,0,0,false,AV _,rfl,dy,d2,LH (Z1.zero _ _ _ AA),du⟩
 obtain⟨k,I,ns,cs,J,hk,rfl,z,Z,HV,q⟩:=hrel;have O:=aq.out.below q.out;have⟨y5,y0,y1,y2,y3⟩:=O;simp only[] at y0 y1 y2 y3;clear O;have x0:=Z.out.cell 0;have x1:=Z.out.cell 1;have xl:=Z.out.lt;obtain⟨V,W,ov,rfl,hq,fa,fl⟩:=(HI.out.below q.out).get (j:=p) (by first | exact b4 | (simp[Z6];exact b4));have fz:ov=(o:Int):=by have:=fa.out;unfold Z6 at this;rw[BB,ar.out] at this;simpa using this.symm
 subst fz;by_cases fw:k<n3
 case neg =>
  obtain rfl:k=n3:=AA
  as_aux_lemma =>
   have cp:Hid (Yc (Yk f) (G.U.take k) o m=Zv G (-1-(o:Int)) m):=LH (by rw[AQ AA];exact a7.out.next HP.out HO.out ar.out);obtain⟨tb,tu,rfl,_,ht,fd,gx,_⟩:=Gh z.out.own (j:=m) AA;have f3:tu = .slice (some ⟨L,0,none⟩) n2 n2:=by have:=fd.out;rw[BB,bg.out] at this;simpa using this.symm
   subst f3;have ak:=(z.out.row m L bg.out).2;obtain⟨Aq,nq,cq,dq,g0,g1,_⟩:=ak.get (j:=o) (by simp;exact da);have cw:=ak.frozen (o*2);have cx:=ak.frozen (o*2+1);have az:=ak.lt;have cf:=LH λx:Ext wr=>(z.out.below (Zr wr x)).put bg.out da (HV.out.below (Zr wr x));have fs:=q.out.size;have a8:Hid (Ll G C (U6 f m o (Yc (Yk f) (G.U.take k) o m)) m (p+1)):=LH (a7.out.put ar.out _ cp.out);have bd:Hid (∀k',m<k'->∀i,U6 f m o (Yc (Yk f) (G.U.take k) o m) k' i=0):=LH λk' b2 i=>by unfold U6;rw[if_neg AA];exact bb.out k' b2 i
   clear ak cp;generalize Yc (Yk f) (G.U.take k) o m=vN at *;go_upto_region 16 with fail;have bc:=Yt wr;have bf:=Kh wr;refine Yx 10 AB AB ?_;simp only[List.take_succ_cons,List.take_zero,List.drop_succ_cons,Ed];repeat (go_big_quiet_step (fail))
   refine BJ ?_;rintro _⟨x,rfl⟩;have c0:=(bc x L (o*2) az).trans g0;have c1:=(bc x L (o*2+1) az).trans g1;have d0:=(bf x L (o*2) az).trans cw;have d1:=(bf x L (o*2+1) az).trans cx;have f2:=Lb wr x;go_wp2_with fail;go_roundw
   case rel=>exact⟨p+1,_,AA,AF,LH (cf.out x).1,a8,bd,LH ((q.out.trans ((Zr wr x).mono q.out.size)).trans ((cf.out x).2.is_below (BC fs f2) λk' b2=>AA))⟩
   simp[intOf] <;> omega
 obtain⟨D,F,r,Ar,cr,rfl,a4,Hr,q0,q1,q2,dg⟩:=(Hg.out.below (Zz cd.out q.out)).U.get fw;have a0:=AM Hr.out;obtain⟨l1,l2⟩:=be.out.L r a0;have hc:=be.out.len r a0;have b5:=be.out.symB a0;rw[e2] at b5;have au:=LH (rulesT_take (T:=Yk f) Hr.out o m);obtain⟨E,db⟩:∃E:Nat,r.L=(E:Int):=⟨r.L.toNat,AA⟩;have cj:Hid (r.L.toNat=E):=LH AA;rw[db] at q0;have bc:=Yt wr;have fc:=LH b5;have cm:=LH dg;clear b5 dg l1 l2 db a0;by_cases b1:E=o
 case neg =>
  as_aux_lemma =>
   have ft:((E:Int)==(o:Int))=false:=by rw[AR];omega
   have ai:Yc (Yk f) (G.U.take (k+1)) o m=Yc (Yk f) (G.U.take k) o m:=by rw[au.out,if_neg (by rw[cj.out];exact b1),DN]
   have ba:=LH ai;clear b1 ai au;go_upto_region 14 with fail;refine Zs AB AB ?_;repeat (go_big_quiet_step (fail))
   refine BJ ?_;rintro _⟨x,rfl⟩;go_wp2_with fail;go_roundw
   case rel=>exact⟨k+1,I,ns,cs,J,AA,AF,LH (z.out.below (Zr wr x)),LH (Blk.ext Z.out (Zr wr x)),LH (by rw[ba.out];exact HV.out.below (Zr wr x)),LH (q.out.trans ((Zr wr x).mono q.out.size))⟩
   simp[intOf] <;> omega
 subst b1;have ft:((E:Int)==(E:Int))=true:=AE
 have ai:Yc (Yk f) (G.U.take (k+1)) E m=Yc (Yk f) (G.U.take k) E m+Zx (Yk f) r.rt m:=by rw[au.out,if_pos cj.out]
 have ba:=LH ai;clear ai au;generalize Yc (Yk f) (G.U.take k) E m=vN at *;go_upto_region 14 with fail;refine Zs AB AB ?_;repeat (go_big_quiet_step (fail))
 refine BJ ?_;rintro _⟨x,rfl⟩;have cg:=LH (z.out.below (Zr wr x));have ap:=LH (Blk.ext Z.out (Zr wr x));have dz:=LH (HV.out.below (Zr wr x));have an:=LH (q.out.trans ((Zr wr x).mono q.out.size));have f0:D<(bl wr x).heap.size:=AK a4 (Lb wr x);have gm:=(bc x D (F+k*3) a4).trans q0;have dn:=(bc x D (F+k*3+1) a4).trans q1;have fb:=LH (cm.out.below (Zr wr x));generalize bl wr x=WY at *;clear z Z HV q cm q0 q1 q2 bc a4 x0 x1 xl fl y0 y1 y2 y3 y5 x;have⟨y5,y0,y1,y2,y3⟩:=aq.out.below an.out;simp only[] at y0 y1 y2 y3;have x0:=ap.out.cell 0;have x1:=ap.out.cell 1;have xl:=ap.out.lt;go_upto_region 15 with fail;refine Xh (λX=>Below WY.heap.size WY X) (λX X'=>Below X.heap.size X X') (λu=>(⟨(GV ⟨a1,n1,c1,a2,n2,c2,some ⟨D,F,none⟩,n3,c3⟩ G.zt::Value.int IntKind.i64 (n:Int)::Value.pointer (some ⟨w.heap.size,0,none⟩)::undef::Value.slice none 0 0::Value.slice A5 (m+1) c5::Value.slice (some ⟨V,W,none⟩) C.length co::Value.int IntKind.i64 er::Value.int IntKind.i64 (m:Int)::Value.int IntKind.i64 (p:Int)::Value.pointer (some ⟨H,0,none⟩)::Value.int IntKind.i64 (k:Int)::Value.tuple #[Value.slice (some ⟨V,W,none⟩) C.length co,Value.int IntKind.i64 er]::Value.agg #[Value.slice a1 n1 c1,Value.slice a2 n2 c2,Value.slice (some ⟨D,F,none⟩) n3 c3,Value.int IntKind.i64 G.zt]::Value.tuple #[Value.slice (some ⟨V,W,none⟩) C.length co,Value.int IntKind.i64 er]::Value.slice (some ⟨V,W,none⟩) C.length co::Value.int IntKind.i64 er::Value.int IntKind.i64 (m:Int)::Value.int IntKind.i64 (n:Int)::Value.bool true::u20::u21::Value.slice A m c::Value.pointer (some ⟨w.heap.size,1,none⟩)::Value.slice a2 n2 c2::Value.int IntKind.i64 (n2:Int)::Value.slice (some ⟨L,0,none⟩) n2 n2::Value.slice (some ⟨L+1,0,none⟩) 1 1::Value.slice A5 (m+1) c5::Value.int IntKind.i64 (p:Int)::Value.slice (some ⟨V,W,none⟩) C.length co::Value.int IntKind.i64 (C.length:Int)::Value.bool true::u33::u34::Value.agg #[Value.slice none 0 0,Value.bool false]::Value.int IntKind.i64 (k:Int)::Value.pointer (some ⟨w.heap.size,2,none⟩)::Value.slice (some ⟨D,F,none⟩) n3 c3::Value.int IntKind.i64 (n3:Int)::Value.bool true::u41::u42::Value.pointer (some ⟨w.heap.size,2,none⟩)::Value.slice (some ⟨D,F,none⟩) n3 c3::Value.int IntKind.i64 (k:Int)::Value.pointer (some ⟨D,F+k*3,none⟩)::Value.pointer (some ⟨D,F+k*3,none⟩)::Value.int IntKind.i64 (E:Int)::Value.slice (some ⟨V,W,none⟩) C.length co::Value.int IntKind.i64 (p:Int)::Value.pointer (some ⟨V,W+p,none⟩)::Value.int IntKind.i64 (E:Int)::Value.bool true::u 0::u 1::u 2::u 3::u 4::u 5::u 6::u 7::u 8::u 9::u 10::u65::u66::u67::u68::u69::u70::u71::u72::u73::u74::undef::[]).toArray,[]⟩:Act)) [u54,u55,u56,u57,u58,u59,u60,u61,u62,u63,u64] [λv X=>v=Value.agg #[Value.slice I ns cs,Value.bool J],λv X=>v=Value.slice A5 (m+1) c5,λv X=>v=Value.pointer (some ⟨w.heap.size,2,none⟩),λv X=>v=Value.slice (some ⟨D,F,none⟩) n3 c3,λv X=>v=Value.int .i64 (k:Int),λv X=>v=Value.pointer (some ⟨D,F+k*3,none⟩),λv X=>v=Value.pointer (some ⟨D,F+k*3+1,none⟩),λv X=>v=Value.slice Ar r.rt.length cr,λv X=>v=Value.int .i64 (m:Int),λv X=>∃A n c b,v=Value.agg #[Value.slice A n c,Value.bool b]/\Z1 X A n c b (Zx (Yk f) r.rt m),λv X=>∃A n c b,v=Value.agg #[Value.slice A n c,Value.bool b]/\Z1 X A n c b (vN+Zx (Yk f) r.rt m)] (λu X=>∃At P M N,Jc X y.heap.size A5 (m+1) c5 n2 ag f/\Blk X H 110 #[Value.slice At P M,Value.bool N]/\Z1 X At P M N (vN+Zx (Yk f) r.rt m)/\Below y.heap.size y X) (l:=[_,_,_,_,_,_,_,_,_,_,_]) AB AB AB rfl rfl (AP _ _).drew ⟨AI,AI,AI,AI,AI,AI,AI,AI,AI,(λ_ _ _ ⟨A,n,c,b,e,h⟩ U=>⟨A,n,c,b,e,h.below U⟩),(λ_ _ _ ⟨A,n,c,b,e,h⟩ U=>⟨A,n,c,b,e,h.below U⟩),trivial⟩ ?_ ?_ ?_
 ·refine Zk.vf (λQ u X KK a d t=>?_) ?_
  ·have bk:=(a.cell (p:=⟨H,0,none⟩) xl).trans x0;have fk:=(a.cell (p:=⟨H,1,none⟩) xl).trans x1;go_simp;exact t
  refine Zk.v0 ?_;refine Zk.vf (λQ u X KK a d t=>?_) ?_
  ·have hw:=AK y5 a.size;go_simp;exact t
  refine Zk.vf (λQ u X KK a d t=>?_) ?_
  ·have p2:u 2=_:=d 2 rfl;clear d;generalize u 2=x2 at *;subst p2;have bk:=(a.cell (p:=⟨w.heap.size,2,none⟩) y5).trans y2;go_simp;exact t
  refine Zk.v0 ?_;refine Zk.vf (λQ u X KK a d t=>?_) ?_
  ·have p3:u 3=_:=d 3 rfl;have p4:u 4=_:=d 4 rfl;clear d;generalize u 3=x3 at *;subst p3;generalize u 4=x4 at *;subst p4;go_simp;exact t
  refine Zk.v1 5 ?_;refine Zk.vf (λQ u X KK a d t=>?_) ?_
  ·have p6:u 6=_:=d 6 rfl;clear d;generalize u 6=x6 at *;subst p6;have bk:=(a.cell (p:=⟨D,F+k*3+1,none⟩) f0).trans dn;go_simp;exact t
  refine Zk.v0 ?_;refine Zk.con (λQ u X a d KK t=>?_) ?_
  ·have p1:u 1=_:=d 1 rfl;have p7:u 7=_:=d 7 rfl;have p8:u 8=_:=d 8 rfl;clear d;rw[p1,p7,p8] at t⊢;have fq:=cg.out.tab.below a;have fp:=fb.out.below a;go_simp;(with_reducible refine (Kd A5 (m+1) c5 n2 f Ar cr r.rt m X fq (Ek m) AA AA fp AA λs hs=>by have:=fc.out s hs;omega).mono ?_);rintro e w2⟨ah,a6,nr,bm,dr,rfl,b6⟩;go_simp;exact t _ _ (Zz a ah) ah ⟨a6,nr,bm,dr,rfl,b6⟩
  refine Zk.con (λQ u X a d KK t=>?_) ?_
  ·have p0:u 0=_:=d 0 rfl;obtain⟨a6,nr,bm,dr,p9,b6⟩:=d 9 rfl;clear d;rw[p0] at t⊢;generalize u 9=x9 at *;subst p9;have f5:=dz.out.below a;go_simp;(with_reducible refine (Zuc I ns cs J _ a6 nr bm dr _ X f5 b6).mono ?_);rintro e w2⟨ah,At,P,M,N,rfl,b7⟩;go_simp;exact t _ _ (Zz a ah) ah ⟨At,P,M,N,rfl,b7⟩
  exact Zk.nil
 ·intro Q u X a d KK t;obtain⟨At,P,M,N,gd,b7⟩:=d 10 AC;clear d;generalize u 10=hz at *;subst gd;have S:=Blk.ext ap.out a;have ad:=valcell_set S At P M N;have bk:=S.cell 0;have fk:=S.cell 1;have cw:=S.frozen 0;have cx:=S.frozen 1;have hv:=S.lt;have c7:=(cg.out.below a).off ad.1 (λb U e=>by have:=ff.out b U;omega) (λg B e=>by have:=fe.out g B;omega) ad.2.2;have c4:=(an.out.trans (a.mono an.out.size)).trans (ad.1.is_below (BC an.out.size a.size) λk' b2=>AA);have d4:=LH (And.intro c7 (And.intro ad.2.1 (And.intro (b7.kept ad.2.2) c4)));clear c7 c4 ad S;go_simp;exact t (λi=>([u 0,u 1,u 2,u 3,u 4,u 5,u 6,u 7,u 8,u 9,Value.agg #[Value.slice At P M,Value.bool N]]:List Value).getD i undef) _ (⟨At,P,M,N,d4.out⟩)
 intro u W9 fu;obtain⟨A9,n9,c9,b9,g1,g2,g3,g4⟩:=fu;have d5:=LH g1;have d6:=LH g2;have d8:=LH g4;rw[<-ba.out] at g3;have d7:=LH g3;clear g1 g2 g3 g4 x0 x1 gm dn y0 y1 y2 y3 y5;go_wp2_with fail;go_roundw
 case rel=>exact⟨k+1,A9,n9,c9,b9,AA,AF,d5,d6,d7,d8⟩
 simp[intOf] <;> omega
section
variable {W0:World} {k:BkH} {h:GH} {G:Gr} {mk:Nat} {cs:List Nat} {S:Nat->Prop} {A:Option Addr} {c:Nat} {W:World}
def Me.push{n b:World}{g i:Nat}(M:Me W0 k h G mk cs S A c W)(u:Below W W n)(r:M4 b W0 f ((Q cs)+1) g (cs.map (λi:Nat=>(i:Int))++[(i:Int)]))(E:n.grownBy b (K A (Q cs) c).ownBlock)(L:(Q cs)≠300):
 Blk b mk 99 #[aP (some ⟨k.c,0,aN⟩),K A (Q cs) c]/\MkAt W0 k h G mk (cs++[i]) (b.setCell ⟨mk,1,aN⟩ (K f ((Q cs)+1) g))/\Zu W (b.setCell ⟨mk,1,aN⟩ (K f ((Q cs)+1) g)):=by
 have d:=M.below u;have p:=Off.of_grown E;have y:Zu n b:=Zu.of_off p λq a=>d.row.no32 q a;have F:(K A (Q cs) c).ownBlock≠some mk:=λe=>by
  obtain⟨_,_,v,j⟩:=d.row.blk e;exact absurd (j.same_ty d.box) AC
 have s:=d.bk.moveN p y λq a=>by
  obtain⟨J,N,v,j⟩:=d.row.blk a;refine⟨d.own.2 q a,J,λe=>?_,d.bk.not_map j⟩;have h1:=d.bk.box;rw[<-e] at h1;exact absurd (h1.same_ty j) AC
 have l:=p.blk d.box F;have m:=Off.of_set b mk 1 (K f ((Q cs)+1) g);have H:∀o z,b.cell? ⟨mk,o,aN⟩≠some (aI .u32 z):=λo z x=>by
  rw[l.cell o] at x;rcases o with _ | _ | o <;> cases x
 have B:Zu b (b.setCell ⟨mk,1,aN⟩ (K f ((Q cs)+1) g)):=Zu.of_off m λq a o z=>by rw[a];exact H o z
 have C:(K f ((Q cs)+1) g).ownBlock≠some mk:=λe=>by
  obtain⟨_,_,v,j⟩:=r.blk e;exact absurd (j.same_ty l) AC
 have D:=(s.moveN m B λq a=>by
  subst a;exact⟨M.own.1,M.low,M.ne_c,s.not_map l⟩).wide (P:=λq=>(K f ((Q cs)+1) g).ownBlock=some q) λq a v j=>by
   obtain⟨_,_,O,I⟩:=(r.off m λq a e=>C (by rw[a,e])).blk a;exact absurd (j.same_ty I) AC
 have t:=r.off m λq a e=>C (by rw[a,e]);refine⟨l,⟨_,f,g,D,?_,?_,⟨.inl M.own.1,λq a => .inr ?_⟩,λq a=>?_,M.low,?_⟩,((Zu.of_below u).trans y).trans B⟩
 ·rw[AU];exact l.set 1 _
 ·rw[AU,DI];exact t
 ·rw[AU] at a;exact a
 ·rcases a with a | a
  ·exact AK (d.lt q a) (BC p.size m.size)
  exact (t.blk a).2.1
 have:=M.few;rw[AU,CW];omega
end
theorem tr_mtree{V:World}{k:BkH}{h:GH}{G:Gr}(hB:BkG V h G)(Z:Xq G)(m:Nat)(HF:FC V k h G m):TC V k h G (m+1):=by
 intro mk J s n r t Ar cr w fx h0 hl hT da W hr o;obtain⟨R,x0,q,t1,ao,dp,hU,dl,rfl⟩:=hT;have hq:q<Zx (Zv G) x0.rt n:=hU.lt Z (InG.at Z.fits ao);have b4:Z0 (Zv G) G.U (Zp s) (R+1) n<=Zv G s n:=by
  rw[Uu Z h0 hl];exact Kj _ _ _ _ _
 rw[Y3 _ ao,if_pos dp] at b4;have gn:R<G.U.length:=(AN.1 ao).1;have fy:x0.L=(Zp s:Int):=by
  have:=(Z.fits.L x0 (AM ao)).1;omega
 have d2:Hid (∀(j:Nat) (x:Rul),G.U[j]? = some x->J1 x.rt n/\(∀s∈x.rt,G.has s=true)/\0<=x.L):=LH λj x hx=>by
  have h1:=Bg Z.fits (AM hx) W;exact⟨h1.1,h1.2,(Z.fits.L x (AM hx)).1⟩
 have cu:Hid (∀(j:Nat) (x:Rul),G.U[j]? = some x->Z0 (Zv G) G.U (Zp s) (j+1) n=Z0 (Zv G) G.U (Zp s) j n+(if x.L.toNat=Zp s then Zx (Zv G) x.rt n else 0)):=LH λj x hx=>Y3 _ hx _ _;have cq:Hid (∀j,j<=R->Z0 (Zv G) G.U (Zp s) j n<=Z0 (Zv G) G.U (Zp s) R n):=LH λj hj=>Vf _ _ _ _ hj;have dx:Hid (InG G x0.rt):=InG.at Z.fits ao;obtain⟨S,A,c,au⟩:=o;obtain⟨a1,n1,c1,a2,n2,c2,a3,n3,c3⟩:=h;obtain⟨gc,gt⟩:=k;have fv:n3=G.U.length:=hB.at_.U.len.symm;have gj:=hB.at_.U.cap;have gq:=Z.fits.n3.2;have HB:=LH hB;have dw:=LH HF;have HU:=LH hU;have bu:=LH ao;have co:=LH da;have HR:=LH hr;have HM:=LH au;have cw:=LH b4;have a7:=LH dl;have Hq:=LH hq;have g0:w.cell? ⟨mk,0,none⟩=some (.pointer (some ⟨gc,0,none⟩)):=au.box.cell 0;have L:=au.box.lt;have b2:w.cell? ⟨gc,2,none⟩=some (.slice a3 n3 c3):=au.bk.box.cell 2;have fc:=au.bk.box.lt;clear hB Z HF hU ao dp da hr au b4 dl hq h0 hl;go_enter func49,ntmps49;go_wp2_with fail;go_loopw [3,21] (λv i wr=>∃(j C:Nat) (Av:Option Addr) (cv:Nat) (S:Nat->Prop) (A:Option Addr) (c:Nat),i = .int .i64 (j:Int)/\j<=R/\v = .slice Av (Zq3 C).length cv/\Hid (r=Z0 (Zv G) G.U (Zp s) j n+C)/\Hid (Zq .u32 wr Av (Zq3 C).length cv (Zq3 C))/\Hid (Me V ⟨gc,gt⟩ ⟨a1,n1,c1,a2,n2,c2,a3,n3,c3⟩ G mk J S A c wr)/\Hid (Zu w wr)) (λ_ i _=>n3-(intOf i).toNat)
 case atStart=>exact⟨0,r,Ar,cr,S,A,c,rfl,AV _,rfl,LH (by rw[Qb];omega),HR,HM,LH (Zu.refl _)⟩
 obtain⟨j,C,Av,cv,S',A',c',rfl,hj,rfl,aq,HN,cj,cg⟩:=hrel;clear g0 L b2 fc HM HR;have M:=cj.out;obtain⟨bq,oq,x,N,P,rfl,bf,Hx,q0,q1,q2,c4⟩:=HB.out.at_.U.get (j:=j) (by show j<n3;omega);have e0:=(M.bk.base.cell (p:=⟨bq,oq+j*3,none⟩) bf).trans q0;have e1:=(M.bk.base.cell (p:=⟨bq,oq+j*3+1,none⟩) bf).trans q1;have e2:=(M.bk.base.cell (p:=⟨bq,oq+j*3+2,none⟩) bf).trans q2;have b0:=AK bf M.bk.base.size;have ce:=LH c4;have g0:wr.cell? ⟨mk,0,none⟩=some (.pointer (some ⟨gc,0,none⟩)):=M.box.cell 0;have L:=M.box.lt;have be:=Zy wr (.cells #[.int .i64 x.L,.slice N x.rt.length P,.int .i64 x.P] 60);have av:=Blk.new wr 60 #[.int .i64 x.L,.slice N x.rt.length P,.int .i64 x.P];have O:=LH (M.below be);have cf:=LH (cg.out.trans (Zu.of_below be));have bo:=LH (HN.out.below be);have bj:=d2.out j x Hx.out;have ch:=LH bj.1;have cp:=LH bj.2.1;have gp:=bj.2.2;clear M q0 q1 q2 c4 be bj cj cg HN;go_upto_region 4 with fail;clear g0 L e0 e1 e2 b0;have dz:Hid (wr.heap.size=wr.heap.size):=rfl;generalize wr.alloc (.cells #[.int .i64 x.L,.slice N x.rt.length P,.int .i64 x.P] 60)=W1 at *;generalize wr.heap.size=L at *;clear dz;have z0:W1.cell? ⟨L,0,none⟩=some (.int .i64 x.L):=av.cell 0;have z1:W1.cell? ⟨L,1,none⟩=some (.slice N x.rt.length P):=av.cell 1;have z2:W1.cell? ⟨L,2,none⟩=some (.int .i64 x.P):=av.cell 2;have cl:=av.lt;have a0:=LH av;clear av;by_cases ax:x.L=(Zp s:Int)
 case neg =>
  have fw:(x.L != (Zp s:Int))=true:=by simpa using ax
  have fq:j≠R:=by
   rintro rfl;have e:=Hx.out.symm.trans bu.out;injection e with e;subst e;exact ax fy
  have bt:Hid (r=Z0 (Zv G) G.U (Zp s) (j+1) n+C):=LH (by
   rw[cu.out j x Hx.out,if_neg AA];exact aq.out)
  clear ax;go_wp2_with fail;go_roundw
  case rel=>exact⟨j+1,C,Av,cv,S',A',c',AF,AA,rfl,bt,bo,O,cf⟩
  simp[intOf] <;> omega
 have fw:(x.L != (Zp s:Int))=false:=by simpa using ax
 have d8:=LH ax;obtain⟨y,Hy⟩:∃y,Hid (Zx (Zv G) x.rt n=y):=⟨_,LH rfl⟩;obtain⟨D,bb,a6⟩:∃D bb,Hid ((C<y/\D=C/\bb=false)\/(y<=C/\D=C-y/\bb=true)):=by
  by_cases hh:C<y
  ·exact⟨_,_,LH (.inl ⟨hh,rfl,rfl⟩)⟩
  exact⟨_,_,LH (.inr ⟨AA,rfl,rfl⟩)⟩
 have dm:C<big:=by
  have h1:=aq.out;have H:=a7.out;have h3:=cw.out;have h4:=co.out;have h5:=Hq.out;have h6:=cq.out j hj;omega
 have d6:=LH dm;clear ax dm;go_upto_region 6 with fail;generalize decide (j<G.U.length)=fa at *;refine Yi (Γ:=Unit) (λ_ b u X=>(Wd V ⟨gc,gt⟩ ⟨a1,n1,c1,a2,n2,c2,some ⟨bq,oq,none⟩,n3,c3⟩ G S' X/\Off (BkH.map ⟨gc,gt⟩) W1 X)/\Do b u 13 (.slice Av (Zq3 C).length cv)) (λX Y=>Zf X Y) () (λu=>(⟨(.pointer (some ⟨mk,0,none⟩) :: .int .i64 ((Zp s:Nat):Int) :: .int .i64 (n:Int)::u 13::undef::undef::undef::undef::u8 :: .int .i64 (j:Int) :: .pointer (some ⟨L,0,none⟩)::u 14 :: .pointer (some ⟨mk,0,none⟩) :: .pointer (some ⟨mk,0,none⟩) :: .pointer (some ⟨mk,0,none⟩) :: .pointer (some ⟨gc,0,none⟩) :: .pointer (some ⟨gc,0,none⟩) :: .pointer (some ⟨gc,0,none⟩) :: .pointer (some ⟨gc,2,none⟩) :: .slice (some ⟨bq,oq,none⟩) G.U.length c3 :: .int .i64 (G.U.length:Int) :: .int .i64 (j:Int) :: .bool fa :: .int .i64 (j:Int) :: .pointer (some ⟨bq,oq+j*3,none⟩) :: .agg #[.int .i64 x.L,.slice N x.rt.length P,.int .i64 x.P] :: .pointer (some ⟨L,0,none⟩) :: .int .i64 x.L :: .int .i64 ((Zp s:Nat):Int) :: .bool false::u 10::u 0::u 1::u 2::u 3::u 4::u 5::u 6::u 7::u 8::u 9::u 11::u 12::u43::u44::u45::u46::u47::u48::u49::u50::u51::u52::u53::u54::u55::u56::u57::u58::u59::u60::u61::u62::u63::u64::u65::u66::[]).toArray,[]⟩:Act)) [u31,u32,u33,u34,u35,u36,u37,u38,u39,u40,u30,u41,u42,.slice Av (Zq3 C).length cv,.bool false] [λv X=>v = .slice Av (Zq3 C).length cv,λv X=>v = .pointer (some ⟨mk,0,none⟩),λv X=>v = .pointer (some ⟨mk,0,none⟩),λv X=>v = .pointer (some ⟨mk,0,none⟩),λv X=>v = .pointer (some ⟨gc,0,none⟩),λv X=>v = .pointer (some ⟨L,1,none⟩),λv X=>v = .slice N x.rt.length P,λv X=>v = .int .i64 (n:Int),λv X=>∃A1 ai af d1,v = .agg #[.slice A1 ai af,.bool d1]/\Z1 X A1 ai af d1 y,λv X=>∃a d,v = .tuple #[.slice a (Zq3 D).length d,.bool bb]/\Zq .u32 X a (Zq3 D).length d (Zq3 D),λv X=>∃a d,v = .tuple #[.slice a (Zq3 D).length d,.bool bb]/\Zq .u32 X a (Zq3 D).length d (Zq3 D),λv X=>∃a d,v = .slice a (Zq3 D).length d/\Zq .u32 X a (Zq3 D).length d (Zq3 D),λv X=>v = .bool bb,λv X=>∃a d,v = .slice a (Zq3 D).length d/\Zq .u32 X a (Zq3 D).length d (Zq3 D),λv X=>v = .bool bb] (l:=[_,_,_,_,_,_,_,_,_,_,_,_,_,_,_]) AB AB rfl ⟨⟨O.out.bk.below (AP _ _).drew,Off.of_below (AP _ _).drew⟩,λ_=>rfl⟩ ⟨AI,AI,AI,AI,AI,AI,AI,AI,(λv X Y ⟨A1,ai,af,d1,e,h⟩ I=>⟨A1,ai,af,d1,e,h.kept I⟩),(λv X Y ⟨a,d,e,h⟩ I=>⟨a,d,e,h.kept I⟩),(λv X Y ⟨a,d,e,h⟩ I=>⟨a,d,e,h.kept I⟩),(λv X Y ⟨a,d,e,h⟩ I=>⟨a,d,e,h.kept I⟩),AI,(λv X Y ⟨a,d,e,h⟩ I=>⟨a,d,e,h.kept I⟩),AI,trivial⟩ ?_ ?_
 ·refine Zw.vf (λQ g b u X K E aa o f F=>?_) ?_
  ·have fn:b 13=false:=E.no aa AB;have fr:u 13=_:=o.2 fn;clear f o E;generalize u 13=xk at *;subst fr;go_simp;exact F
  refine Zw.v0 ?_;refine Zw.v1 1 ?_;refine Zw.v1 2 ?_;refine Zw.vf (λQ g b u X K E aa o f F=>?_) ?_
  ·have p3:u 3=_:=f 3 rfl;have B:=o.1;have gX:=B.2.blk O.out.box (O.out.bk.not_map O.out.box);have y0:X.cell? ⟨mk,0,none⟩=some (.pointer (some ⟨gc,0,none⟩)):=gX.cell 0;have yl:=gX.lt;clear gX;clear f o E;generalize u 3=x3 at *;subst p3;go_simp;exact F
  refine Zw.v0 ?_;refine Zw.vf (λQ g b u X K E aa o f F=>?_) ?_
  ·have p5:u 5=_:=f 5 rfl;have B:=o.1;have gX:=B.2.blk a0.out (O.out.bk.not_map a0.out);have y0:X.cell? ⟨L,1,none⟩=some (.slice N x.rt.length P):=gX.cell 1;have yl:=gX.lt;clear gX;clear f o E;generalize u 5=x5 at *;subst p5;go_simp;exact F
  refine Zw.v0 ?_;refine Zw.con (λQ g b u X E aa o z K F=>?_) ?_
  ·have p4:u 4=_:=(z 4 rfl).2;have p6:u 6=_:=(z 6 rfl).2;have p7:u 7=_:=(z 7 rfl).2;have T:=λv=>o.2.other 8 v AC;have B:=o.1;have CC:=Zzz HB.out ch.out cp.out S' X N P B.1 (λb I=>AK (O.out.lt b I) B.2.size) (ce.out.below B.1.base);clear z o E;rw[p4,p6,p7] at F⊢;go_simp;go_at_call 109;(with_reducible refine CC.mono ?_);rintro e Y⟨fj,c7,A1,ai,af,d1,rfl,hv⟩;rw[Hy.out] at hv;go_simp;exact F _ () _ (B.1.keep c7) ⟨⟨fj,B.2.map_trans c7⟩,T _⟩ ⟨A1,ai,af,d1,rfl,hv⟩
  refine Zw.con (λQ g b u X E aa o z K F=>?_) ?_
  ·have p0:u 0=_:=(z 0 rfl).2;obtain⟨A1,ai,af,d1,p8,hv⟩:=(z 8 rfl).2;have T:=λv=>o.2.other 9 v AC;have B:=o.1;have c6:=bo.out.kept (O.out.bk.keep B.2);have CC:=Zu6 Av cv C A1 ai af d1 y X c6 d6.out hv;clear z o E;generalize u 0=x0 at *;subst p0;generalize u 8=x8 at *;subst p8;go_simp;go_at_call 108;(with_reducible refine CC.mono ?_);rintro e Y⟨I,bh⟩;obtain⟨a,d,rfl,W⟩:∃a d,e = .returned (.tuple #[.slice a (Zq3 D).length d,.bool bb])/\Zq .u32 Y a (Zq3 D).length d (Zq3 D):=by
    rcases a6.out with ⟨h1,rfl,rfl⟩ | ⟨h1,rfl,rfl⟩ <;> rcases bh with ⟨H,rfl⟩ | ⟨H,A9,c9,rfl,h3⟩
    ·exact⟨_,_,rfl,c6.below I⟩
    ·omega
    ·omega
    exact⟨_,_,rfl,h3⟩
   go_simp;exact F _ () _ (.of_below I) ⟨⟨B.1.below I,B.2.map_trans (Off.of_below I)⟩,T _⟩ ⟨a,d,rfl,W⟩
  refine Zw.con (λQ g b u X E aa o z K F=>?_) ?_
  ·obtain⟨a,d,p9,W⟩:=(z 9 rfl).2;have T:=λv=>o.2.other 10 v AC;have B:=o.1;clear z o E;generalize u 9=x9 at *;subst p9;go_simp;exact F _ () _ ⟨AJ _,λ_ _ _=>rfl⟩ ⟨B,T _⟩ ⟨a,d,rfl,W⟩
  refine Zw.con (λQ g b u X E aa o z K F=>?_) ?_
  ·obtain⟨a,d,b5,W⟩:=(z 10 rfl).2;have T:=λv=>o.2.other 11 v AC;have B:=o.1;clear z o E;generalize u 10=f8 at *;subst b5;go_simp;exact F _ () _ ⟨AJ _,λ_ _ _=>rfl⟩ ⟨B,T _⟩ ⟨a,d,rfl,W⟩
  refine Zw.con (λQ g b u X E aa o z K F=>?_) ?_
  ·obtain⟨a,d,b5,W⟩:=(z 10 rfl).2;have T:=λv=>o.2.other 12 v AC;have B:=o.1;clear z o E;generalize u 10=f8 at *;subst b5;go_simp;exact F _ () _ ⟨AJ _,λ_ _ _=>rfl⟩ ⟨B,T _⟩ rfl
  refine Zw.con (λQ g b u X E aa o z K F=>?_) ?_
  ·obtain⟨a,d,f0,W⟩:=(z 11 rfl).2;have T:=λv=>o.2.done 13 v;have B:=o.1;clear z o E;generalize u 11=g5 at *;subst f0;go_simp;exact F _ () _ ⟨AJ _,λ_ _ _=>rfl⟩ ⟨B,T _⟩ ⟨a,d,rfl,W⟩
  refine Zw.v1 12 ?_;exact Zw.nil
 intro _ b9 u X9 fm am z;obtain⟨am,ft⟩:=am;clear fm ft;obtain⟨a,d,dq,de⟩:=z 13 AC;have dr:u 14=_:=z 14 AC;clear z b9;rw[dq,dr];clear dq dr;generalize u 0=w0 at *;generalize u 1=w1 at *;generalize u 2=w2 at *;generalize u 3=w3 at *;generalize u 4=w4 at *;generalize u 5=w5 at *;generalize u 6=w6 at *;generalize u 7=w7 at *;generalize u 8=w8 at *;generalize u 9=w9 at *;generalize u 10=gr at *;generalize u 11=gs at *;generalize u 12=gu at *;clear u;have U:=LH (O.out.off am.1 am.2);have bn:=LH (cf.out.trans (Zu.of_int (O.out.bk.keep am.2)));have br:=LH (am.2.blk a0.out (O.out.bk.not_map a0.out));have cm:=LH de;have dn:Z0 (Zv G) G.U (Zp s) (j+1) n=Z0 (Zv G) G.U (Zp s) j n+y:=by
  rw[cu.out j x Hx.out,if_pos (by have:=d8.out;omega),Hy.out]
 have df:j=R->C<y:=by
  intro e;subst e;have e1:=Hx.out.symm.trans bu.out;injection e1 with e1;subst e1;have h1:=aq.out;have H:=a7.out;have h3:=Hq.out;have h4:=Hy.out;omega
 have dc:j<R->y<=C:=by
  intro dd;have h1:=cq.out (j+1) AA;have H:=aq.out;have h3:=a7.out;omega
 have d7:=LH dn;have d4:=LH df;have d3:=LH dc;clear dn df dc z0 z1 z2 cl a0 O bo am de;rcases a6.out with ⟨dd,rfl,rfl⟩ | ⟨gm,rfl,rfl⟩
 case inr =>
  have fq:j<R:=by
   rcases BD j R with h | h
   ·exact h
   have:=d4.out AA;omega
  have bt:Hid (r=Z0 (Zv G) G.U (Zp s) (j+1) n+(C-y)):=LH (by
   have h1:=d7.out;have H:=aq.out;omega)
  clear a6;go_wp2_with fail;go_roundw
  case rel=>exact⟨j+1,C-y,a,d,S',A',c',AF,AA,rfl,bt,cm,U,bn⟩
  simp[intOf] <;> omega
 obtain rfl:j=R:=by
  rcases BD j R with h | h
  ·have:=d3.out h;omega
  omega
 obtain rfl:x=x0:=by
  have e1:=Hx.out.symm.trans bu.out;injection e1
 obtain rfl:D=q:=by
  have h1:=aq.out;have H:=a7.out;omega
 clear a6 dd;have g0:X9.cell? ⟨mk,0,none⟩=some (.pointer (some ⟨gc,0,none⟩)):=U.out.box.cell 0;have g2:X9.cell? ⟨mk,1,none⟩=some (.slice A' J.length c'):=U.out.box.cell 1;have gl:=U.out.box.lt;have gk:=U.out.few;by_cases bg:J.length=300
 case pos =>
  have fo:((J.length:Int)==300)=true:=by rw[bg];rfl
  have bs:=LH bg;clear bg;go_wp2_with fail;go_ret;exact⟨bn.out,.inr ⟨by rw[bs.out,AY];omega,rfl,U.out.bk.base⟩⟩
 have fo:((J.length:Int)==300)=false:=by
  rw[AR];omega
 have bs:=LH bg;have d0:Hid ((prog.info? 3).map (λi=>(i.zero,i.size,i.bytes))=some (some (.int .i64 0),1,8)):=LH AB;have z1:X9.cell? ⟨L,1,none⟩=some (.slice N x.rt.length P):=br.out.cell 1;have zl:=br.out.lt;have b0:V.heap.size<=X9.heap.size:=U.out.bk.base.size;have fu:J.length+1<=maxLen:=by unfold maxLen;omega
 go_upto_region 11 with (first
  | (at_builtin;refine Nk rfl _ _ 30 rfl V 8 underlying30 d0.out A' J.length c' (J.map λi:Nat=>(i:Int)) rfl U.out.row (j:Int) rfl fu AA b0 ?_;intro A5 c5 w5 dk b1 fl
     have an:=U.out.push (i:=j) (Zy _ _) dk b1 bs.out;have p1:w5.cell? ⟨mk,1,none⟩=some (.slice A' J.length c'):=an.1.cell 1;have p0:w5.cell? ⟨mk,0,none⟩=some (.pointer (some ⟨gc,0,none⟩)):=an.1.cell 0;have p2:=an.1.frozen 1;have p3:=an.1.lt;have HP:=LH an.2;have cd:Hid (Blk (w5.setCell ⟨mk,1,none⟩ (.slice A5 (J.length+1) c5)) L 60 #[.int .i64 x.L,.slice N x.rt.length P,.int .i64 x.P]):=LH (by
      have c8:=br.out.ext (Zy X9 (.cells #[.int .i64 (j:Int)] 3));have bz:=(Off.of_grown b1).blk c8 λe=>by
       obtain⟨_,_,v,hv⟩:=(U.out.below (Zy X9 (.cells #[.int .i64 (j:Int)] 3))).row.blk e;exact absurd (hv.same_ty c8) AC
      exact bz.other mk 1 _ λe=>by
       rw[e] at bz;exact absurd (bz.same_ty an.1) AC)
     clear an dk b1 fl))
 generalize w5.setCell ⟨mk,1,none⟩ (.slice A5 (J.length+1) c5)=W6 at *;clear p0 p1 p2 p3 z1 zl g0 g2 gl;have hf:W6.cell? ⟨L,1,none⟩=some (.slice N x.rt.length P):=cd.out.cell 1;have hg:=cd.out.lt;have CF:=LH (dw.out mk (J++[j]) x.rt n D t1 N P a d W6 (by rw[AY] at fx;omega) HU.out dx.out (by have h1:=cw.out;have H:=co.out;omega) ch.out cp.out ce.out (cm.out.nkept HP.out.2) HP.out.1);go_wp2_with (first
  | (go_at_call 110
     (with_reducible refine CF.out.mono ?_);rintro e W7⟨fs,dg⟩;obtain⟨bv,rfl,bh⟩:∃bv,e = .returned (.bool bv)/\(((J++[j]).length+t1.length<=300/\bv=true/\MkAt V ⟨gc,gt⟩ ⟨a1,n1,c1,a2,n2,c2,some ⟨bq,oq,none⟩,n3,c3⟩ G mk (J++[j]++t1) W7)\/(300<(J++[j]).length+t1.length/\bv=false/\Below V V W7)):=by
      rcases dg with ⟨h1,rfl,H⟩ | ⟨h1,rfl,H⟩
      ·exact⟨true,rfl,.inl ⟨h1,rfl,H⟩⟩
      exact⟨false,rfl,.inr ⟨h1,rfl,H⟩⟩
     have d5:=LH bh;clear bh dg))
 go_ret;refine⟨bn.out.trans (HP.out.2.trans fs),?_⟩;have dh:=d5.out;rw[AU,CW] at dh;rw[AY];rcases dh with ⟨h1,rfl,H⟩ | ⟨h1,rfl,H⟩
 ·rw[DW] at H;exact .inl ⟨AA,rfl,by rw[<-fv];exact H⟩
 exact .inr ⟨AA,rfl,H⟩
section
variable {W X:World} {L:List Qr} {b:Nat->Bool} {u:Nat->Value}
def VMs.made(M:VMs W L b u X)(A:p∈L)(y:b p.is=false)(m:∀q∈L,(q.ia=p.ia->q=p)/\q.is≠p.ia/\q.ic≠p.ia):VMs W L (Mz b p.ia) (upd u p.ia (aP (some ⟨X,0,aN⟩))) (X.alloc (aC p.z p.ty)):=by
 have t:=Zy X (aC p.z p.ty);have s:∀q∈L,q.ia≠p.ia->Mz b p.ia q.ia=true->∃g f,u q.ia = aP (some ⟨g,0,aN⟩)/\W.heap.size<=g/\Blk X g q.ty f/\((b q.is=false/\f=q.z)\/(b q.is=true/\u q.ic = aG f)):=λq c l h=>by
  rw[Ys l] at h;exact M.at_ q c h
 refine⟨Zz M.below t,λq c h=>?_,λq c r v l h1 n=>?_⟩
 ·by_cases d:q.ia=p.ia
  ·obtain rfl:=(m q c).1 d;exact⟨X,q.z,D1,M.below.size,Blk.new X q.ty q.z,.inl ⟨by rw[Ys (m q c).2.1];exact y,rfl⟩⟩
  obtain⟨g,f,e,o,k,x⟩:=s q c d h;exact⟨g,f,by rw[Yj d];exact e,o,k.ext t,by rw[Ys (m q c).2.1,Yj (m q c).2.2];exact x⟩
 by_cases d:q.ia=p.ia
 ·have j:r.ia≠p.ia:=λe=>l (d.trans e.symm);obtain⟨g,f,e,o,k,_⟩:=s r v j n;rw[d,D1,Yj j,e];intro a;injection a with a;injection a with a;injection a with a;have:=k.lt;omega
 by_cases j:r.ia=p.ia
 ·obtain⟨g,f,e,o,k,_⟩:=s q c d h1;rw[j,D1,Yj d,e];intro a;injection a with a;injection a with a;injection a with a;have:=k.lt;omega
 rw[Yj d,Yj j];rw[Ys d] at h1;rw[Ys j] at n;exact M.apart q c r v l h1 n
def VMs.wrote{f:World}(M:VMs W L b u X)(I:p∈L)(h:b p.ia=true){g:Nat}(e:u p.ia = aP (some ⟨g,0,aN⟩))(y:W.heap.size<=g)(J:u p.ic = aG j)(D:Blk f g p.ty j)(z:Off (λq=>q=g) X f)(n:∀q∈L,(q.ia=p.ia->q=p)/\q.ia≠p.is/\q.ic≠p.is/\(q.is=p.is->q=p))(v:Value):VMs W L (Mz b p.is) (upd u p.is v) f:=by
 refine⟨M.below.trans (z.is_below M.below.size λq d=>by rw[d];exact y),λq d k=>?_,λq d r A l h1 x=>?_⟩
 ·obtain⟨N,o,B,O⟩:=n q d;rw[Ys o] at k;by_cases m:q=p
  ·subst m;exact⟨g,j,by rw[Yj o];exact e,y,D,.inr ⟨Ztw,by rw[Yj B];exact J⟩⟩
  obtain⟨t,C,s,G,E,F⟩:=M.at_ q d k;have l:t≠g:=λH=>M.apart q d p I (λe=>m (N e)) k h (by rw[s,e,H]);refine⟨t,C,by rw[Yj o];exact s,G,z.blk E l,?_⟩;rw[Ys λe=>m (O e),Yj B];exact F
 have a:=(n q d).2.1;have c:=(n r A).2.1;rw[Ys a] at h1;rw[Ys c] at x;rw[Yj a,Yj c];exact M.apart q d r A l h1 x
def VMs.put2(M:VMs W L b u X)(m:p∈L)(h:b p.ia=true)(s:b p.is=false)(t:∀q∈L,(q.ia=p.ia->q=p)/\q.ia≠p.is/\q.ic≠p.is/\(q.is=p.is->q=p)){j k a c:Value}(y:p.z=#[j,k])(h0:∀q,j ≠ aI .u32 q)(h1:∀q,k ≠ aI .u32 q)(x:u p.ic = aG #[a,c]):
 ∃g,u p.ia = aP (some ⟨g,0,aN⟩)/\Blk X g p.ty #[j,k]/\(∀v,VMs W L (Mz b p.is) (upd u p.is v) ((X.setCell ⟨g,0,aN⟩ a).setCell ⟨g,1,aN⟩ c))/\Zu X ((X.setCell ⟨g,0,aN⟩ a).setCell ⟨g,1,aN⟩ c):=by
 obtain⟨g,e,n,d⟩:=M.there m h s;rw[y] at d;have l:Off (λq=>q=g) X ((X.setCell ⟨g,0,aN⟩ a).setCell ⟨g,1,aN⟩ c):=(Off.of_set X g 0 a).trans (Off.of_set _ g 1 c) λ_ _ h=>h;refine⟨g,e,d,λv=>M.wrote m h e n x ((d.set 0 a).set 1 c) l t v,Zu.of_off l λq r o z f=>?_⟩;rw[r,d.cell o] at f;rcases o with _ | _ | o
 ·exact h0 z (BM f)
 ·exact h1 z (BM f)
 cases f
def VMs.put3(M:VMs W L b u X)(r:p∈L)(h:b p.ia=true)(y:b p.is=false)(A:∀q∈L,(q.ia=p.ia->q=p)/\q.ia≠p.is/\q.ic≠p.is/\(q.is=p.is->q=p)){k l m a c d:Value}(C:p.z=#[k,l,m])(h0:∀q,k ≠ aI .u32 q)(h1:∀q,l ≠ aI .u32 q)(s:∀q,m ≠ aI .u32 q)(B:u p.ic = aG #[a,c,d]):
 ∃g,u p.ia = aP (some ⟨g,0,aN⟩)/\Blk X g p.ty #[k,l,m]/\(∀v,VMs W L (Mz b p.is) (upd u p.is v) (((X.setCell ⟨g,0,aN⟩ a).setCell ⟨g,1,aN⟩ c).setCell ⟨g,2,aN⟩ d))/\Zu X (((X.setCell ⟨g,0,aN⟩ a).setCell ⟨g,1,aN⟩ c).setCell ⟨g,2,aN⟩ d):=by
 obtain⟨g,e,t,j⟩:=M.there r h y;rw[C] at j;have n:Off (λq=>q=g) X (((X.setCell ⟨g,0,aN⟩ a).setCell ⟨g,1,aN⟩ c).setCell ⟨g,2,aN⟩ d):=((Off.of_set X g 0 a).trans (Off.of_set _ g 1 c) λ_ _ h=>h).trans (Off.of_set _ g 2 d) λ_ _ h=>h;refine⟨g,e,j,λv=>M.wrote r h e t B (((j.set 0 a).set 1 c).set 2 d) n A v,Zu.of_off n λq x o z f=>?_⟩;rw[x,j.cell o] at f;rcases o with _ | _ | _ | o
 ·exact h0 z (BM f)
 ·exact h1 z (BM f)
 ·exact s z (BM f)
 cases f
end
end
def tr_open(h:GH)(G:Gr)(w:World):
 Calls prog 48 #[GV h G.zt] w λe w'=>∃gc k,e = aR (aP (some ⟨gc,0,aN⟩))/\Wd w ⟨gc,k⟩ h G (λ_=>False) w'/\w.heap.size<=gc/\gc<w'.heap.size:=by
 obtain⟨a1,n1,c1,a2,n2,c2,a3,n3,c3⟩:=h;have g:=Zy w (aC #[K a1 n1 c1,K a2 n2 c2,K a3 n3 c3,aI aJ G.zt] 26);have b:=Blk.new w 26 #[K a1 n1 c1,K a2 n2 c2,K a3 n3 c3,aI aJ G.zt];have o:=@run_makeMap prog;go_enter func48,ntmps48;go_upto_region 1 with fail;generalize w.alloc (aC #[K a1 n1 c1,K a2 n2 c2,K a3 n3 c3,aI aJ G.zt] 26)=a at *;have q:=b.cell 0;have r:=b.cell 1;have s:=b.cell 2;have t:=b.cell 3;have u:=b.lt;have c:=LH g;clear g b;go_wp2_with fail;go_ret;have m:=Vv.made a prog 220;have l:=Zy a (.map #[] 0);have n:(a.alloc (.map #[] 0)).heap.size=a.heap.size+1:=AE
 have j:=Zy (a.alloc (.map #[] 0)) (aC #[K a1 n1 c1,K a2 n2 c2,K a3 n3 c3,aI aJ G.zt,.map (some a)] 164);have d:=Blk.new (a.alloc (.map #[] 0)) 164 #[K a1 n1 c1,K a2 n2 c2,K a3 n3 c3,aI aJ G.zt,.map (some a)];rw[n] at d;refine⟨a+1,a.heap.size,rfl,⟨Zz (Zz c.out l) j,d,c.out.size,[],m.below j,λp f=>(by cases f),λp f=>(by cases f)⟩,by have:=c.out.size;omega,d.lt⟩
def Zqx(a:Option Addr)(n c1:Nat)(xs:List Nat)(w:World)(h1:Zq .u32 w a n c1 xs)(o:Lim xs):
 Calls prog 46 #[K a n c1] w λe w'=>e = aR (aI aJ (Zrs xs:Int))/\Below w w w':=by
 have d:Calls prog 104 #[aI .u64 1] w (Bq w (Zq3 1)):=nat_of 1 w AC;have g:=LH d;have h:Hid (Zz9 (Mw xs (Zq3 1)).1=Zrs xs):=rfl;have f:=LH (Z9 1);have j:=LH (Zqc xs (Zq3 1));generalize Zq3 1=os at *;go_enter func46,ntmps46;go_wp2_with (first
  | (go_at_call 104;refine g.out.mono ?_;rintro e w1⟨A,c,rfl,l,b⟩)
  | (go_at_call 103;refine (nat_sub _ _ _ _ _ _ _ _ _ (h1.below b) l o f.out).mono ?_;rintro e r⟨p,q,rfl,m,k⟩)
  | (go_at_call 105;refine (Zqb _ _ _ _ _ m j.out).mono ?_;rintro e s⟨rfl,rfl⟩;rw[h]))
 go_ret;exact⟨rfl,Zz b k⟩
def Zqe(a:Option Addr)(n c1:Nat)(xs:List Nat)(w:World)(h1:Zq .u32 w a n c1 xs)(b:Lim xs):
 Calls prog 43 #[K a n c1] w λe w'=>e = aR (aI aJ (B9 xs:Int))/\Below w w w':=by
 have f:=Zr5 xs b;have c:Hid (((Zrs xs:Int)+32-1) / 32=(B9 xs:Int)):=LH (by unfold B9;omega);go_enter func43,ntmps43;go_wp2_with (go_at_call 46;refine (Zqx _ _ _ _ _ h1 b).mono ?_;rintro e w1⟨rfl,d⟩);go_ret;exact⟨by rw[<-c];rfl,d⟩
def rf_here(Ar:Option Addr)(cr a:Nat)(b:Option Addr)(ns c:Nat)(d:Bool)(x:Nat)(w:World)(o:Zq .u32 w Ar (Zq3 a).length cr (Zq3 a))(z:a<big)(q:Z1 w b ns c d x):
 Calls prog 77 #[K Ar (Zq3 a).length cr,aG #[K b ns c,aB d]] w λe w'=>e = aR (aB (decide (a<x)))/\Below w w w':=by
 have k:=Zy w (aC #[K b ns c,aB d] 110);have j:=Blk.new w 110 #[K b ns c,aB d];have p:=o.below k;have l:=q.below k;have n:=LH k;have t:=LH p;go_enter func77,ntmps77;go_upto_region 1 with fail;generalize w.alloc (aC #[K b ns c,aB d] 110)=m at *;have B:=j.cell 0;have C:=j.cell 1;have D:=j.lt;rcases l.cases with ⟨r,rfl,ex⟩ | ⟨r,rfl,ex⟩
 case inr =>
  have u:Hid (decide (a<x)=true):=DV AA;go_wp2_with fail;go_ret;exact⟨by rw[u];rfl,n⟩
 have g:=l.2;rw[ex] at g;obtain rfl:=g.len;have f:=Le Ar _ cr (Zq3 a) b _ c (Zq3 x) m t g (Z9 _) (Z9 _);rw[Zvu z r] at f;unfold Quiet at f;have f:=LH f;have hd:decide (Vm a x<0)=decide (a<x):=by
  by_cases h:a<x
  ·rw[DV h,DV (Q5.2 h)]
  rw[BV h,BV λv=>h (Q5.1 v)]
 go_wp2_with (first
  | (go_at_call 36
     refine f.out.mono ?_;rintro e A⟨rfl,y⟩;have s:=LH (Zz n (y.below _))))
 go_ret;exact⟨by first | rfl | rw[hd],s⟩
section
open Go.RowKit Go.Shelf
attribute [local go_sem] Oper.semAt_some
open Go.RowKit Go.Shelf
def Zrv{w W c:World}{v:Value}(h:Zqy w W v)(a:Below W W c):Zqy w c v:=⟨Boxed.below h.b a,Boxed.below h.r0 a,Boxed.below h.r1 a,Boxed.below h.r2 a⟩
def draw_below_early(k:Option Addr)(n c1:Nat)(xs:List Nat)(p:Option Addr)(m c2:Nat)(b:List Nat)(w:World)(h1:Zq .u32 w k n c1 xs)(r:Zq .u32 w p m c2 b)(y:Lim xs)(L:Lim b)(d:Zm xs=false\/(Q xs)=0\/1000<(Q b)\/B9 xs=0):
 Calls prog 23 #[K k n c1,K p m c2] w (RetDraw w (X5 xs b)):=by
 obtain rfl:=h1.len;obtain rfl:=r.len;by_cases g:Zm xs=true
 case neg =>
  have z:Zm xs=false:=by simpa using g
  have a:X5 xs b=([],0,1):=by simp[X5,z]
  clear g d;rw[a];clear a;go_enter func23,ntmps23;go_wp2_with ((go_at_call 42;(with_reducible refine (Zb _ _ _ _ _ (h1.below (Zrt _ _))).mono ?_);rintro e w'⟨rfl,rfl⟩));refine AW (v := .tuple #[K aN 0 0,aI aJ 0,aI aJ 1]) (by simp[results,Tryz.results23,go_sem]) rfl ?_;unfold RetDraw;exact⟨aN,0,rfl,Zq.nil _ _ _ _ AE,(((((AP _ _).alloc (AJ _) _).alloc AE _).alloc AG _).alloc AG _)⟩
 by_cases f:(Q xs)=0
 case pos =>
  have a:X5 xs b=([],0,1):=by simp[X5,f]
  have u:(((Q xs):Int)==0)=true:=by simp[f]
  clear f d;rw[a];clear a;go_enter func23,ntmps23;go_wp2_with ((go_at_call 42;(with_reducible refine (Zb _ _ _ _ _ (h1.below (Zrt _ _))).mono ?_);rintro e w'⟨rfl,rfl⟩));refine AW (v := .tuple #[K aN 0 0,aI aJ 0,aI aJ 1]) (by simp[results,Tryz.results23,go_sem]) rfl ?_;unfold RetDraw;exact⟨aN,0,rfl,Zq.nil _ _ _ _ AE,(((((AP _ _).alloc (AJ _) _).alloc AE _).alloc AG _).alloc AG _)⟩
 have u:(((Q xs):Int)==0)=false:=by rw[AR];omega
 by_cases q:1000<(Q b)
 case pos =>
  have a:X5 xs b=([],0,5):=by simp[X5,g,f,q]
  clear d;rw[a];clear a;go_enter func23,ntmps23;go_wp2_with ((go_at_call 42;(with_reducible refine (Zb _ _ _ _ _ (h1.below (Zrt _ _))).mono ?_);rintro e w'⟨rfl,rfl⟩));refine AW (v := .tuple #[K aN 0 0,aI aJ 0,aI aJ 5]) (by simp[results,Tryz.results23,go_sem]) rfl ?_;unfold RetDraw;exact⟨aN,0,rfl,Zq.nil _ _ _ _ AE,(((((AP _ _).alloc (AJ _) _).alloc AE _).alloc AG _).alloc AG _)⟩
 have o:B9 xs=0:=by
  rcases d with h | h | h | h
  ·rw[g] at h;cases h
  ·omega
  ·omega
  exact h
 ·have a:X5 xs b=([],0,0):=by simp[X5,g,f,q,o]
  have G:((B9 xs:Int)==0)=true:=by simp[o]
  clear d o;rw[a];clear a;go_enter func23,ntmps23;go_wp2_with (first | (go_at_call 42;(with_reducible refine (Zb _ _ _ _ _ (h1.below (Zrt _ _))).mono ?_);rintro e w'⟨rfl,rfl⟩) | (go_at_call 43;(with_reducible refine (Zqe _ _ _ _ _ (h1.below (Zrt _ _)) y).mono ?_);rintro e w1⟨rfl,j⟩;have t:=Zrv (Zq1 w _) j;have x:=j.size;rw[Zr4] at x;have s:=(Zrt w (K k (Q xs) c1)).trans (j.mono (by rw[Zr4];omega));clear j;have c:=Zrh t (aC #[aI aJ ((B9 xs:Nat):Int)] 3);have H:=Boxed.cell c.r0;have I:=Boxed.cell c.r1;have J:=Boxed.cell c.r2;have D:=Boxed.frozen c.r0;have E:=Boxed.frozen c.r1;have F:=Boxed.frozen c.r2));have l:=Zr9 c (K aN 0 0) (aI aJ 0) (aI aJ 0);have A:=Boxed.cell l.1;have B:=Boxed.cell l.2.1;have C:=Boxed.cell l.2.2;refine AW (v := .tuple #[K aN 0 0,aI aJ 0,aI aJ 0]) (by simp[results,Tryz.results23,go_sem,A,B,C]) rfl ?_;unfold RetDraw;exact⟨aN,0,rfl,Zq.nil _ _ _ _ AE,((((s.alloc AA _).setCell (by simp <;> omega) _).setCell (by simp <;> omega) _).setCell (by simp <;> omega) _)⟩
end
section
open Go.RowKit Go.Shelf
attribute [local go_sem] Oper.semAt_some
open Go.RowKit Go.Shelf
open Go.RowKit Go.Shelf
attribute [local go_sem] Oper.semAt_some
def draw_below_loop(A1:Option Addr)(n c1:Nat)(xs:List Nat)(u:Option Addr)(m c2:Nat)(d:List Nat)(w:World)(h1:Zq .u32 w A1 n c1 xs)(h2:Zq .u32 w u m c2 d)(S:Lim xs)(lw:Lim d)(r1:Zm xs=true)(de:(Q xs)≠0)(hw:(Q d)<=1000)(bh:B9 xs≠0):
 Calls prog 23 #[aK A1 n c1,aK u m c2] w (RetDraw w (X5 xs d)):=by
 obtain rfl:=h1.len;obtain rfl:=h2.len;have d0:(((Q xs):Int)==0)=false:=by rw[AR];omega
 have c9:((B9 xs:Int)==0)=false:=by rw[AR];omega
 have bg:X5 xs d=Zrr (val xs) (Zrs xs) (B9 xs) ((Q d)+1) 0 d:=by simp[X5,r1,de,bh];omega
 have cb:=Zr5 xs S;have c7:=Zqf xs bh;have b5:B9 xs<=32:=AA
 obtain⟨N,HN⟩:∃N,Hid (B9 xs=N):=⟨_,LH rfl⟩;obtain⟨K,T⟩:∃K,Hid (Zrs xs=K):=⟨_,LH rfl⟩;rw[HN,T] at bg;rw[HN] at c9 bh b5;rw[T] at cb;rw[HN,T] at c7;rw[bg];have ad:0<N:=AA
 obtain⟨b,H,hA⟩:∃b H,0<(Q d)->u=some ⟨b,H,aN⟩:=by
  rcases BW (Q d) with h | h
  ·exact⟨0,0,λh'=>AA⟩
  obtain⟨b,H,e,_⟩:=h2.at_ h;exact⟨b,H,λ_=>e⟩
 have b2:=h2.cap;refine (callsIn_wide (n:=5)).1 ?_;refine callsIn_of_wp_marks func23 rfl trivial ?_ rfl;simp only[ntmps23,List.size_toArray,AY,DE,Nat.reduceAdd,Nat.reduceSub,Array.replicate_succ,Array.replicate_zero,List.push_toArray,List.append_toArray,DA,DL]
 gi_wp2_with (first
  | (refine⟨trivial,?_⟩;gi_at_call 42;refine (callsIn_wide.2 (Zb _ _ _ _ _ (h1.below (Zrt _ _)))).mono ?_;rintro e w'⟨rfl,rfl⟩)
  | (refine⟨trivial,?_⟩;gi_at_call 43;refine (callsIn_wide.2 (Zqe _ _ _ _ _ (h1.below (Zrt _ _)) S)).mono ?_;rintro e w1⟨rfl,au⟩;have g:=Zrv (Zq1 w _) au;have hz:=au.size;rw[Zr4] at hz;have bx:=(Zrt w (aK A1 (Q xs) c1)).trans (au.mono (by rw[Zr4];omega));rw[HN])
  | (refine⟨trivial,?_⟩;gi_at_call 44;refine (callsIn_wide.2 (chunk_in _ _ _ _ ad _)).mono ?_;rintro e w2⟨rfl,rfl⟩))
 have b7:=Boxed.new w1 3 (aI aJ (N:Int));have b8:=Boxed.new (w1.alloc (aC #[aI aJ (N:Int)] 3)) 3 (aI aJ 0);have bs:=Boxed.new ((w1.alloc (aC #[aI aJ (N:Int)] 3)).alloc (aC #[aI aJ 0] 3)) 27 (aK u (Q d) c2);have bn:=Boxed.new (((w1.alloc (aC #[aI aJ (N:Int)] 3)).alloc (aC #[aI aJ 0] 3)).alloc (aC #[aK u (Q d) c2] 27)) 3 (aI aJ (N:Int));simp only[World.size_alloc] at b8 bs bn;have b7:=((b7.alloc (aC #[aI aJ 0] 3)).alloc (aC #[aK u (Q d) c2] 27)).alloc (aC #[aI aJ (N:Int)] 3);have b8:=(b8.alloc (aC #[aK u (Q d) c2] 27)).alloc (aC #[aI aJ (N:Int)] 3);have bs:=bs.alloc (aC #[aI aJ (N:Int)] 3);have hU:=Zrh (Zrh (Zrh (Zrh g (aC #[aI aJ (N:Int)] 3)) (aC #[aI aJ 0] 3)) (aC #[aK u (Q d) c2] 27)) (aC #[aI aJ (N:Int)] 3);have cy:Below w w ((((w1.alloc (aC #[aI aJ (N:Int)] 3)).alloc (aC #[aI aJ 0] 3)).alloc (aC #[aK u (Q d) c2] 27)).alloc (aC #[aI aJ (N:Int)] 3)) :=
  ((((bx.alloc AA _).alloc (by simp <;> omega) _).alloc (by simp <;> omega) _).alloc (by simp <;> omega) _)
 have dz:((((w1.alloc (aC #[aI aJ (N:Int)] 3)).alloc (aC #[aI aJ 0] 3)).alloc (aC #[aK u (Q d) c2] 27)).alloc (aC #[aI aJ (N:Int)] 3)).heap.size=w1.heap.size+1+1+1+1:=AE
 generalize ((((w1.alloc (aC #[aI aJ (N:Int)] 3)).alloc (aC #[aI aJ 0] 3)).alloc (aC #[aK u (Q d) c2] 27)).alloc (aC #[aI aJ (N:Int)] 3))=wS at *
 refine' wpIn_rangeFunc_ownF (F:=Fence.wide) (n:=5) rfl AC (gf:=101) (lb:=#[aP (some ⟨w1+1+1,0,aN⟩),aP (some ⟨w1+1+1+1,0,aN⟩)]) rfl trivial (enters_of func101 AB rfl)
  (chunk_stops 4 AC (w1.heap.size+1+1) (w1.heap.size+1+1+1) b H (Q d) c2 N u hA ad AA hw b2.1 b2.2 wS AA AA bs.cell bn.cell)
  (λh k=>Zrq.t h k) (Zrq.b AA AA) (AP _ _) (λ_=>rfl)
  (λB W=>IBel w w1 d (aK A1 (Q xs) c1) (val xs) K N B W)
  (λc B W=>XBel w w1 d (val xs) K N c B W)
  (OwnFrom.and ((ib_own w w1 d _ _ K N).from _) (ownFrom_below (AJ _) AA))
  (λc=>OwnFrom.and ((xb_own w w1 d _ K N c).from _) (ownFrom_below (AJ _) AA))
  ⟨⟨hU,b7,by simpa using b8,AA,λx G=>by cases G⟩,cy⟩ _ ?_ ?_ ?_ ?_
 rotate_left
 ·intro l x W Kx A;simp only[encP]
  gi_wp2
  exact A
 ·rintro l B ⟨⟨E,f⟩,aa,ab⟩ W ⟨⟨g,bc,Z,cc,L⟩,I⟩ dx;have da:N*(Q B)<=1000000:=by
   have:=Nat.mul_le_mul b5 (show (Q B)<=1000 by omega);omega
  obtain⟨U,HU⟩:∃U,Hid (N*(Q B)=U):=⟨_,LH rfl⟩;rw[HU] at da Z;have k0:=Boxed.cell g.b;have k1:=Boxed.cell g.r0;have k2:=Boxed.cell g.r1;have k3:=Boxed.cell g.r2;have k7:=Boxed.cell bc;have k8:=Boxed.cell Z;have f8:=Boxed.frozen Z;by_cases hm:f<N
  ·gi_wp2
   exact⟨KeepsOthers.setCell _ _ _,⟨B,_,rfl,L,.inr ⟨rfl,hm,_,Zqa g AA _⟩⟩,I.setCell (by simp <;> omega) _⟩
  have c6:f=N:=by simp at ab;omega
  subst c6;have db:E+f<=(Q d):=aa;have bw:=hA AA;have cx:Zq .u32 w (some ⟨b,H,aN⟩) (Q d) c2 d:=by rw[<-bw];exact h2
  obtain⟨ps,a0⟩:∃ps,Hid (Zrp d (⟨(E,f),aa,ab⟩:Zrl (Q d) f)=ps):=⟨_,LH rfl⟩;have a1:Hid ((d.drop E).take f=ps):=a0.out;have ca:(Q ps)=f:=by rw[<-a1,BU,CJ];omega
  have lp:Lim ps:=by rw[<-a1];exact (lw.drop E).take f
  have O:=I.setCell (p:=⟨w1+1,0,aN⟩) (by simp <;> omega) (aI aJ ((U:Int)+(f:Int)));have ba:=Zqa g (b:=w1.heap.size+1) AA (aI aJ ((U:Int)+(f:Int)));have c5:=Boxed.far bc (b:=w1.heap.size+1) AA (aI aJ ((U:Int)+(f:Int)));have b0:=Boxed.set (aI aJ ((U:Int)+(f:Int))) Z;have bz:=KeepsOthers.setCell W ⟨w1+1,0,aN⟩ (aI aJ ((U:Int)+(f:Int)));have c0:=keep2_far (a:=w1.heap.size+1+1) (b:=w1.heap.size+1+1+1) (c:=w1.heap.size+1) W AA AA (aI aJ ((U:Int)+(f:Int)));have ce:(W.setCell ⟨w1+1,0,aN⟩ (aI aJ ((U:Int)+(f:Int)))).heap.size=W.heap.size:=AE
  have b9:∀C,Below w w C->Zq .u32 C (some ⟨b,H+E,aN⟩) f f ps:=λC a5=>by
   have:=(cx.below a5).part E f f db (AJ _) AA;rwa [a1] at this
  have cl:=LH b9;have d3:=Boxed.cell ba.b;have bm:Hid (oneOf K ps=Zq3 (val ps % 2 ^ K)):=rfl;have b1:=one_big K (val ps) cb;have M:=LH (one_cmp xs r1 _ b1);obtain⟨t,Ht⟩:∃t,Hid (val ps % 2 ^ K=t):=⟨_,LH rfl⟩;rw[Ht] at bm M;obtain⟨cv,ay⟩:∃cv,Hid (Vq (Zq3 t) xs=cv):=⟨_,LH rfl⟩;rw[ay] at M;have bf:=M.out;rw[decide_eq_decide] at bf;replace M:=LH bf;have bk:=LH (Z9 t);have al:=LH ca;have b6:∀C,Below w w C->Calls prog 45 #[aK (some ⟨b,H+E,aN⟩) f f,aI aJ (K:Int)] C (Bq C (Zq3 t)):=λC a5=>by
   have:=draw_number _ _ _ ps K C (cl C a5) lp (by rw[al];omega) (by rw[al];omega) (by rw[al];omega) (by rw[al];omega);rwa [bm] at this
  have bl:=LH b6;have az:=LH L;by_cases R:t<val xs
  ·have c8:=M.2 R;have a3:=LH R
   gi_wp2_with (first
    | (refine⟨trivial,?_⟩;gi_at_call 46;refine (CallsIn.inRound l (callsIn_wide.2 (Zqx _ _ _ _ _ (h1.below O) S))).mono ?_;rintro e W3⟨rfl,s⟩;rw[T];have J:=O.trans (s.mono O.size);have bb:=Zrv ba s;have bd:=Boxed.below b0 s;have q:=bz.trans (Zru s);have cf:=BC (Nat.le_of_eq ce.symm) s.size)
    | (refine⟨trivial,?_⟩;gi_at_call 45;refine (CallsIn.inRound l (callsIn_wide.2 (bl.out _ J))).mono ?_;rintro e W4⟨A4,c4,rfl,ae,z⟩;have X:=J.trans (z.mono J.size);have Y:=Zrv bb z;have be:=Boxed.below bd z;have a7:=q.trans (Zru z);have dk:=Boxed.cell Y.b)
    | (refine⟨trivial,?_⟩;gi_at_call 47;refine (CallsIn.inRound l (callsIn_wide.2 (Zym _ _ _ _ _ _ _ _ _ ae (h1.below X) bk.out S))).mono ?_;rintro e W5⟨rfl,j⟩;rw[ay];have o:=Zrv Y (j.below _);have av:=Boxed.below be (j.below _);have a8:=a7.trans (Zru (j.below _));have a6:=X.trans (j.below _);have cd:=ae.same j;have dl:=Boxed.cell o.r0;have dm:=Boxed.cell o.r1;have dn:=Boxed.cell o.r2;have co:=Boxed.frozen o.r0;have cq:=Boxed.frozen o.r1;have cs:=Boxed.frozen o.r2;have dp:=Boxed.cell av))
   have dy:prog.follows .mixedOrders=true:=AB
   gi_region_with_o (fail)
   all_goals gi_wp2
   all_goals
    have a9:=Zr9 o (aK A4 (Zq3 t).length c4) (aI aJ ((U:Int)+(f:Int))) (aI aJ 0);have df:=nums_sets o cd (aK A4 (Zq3 t).length c4) (aI aJ ((U:Int)+(f:Int))) (aI aJ 0);have aw:val (Zrp d (⟨(E,f),aa,ab⟩:Zrl (Q d) f)) % 2 ^ K=t:=by rw[a0];exact Ht
    refine⟨(((a8.trans (KeepsOthers.setCell _ _ _)).trans (KeepsOthers.setCell _ _ _)).trans (KeepsOthers.setCell _ _ _)).trans (Zru ((AP _ _).drew)),⟨B,_,rfl,az,.inl ⟨rfl,rfl,by rw[aw];exact a3,A4,c4,?_⟩⟩,(((a6.setCell (by simp <;> omega) _).setCell (by simp <;> omega) _).setCell (by simp <;> omega) _).drew⟩;rw[aw];refine⟨a9.1,?_,a9.2.2,df⟩;rw[HU];exact a9.2.1
  have c8:0<=cv:=by
   have:=mt M.1 R;omega
  have a3:=LH R
  gi_wp2_with (first
   | (refine⟨trivial,?_⟩;gi_at_call 46;refine (CallsIn.inRound l (callsIn_wide.2 (Zqx _ _ _ _ _ (h1.below O) S))).mono ?_;rintro e W3⟨rfl,s⟩;rw[T];have J:=O.trans (s.mono O.size);have bb:=Zrv ba s;have bd:=Boxed.below b0 s;have q:=bz.trans (Zru s);have cf:=BC (Nat.le_of_eq ce.symm) s.size)
   | (refine⟨trivial,?_⟩;gi_at_call 45;refine (CallsIn.inRound l (callsIn_wide.2 (bl.out _ J))).mono ?_;rintro e W4⟨A4,c4,rfl,ae,z⟩;have X:=J.trans (z.mono J.size);have Y:=Zrv bb z;have be:=Boxed.below bd z;have a7:=q.trans (Zru z);have dk:=Boxed.cell Y.b)
   | (refine⟨trivial,?_⟩;gi_at_call 47;refine (CallsIn.inRound l (callsIn_wide.2 (Zym _ _ _ _ _ _ _ _ _ ae (h1.below X) bk.out S))).mono ?_;rintro e W5⟨rfl,j⟩;rw[ay];have o:=Zrv Y (j.below _);have av:=Boxed.below be (j.below _);have a8:=a7.trans (Zru (j.below _));have a6:=X.trans (j.below _);have cd:=ae.same j;have dl:=Boxed.cell o.r0;have dm:=Boxed.cell o.r1;have dn:=Boxed.cell o.r2;have co:=Boxed.frozen o.r0;have cq:=Boxed.frozen o.r1;have cs:=Boxed.frozen o.r2;have dp:=Boxed.cell av))
  have aw:val (Zrp d (⟨(E,f),aa,ab⟩:Zrl (Q d) f)) % 2 ^ K=t:=by rw[a0];exact Ht
  have di:=BC cc cf;have dj:=BC di z.size;refine⟨a8,?_,⟨o,Boxed.below (Boxed.below (Boxed.below c5 s) z) (j.below _),?_,BC dj (j.below W4).size,λy hy=>?_⟩,a6⟩
  ·exact Zrq.t (Zrq.t (Zrq.t c0 (Zra s AA AA)) (Zra z AA AA)) (Zra (j.below _) AA AA)
  ·have e:f*(B++[(⟨(E,f),aa,ab⟩:Zrl (Q d) f)]).length=U+f:=by rw[AU,CW,DK,HU,Eh]
   rw[e];exact av
  rcases DB.1 hy with h | h
  ·exact az y h
  obtain rfl:=BO.1 h;exact⟨rfl,by rw[aw];exact a3⟩
 ·rintro D ys W hD ⟨k,hk,rfl⟩ ⟨⟨g,bc,Z,cc,L⟩,I⟩ A;have V:=LH (drawF_done ad rfl hk L);have az:=LH L;have k1:=Boxed.cell g.r0;have k2:=Boxed.cell g.r1;have k3:=Boxed.cell g.r2;have f1:=Boxed.frozen g.r0;have f2:=Boxed.frozen g.r1;have f3:=Boxed.frozen g.r2
  gi_wp2
  have j:=Zr9 g (aK aN 0 0) (aI aJ 0) (aI aJ 12);have q:=(((KeepsOthers.setCell W ⟨w+1,0,aN⟩ (aK aN 0 0)).trans (KeepsOthers.setCell _ ⟨w+1+1,0,aN⟩ (aI aJ 0))).trans (KeepsOthers.setCell _ ⟨w+1+1+1,0,aN⟩ (aI aJ 12))).same D _ A rfl;have z0:=cell_kept (Boxed.cell j.1) (grownBy_putObj' _ D (.deferred aN)) (λr e=>by cases e;exact⟨_,q,rfl⟩);have z1:=cell_kept (Boxed.cell j.2.1) (grownBy_putObj' _ D (.deferred aN)) (λr e=>by cases e;exact⟨_,q,rfl⟩);have z2:=cell_kept (Boxed.cell j.2.2) (grownBy_putObj' _ D (.deferred aN)) (λr e=>by cases e;exact⟨_,q,rfl⟩);refine⟨AE,.inl ⟨_,_,rfl,run_takeDeferred q,?_⟩⟩;refine⟨.tuple #[aK aN 0 0,aI aJ 0,aI aJ 12],?_,?_⟩
  ·simp[results,Tryz.f23,go_sem,z0,z1,z2]
  unfold RetDraw;rw[V];exact⟨aN,0,rfl,Zq.nil _ _ _ 0 AC,(((I.setCell (p:=⟨w+1,0,aN⟩) (by show w.heap.size<=w.heap.size+1;omega) (aK aN 0 0)).setCell (p:=⟨w+1+1,0,aN⟩) (by show w.heap.size<=w.heap.size+1+1;omega) (aI aJ 0)).setCell (p:=⟨w+1+1+1,0,aN⟩) (by show w.heap.size<=w.heap.size+1+1+1;omega) (aI aJ 12)).trans (belowK_b (w:=w) (AJ _) _ D _ _ AA q rfl rfl)⟩
 rintro D c B W hD⟨k,rfl⟩ ⟨⟨d1,x,e1,P,h⟩,I⟩ A;obtain⟨k,rfl⟩:∃k',k=k'+1:=by
  cases k with
  | zero=>simp[Zrw] at e1
  | succ k'=>exact⟨k',rfl⟩
 rw[Zrb] at e1;obtain⟨rfl,e5⟩:=List.append_inj' e1 rfl;obtain rfl:Zre (Q d) N k=x:=by simpa using e5
 rcases h with ⟨rfl,G,hv,A',c',g1,g2,g3,g4⟩ | ⟨rfl,G,v,g⟩
 ·have V:=LH (drawF_drawn ad rfl P G hv);rw[Zr1] at g2;generalize val (Zrp d (Zre (Q d) N k)) % 2 ^ K=t at *;have Hf:=LH P;have Hx:=LH G
  gi_wp2
  have z0:=cell_kept (Boxed.cell g1) (grownBy_putObj' _ D (.deferred aN)) (λr e=>by cases e;exact⟨_,A,rfl⟩);have z1:=cell_kept (Boxed.cell g2) (grownBy_putObj' _ D (.deferred aN)) (λr e=>by cases e;exact⟨_,A,rfl⟩);have z2:=cell_kept (Boxed.cell g3) (grownBy_putObj' _ D (.deferred aN)) (λr e=>by cases e;exact⟨_,A,rfl⟩);have z4:=Zqt g4 (grownBy_putObj' _ D (.deferred aN)) (λr e=>by cases e;exact⟨_,A,rfl⟩);refine⟨AE,.inl ⟨_,_,rfl,run_takeDeferred A,?_⟩⟩;refine⟨.tuple #[aK A' (Zq3 t).length c',aI aJ ((N*k+N:Nat):Int),aI aJ 0],?_,?_⟩
  ·simp[results,Tryz.f23,go_sem,z0,z1,z2]
  unfold RetDraw;rw[V];exact⟨A',c',rfl,z4,I.trans (belowK_b (w:=w) (AJ _) _ D _ _ AA A rfl rfl)⟩
 have V:=LH (drawF_cut ad rfl P G);have Hf:=LH P;have Hx:=LH G;have k1:=Boxed.cell g.r0;have k2:=Boxed.cell g.r1;have k3:=Boxed.cell g.r2;have f1:=Boxed.frozen g.r0;have f2:=Boxed.frozen g.r1;have f3:=Boxed.frozen g.r2
 gi_wp2
 have j:=Zr9 g (aK aN 0 0) (aI aJ 0) (aI aJ 12);have q:=(((KeepsOthers.setCell W ⟨w+1,0,aN⟩ (aK aN 0 0)).trans (KeepsOthers.setCell _ ⟨w+1+1,0,aN⟩ (aI aJ 0))).trans (KeepsOthers.setCell _ ⟨w+1+1+1,0,aN⟩ (aI aJ 12))).same D _ A rfl;have z0:=cell_kept (Boxed.cell j.1) (grownBy_putObj' _ D (.deferred aN)) (λr e=>by cases e;exact⟨_,q,rfl⟩);have z1:=cell_kept (Boxed.cell j.2.1) (grownBy_putObj' _ D (.deferred aN)) (λr e=>by cases e;exact⟨_,q,rfl⟩);have z2:=cell_kept (Boxed.cell j.2.2) (grownBy_putObj' _ D (.deferred aN)) (λr e=>by cases e;exact⟨_,q,rfl⟩);refine⟨AE,.inl ⟨_,_,rfl,run_takeDeferred q,?_⟩⟩;refine⟨.tuple #[aK aN 0 0,aI aJ 0,aI aJ 12],?_,?_⟩
 ·simp[results,Tryz.f23,go_sem,z0,z1,z2]
 unfold RetDraw;rw[V];exact⟨aN,0,rfl,Zq.nil _ _ _ 0 AC,(((I.setCell (p:=⟨w+1,0,aN⟩) (by show w.heap.size<=w.heap.size+1;omega) (aK aN 0 0)).setCell (p:=⟨w+1+1,0,aN⟩) (by show w.heap.size<=w.heap.size+1+1;omega) (aI aJ 0)).setCell (p:=⟨w+1+1+1,0,aN⟩) (by show w.heap.size<=w.heap.size+1+1+1;omega) (aI aJ 12)).trans (belowK_b (w:=w) (AJ _) _ D _ _ AA q rfl rfl)⟩
def draw_below(c:Option Addr)(n c1:Nat)(xs:List Nat)(d:Option Addr)(m c2:Nat)(a:List Nat)(w:World)(h1:Zq .u32 w c n c1 xs)(f:Zq .u32 w d m c2 a)(h:Lim xs)(g:Lim a):
 Calls prog 23 #[K c n c1,K d m c2] w (RetDraw w (X5 xs a)):=by
 by_cases b:Zm xs=false\/(Q xs)=0\/1000<(Q a)\/B9 xs=0
 ·exact draw_below_early c n c1 xs d m c2 a w h1 f h g b
 rw[not_or,not_or,not_or] at b;exact draw_below_loop c n c1 xs d m c2 a w h1 f h g (by simpa using b.1) b.2.1 AA b.2.2.2
end
section
variable{W0:World}{At:Option Addr}{tab:Nat->Nat->Nat}
theorem Zwp{h:GH}{G:Gr}{V O:Nat}(hT:TbG W0 h G At V O tab)(hP:Xq G)(m:Nat)(HT:WTC W0 h G At V O m):WFC W0 h G At V O m:=by
 intro J cs l
 induction l generalizing cs with
 | nil =>
   intro n r t Al W Ar cr w cg hU be ce cf hn hh hl hr o;have ft:=o;obtain⟨A,c,ah⟩:=o;cases hU;have g7:=LH ah.few;have HM:=LH ft;clear ah ft hT hP HT be ce cf hh hl hr cg;go_enter func78,ntmps78;go_wp2_with fail;refine AW (results_none rfl _ _ _) rfl ?_;exact⟨rfl,Zu.refl _,.inl ⟨by have:=g7.out;rw[DE];omega,by rw[DJ];exact HM.out⟩⟩
 | cons s l ih =>
   intro n r t Al W Ar cr w cg hU be ce cf hn hh hl hr o;obtain⟨k,q,r2,t1,t2,j1,gb,f9,f8,fv,rfl,f7,bf⟩:=hU.parts hP be;obtain⟨A,c,ah⟩:=o;obtain⟨a1,n1,c1,a2,n2,c2,a3,n3,c3⟩:=h;have j7:=hT.tabm.1;have j8:=hT.tabm.2.1;have j5:=hT.nt;have jy:=hP.fits.n1;have j4:=hP.fits.n2.2;have gd:=H7 (hh s (By ..));have jw:=hl.cap;obtain⟨ab,ao,s',rfl,cc,fn,dt⟩:=hl.get (j:=0) AE;obtain rfl:s=s':=by have:=fn.out;simpa using this
   rw[DN] at dt;have b8:=hl.tail1;rw[show (s::l).length-1=l.length from rfl] at b8;obtain⟨A2,hm⟩:∃A2:Option Addr,(if W=1 then some (⟨ab,ao,none⟩:Addr) else some ⟨ab,ao+1,none⟩)=A2:=⟨_,rfl⟩;rw[hm] at b8;have ht:InG G [s]:=λp d f6=>by
    rw[BO.1 d] at f6 ⊢;exact be s (By ..) f6
   have fu:0<Zx (Zv G) l (n-k):=AA
   have db:Hid (∀j,j<=k+1->Yv (Zv G) s l n j<=Zx (Zv G) (s::l) n):=LH λj hj=>by
    rw[<-Jn];exact Wz _ _ _ _ AA
   have bl:Hid (∀j,Yv (Zv G) s l n (j+1)=Yv (Zv G) s l n j+Zv G s j*Zx (Zv G) l (n-j)):=LH λj=>Xy _ _ _ _ _;have g8:Hid (∀j,j<=k->Yv (Zv G) s l n j<=Yv (Zv G) s l n k):=LH λj hj=>Wz _ _ _ _ hj;have HB:=LH hT;have gy:=LH HT;have IH:=LH ih;have ff:=LH fv;have dd:=LH gb;have fm:=LH f9;have fl:=LH f8;have hc:=LH f7;have ha:=LH bf;have da:=LH be;have c9:=LH ce;have Hh:=LH hh;have cx:=LH b8;have HL:=LH hl;have HM:=LH ah;have HR:=LH hr;have df:=LH cg;have HP:=LH hP;have j3:l.length<=5:=by simpa using cf
   have gz:=LH fu;have fo:=LH gd;have bb:=ah.base;have g4:w.cell? ⟨J,4,none⟩=some (.slice At V O):=ah.box.cell 4;have g6:w.cell? ⟨J,6,none⟩=some (.bool false):=ah.box.cell 6;have gl:=ah.box.lt;have j2:((l.length:Int)+1==0)=false:=by rw[AR];omega
   clear hT HT ih hU fv gb f9 f8 f7 bf be ce hh b8 hl ah hr cg hP fu fn ht bb cf gd;go_enter func78,ntmps78;go_wp2_with fail;go_loopw [3,8] (λv i wr=>∃(j I:Nat) (Av:Option Addr) (cv:Nat),i = .int .i64 (j:Int)/\j<=k/\v = .slice Av (Zq3 I).length cv/\Hid (r=Yv (Zv G) s l n j+I)/\Hid (Zq .u32 wr Av (Zq3 I).length cv (Zq3 I))/\Hid (Below w w wr)) (λ_ i _=>k+1-(intOf i).toNat)
   case atStart=>exact⟨0,r,Ar,cr,rfl,AV _,rfl,LH (by rw[Ug];omega),HR,LH (AP _ _)⟩
   obtain⟨j,I,Av,cv,rfl,hj,rfl,b6,HN,fj⟩:=hrel;have bi:=LH (HM.out.below fj.out);clear g4 g6 gl HM HR;have M:=bi.out;have g4:wr.cell? ⟨J,4,none⟩=some (.slice At V O):=M.box.cell 4;have gl:=M.box.lt;have s0:=(M.base.cell (p:=⟨ab,ao,none⟩) cc).trans dt;have sl:=AK cc M.base.size;have j0:j<=n:=AA
   clear M;obtain⟨x,Hx⟩:∃x,Hid (Zv G s j=x):=⟨_,LH rfl⟩;obtain⟨y,Hy⟩:∃y,Hid (Zx (Zv G) l (n-j)=y):=⟨_,LH rfl⟩;have CT:Hid (∀X,Below wr wr X->Calls prog 123 #[.slice At V O,.int .i64 s,.int .i64 (j:Int)] X λe w'=>Below X X w'/\∃B F C D,e = .returned (.agg #[.slice B F C,.bool D])/\Z1 w' B F C D x):=LH λX E=>by
    have bb:=Zz bi.out.base E;have h1:=Ztn At V O G.O.length tab s j X (HB.out.tabm.below bb) AA AA AA (λ_=>by have:=fo.out;omega);rw[HB.out.tree (Hh.out s (By ..)) AA,Hx.out] at h1;exact h1.mono λe w' h=>h
   have CF:Hid (∀X,Below wr wr X->Calls prog 63 #[.slice At V O,.slice A2 l.length (W-1),.int .i64 ((n-j:Nat):Int)] X λe w'=>Below X X w'/\∃B F C D,e = .returned (.agg #[.slice B F C,.bool D])/\Z1 w' B F C D y):=LH λX E=>by
    have bb:=Zz bi.out.base E;have h1:=Kd At V O G.O.length tab A2 (W-1) l (n-j) X (HB.out.tabm.below bb) AA AA AA (cx.out.below bb) AA (λs hs=>by have:=H7 (Hh.out s (.tail _ hs));omega);rw[HB.out.forest (λs hs=>Hh.out s (.tail _ hs)) AA,Hy.out] at h1;exact h1.mono λe w' h=>h
   go_upto_region 4 with fail;refine Yi (Γ:=Unit) (λ_ b u X=>VMs wr [(⟨19,21,8,110,#[.slice none 0 0,.bool false]⟩:Qr),(⟨20,22,18,110,#[.slice none 0 0,.bool false]⟩:Qr)] b u X) (λX Y=>Zu X Y) () (λu=>(⟨(.pointer (some ⟨J,0,none⟩) :: .slice (some ⟨ab,ao,none⟩) (l.length+1) W :: .int .i64 (n:Int) :: .slice Av (Zq3 I).length cv::undef::undef::undef::undef :: .int .i64 (j:Int)::u 19::u 20::u11::u12::u13::u14 :: .slice (some ⟨ab,ao,none⟩) (l.length+1) W :: .int .i64 ((l.length:Int)+1) :: .bool false :: .bool false :: .pointer (some ⟨J,0,none⟩) :: .pointer (some ⟨J,0,none⟩) :: .pointer (some ⟨J,6,none⟩) :: .bool false :: .bool false :: .int .i64 (j:Int) :: .int .i64 (n:Int) :: .bool true::u27::u28::u 0::u 1::u 2::u 3::u 4::u 5::u 6::u 7::u 8::u 9::u 10::u 11::u 12::u 13::u 14::u 15::u 16::u 17::u 18::u48::u49::u50::u51::u52::u53::u54::u55::u56::u57::u58::u59::u60::u61::u62::u63::u64::u65::u66::u67::u68::u69::u70::u71::u72::u73::u74::u75::u76::u77::u78::u79::u80::u81::u82::u83::u84::u85::u86::[]).toArray,[]⟩:Act)) [u29,u30,u31,u32,u33,u34,u35,u36,u37,u38,u39,u40,u41,u42,u43,u44,u45,u46,u47,u9,u10,undef,undef] [λv X=>v = .pointer (some ⟨J,0,none⟩),λv X=>v = .pointer (some ⟨J,0,none⟩),λv X=>v = .pointer (some ⟨J,4,none⟩),λv X=>v = .slice At V O,λv X=>v = .slice (some ⟨ab,ao,none⟩) (l.length+1) W,λv X=>v = .pointer (some ⟨ab,ao,none⟩),λv X=>v = .int .i64 s,λv X=>v = .int .i64 (j:Int),λv X=>∃B F C D,v = .agg #[.slice B F C,.bool D]/\Z1 X B F C D x,λv X=>v = .pointer (some ⟨J,0,none⟩),λv X=>v = .pointer (some ⟨J,0,none⟩),λv X=>v = .pointer (some ⟨J,4,none⟩),λv X=>v = .slice At V O,λv X=>v = .slice (some ⟨ab,ao,none⟩) (l.length+1) W,λv X=>v = .slice A2 l.length (W-1),λv X=>v = .int .i64 (n:Int),λv X=>v = .int .i64 (j:Int),λv X=>v = .int .i64 ((n-j:Nat):Int),λv X=>∃B F C D,v = .agg #[.slice B F C,.bool D]/\Z1 X B F C D y,λv X=>True,λv X=>True,λv X=>True,λv X=>True] (l:=[_,_,_,_,_,_,_,_,_,_,_,_,_,_,_,_,_,_,_,_,_,_,_]) AB AB rfl (VMs.zt _ _ _) ⟨AI,AI,AI,AI,AI,AI,AI,AI,(λv X Y ⟨B,F,C,D,e,h⟩ E=>⟨B,F,C,D,e,h.nkept E⟩),AI,AI,AI,AI,AI,AI,AI,AI,AI,(λv X Y ⟨B,F,C,D,e,h⟩ E=>⟨B,F,C,D,e,h.nkept E⟩),AI,AI,AI,AI,trivial⟩ ?_ ?_
   ·refine Zw.v0 ?_;refine Zw.v1 0 ?_;refine Zw.v1 1 ?_;refine Zw.vf (λQ g b u X K z L o f H=>?_) ?_
    ·have p2:u 2=_:=f 2 rfl;have N:=o.below;have y0:=(N.cell (p:=⟨J,4,none⟩) gl).trans g4;have yl:=AK gl N.size;clear f o z;generalize u 2=x2 at *;subst p2;go_simp;exact H
    refine Zw.v0 ?_;refine Zw.vf (λQ g b u X K z L o f H=>?_) ?_
    ·have p4:u 4=_:=f 4 rfl;clear f o z;generalize u 4=x4 at *;subst p4;go_simp;exact H
    refine Zw.vf (λQ g b u X K z L o f H=>?_) ?_
    ·have p5:u 5=_:=f 5 rfl;have N:=o.below;have y0:=(N.cell (p:=⟨ab,ao,none⟩) sl).trans s0;have yl:=AK sl N.size;clear f o z;generalize u 5=x5 at *;subst p5;go_simp;exact H
    refine Zw.v0 ?_;refine Zw.con (λQ g b u X z L o d K H=>?_) ?_
    ·have p3:u 3=_:=(d 3 rfl).2;have p6:u 6=_:=(d 6 rfl).2;have p7:u 7=_:=(d 7 rfl).2;have du:b 21=false:=z.no L AB;have S:=λY (E:Below X X Y) v=>o.call E 8 du rfl v;have N:=o.below;have CC:=CT.out X N;clear d o z;rw[p3,p6,p7] at H⊢;go_simp;go_at_call 123;(with_reducible refine CC.mono ?_);rintro e Y⟨E,B,F,C,D,rfl,hv⟩;go_simp;exact H _ () _ (.of_below E) (S _ E _) ⟨B,F,C,D,rfl,hv⟩
    refine Zw.v0 ?_;refine Zw.v1 9 ?_;refine Zw.v1 10 ?_;refine Zw.vf (λQ g b u X K z L o f H=>?_) ?_
    ·have h0:u 11=_:=f 11 rfl;have N:=o.below;have y0:=(N.cell (p:=⟨J,4,none⟩) gl).trans g4;have yl:=AK gl N.size;clear f o z;generalize u 11=kr at *;subst h0;go_simp;exact H
    refine Zw.v0 ?_;refine Zw.vf (λQ g b u X K z L o f H=>?_) ?_
    ·have h8:u 13=_:=f 13 rfl;have N:=o.below;have hy:(1:Int)<=(l.length:Int)+1:=AA
     clear f o z;generalize u 13=kt at *;subst h8;go_simp;exact H
    refine Zw.v0 ?_;refine Zw.v0 ?_;refine Zw.con (λQ g b u X z L o d K H=>?_) ?_
    ·have jb:u 15=_:=(d 15 rfl).2;have jc:u 16=_:=(d 16 rfl).2;have S:=λY (E:Below X X Y) v=>o.idle E 17 rfl v;have N:=o.below;have hw:IntKind.i64.wrap ((n:Int)-(j:Int))=((n-j:Nat):Int):=by rw[BZ _ AA];omega
     clear d o z;generalize u 15=kv at *;subst jb;generalize u 16=kw at *;subst jc;go_simp;exact H _ () _ (Zu.refl _) (S _ (AP _ _) _) (by first | rfl | rw[hw])
    refine Zw.con (λQ g b u X z L o d K H=>?_) ?_
    ·have h7:u 12=_:=(d 12 rfl).2;have ja:u 14=_:=(d 14 rfl).2;have jd:u 17=_:=(d 17 rfl).2;have dv:b 22=false:=z.no L AB;have S:=λY (E:Below X X Y) v=>o.call E 18 dv rfl v;have N:=o.below;have CC:=CF.out X N;clear d o z;rw[h7,ja,jd] at H⊢;go_simp;go_at_call 63;(with_reducible refine CC.mono ?_);rintro e Y⟨E,B,F,C,D,rfl,hv⟩;go_simp;exact H _ () _ (.of_below E) (S _ E _) ⟨B,F,C,D,rfl,hv⟩
    refine Zw.con (λQ g b u X z L o d K H=>?_) ?_
    ·have du:b 21=false:=z.no L AB;have S:=o.made (p:=(⟨19,21,8,110,#[.slice none 0 0,.bool false]⟩:Qr)) AE du (λp d=>by simp only[BY,DZ,or_false] at d;rcases d with rfl | rfl <;> exact⟨AE,AC,AC⟩);clear d o z;go_simp;exact H _ () _ (.of_below (Zy _ _)) S trivial
    refine Zw.con (λQ g b u X z L o d K H=>?_) ?_
    ·have dv:b 22=false:=z.no L AB;have S:=o.made (p:=(⟨20,22,18,110,#[.slice none 0 0,.bool false]⟩:Qr)) AE dv (λp d=>by simp only[BY,DZ,or_false] at d;rcases d with rfl | rfl <;> exact⟨AE,AC,AC⟩);clear d o z;go_simp;exact H _ () _ (.of_below (Zy _ _)) S trivial
    refine Zw.con (λQ g b u X z L o d K H=>?_) ?_
    ·obtain⟨B,F,C,D,p8,hv⟩:=(d 8 rfl).2;obtain⟨gB,hi,U,S,dk⟩:=o.put2 (p:=(⟨19,21,8,110,#[.slice none 0 0,.bool false]⟩:Qr)) AE (d 19 rfl).1 L (λp d=>by simp only[BY,DZ,or_false] at d;rcases d with rfl | rfl <;> exact⟨AE,AC,AC,AE⟩) rfl nofun nofun p8
     clear d o z;generalize u 19=kz at *;subst hi;generalize u 8=x8 at *;subst p8;have y0:=U.cell 0;have jq:=U.frozen 0;have y1:=U.cell 1;have jr:=U.frozen 1;have yl:=U.lt;clear U;go_simp;exact H undef () _ dk (S undef) trivial
    refine Zw.con (λQ g b u X z L o d K H=>?_) ?_
    ·obtain⟨B,F,C,D,bz,hv⟩:=(d 18 rfl).2;obtain⟨gB,hk,U,S,dk⟩:=o.put2 (p:=(⟨20,22,18,110,#[.slice none 0 0,.bool false]⟩:Qr)) AE (d 20 rfl).1 L (λp d=>by simp only[BY,DZ,or_false] at d;rcases d with rfl | rfl <;> exact⟨AE,AC,AC,AE⟩) rfl nofun nofun bz
     clear d o z;generalize u 20=k1 at *;subst hk;generalize u 18=ky at *;subst bz;have y0:=U.cell 0;have jq:=U.frozen 0;have y1:=U.cell 1;have jr:=U.frozen 1;have yl:=U.lt;clear U;go_simp;exact H undef () _ dk (S undef) trivial
    exact Zw.nil
   intro _ b9 u X9 bq cb d;obtain⟨g1,jl,gj,_,fw,p8⟩:=cb.fin (p:=⟨19,21,8,110,#[.slice none 0 0,.bool false]⟩) AE (bq 19 AC) (bq 21 AC);obtain⟨g2,jm,gm,_,fx,bz⟩:=cb.fin (p:=⟨20,22,18,110,#[.slice none 0 0,.bool false]⟩) AE (bq 20 AC) (bq 22 AC);obtain⟨B,F,C,D,q8,ge⟩:=d 8 AC;obtain⟨A3,dw,a5,d3,dx,gf⟩:=d 18 AC;obtain rfl:jl=#[.slice B F C,.bool D]:=by
    rw[p8] at q8;injection q8
   obtain rfl:jm=#[.slice A3 dw a5,.bool d3]:=by
    rw[bz] at dx;injection dx
   have gk:u 19=_:=gj;have gn:u 20=_:=gm;have cd:=cb.below;have d8:=LH (Zz fj.out cd);have fa:=LH (bi.out.below cd);have b5:=LH fw;have bj:=LH fx;have fg:=LH ge;have c7:=LH gf;have fc:=LH (HN.out.below cd);clear d bq cb p8 q8 bz dx cd fw fx ge gf b9;rw[gk,gn];clear gj gm gk gn g4 gl s0 sl CT CF;generalize u 0=w0 at *;generalize u 1=w1 at *;generalize u 2=w2 at *;generalize u 3=w3 at *;generalize u 4=w4 at *;generalize u 5=w5 at *;generalize u 6=w6 at *;generalize u 7=w7 at *;generalize u 8=w8 at *;generalize u 9=w9 at *;generalize u 10=ka at *;generalize u 11=kb at *;generalize u 12=kc at *;generalize u 13=kd at *;generalize u 14=ke at *;generalize u 15=kf at *;generalize u 16=kg at *;generalize u 17=kh at *;generalize u 18=ki at *;clear u;have z0:X9.cell? ⟨g1,0,none⟩=some (.slice B F C):=b5.out.cell 0;have z1:X9.cell? ⟨g1,1,none⟩=some (.bool D):=b5.out.cell 1;have zl:=b5.out.lt;have x0:X9.cell? ⟨g2,0,none⟩=some (.slice A3 dw a5):=bj.out.cell 0;have x1:X9.cell? ⟨g2,1,none⟩=some (.bool d3):=bj.out.cell 1;have xl:=bj.out.lt;have CM:=LH (Gt B F C D x A3 dw a5 d3 y X9 fg.out c7.out);go_upto_region 6 with (first
    | (go_at_call 124
       (with_reducible refine CM.out.mono ?_);rintro e v5⟨fz,A4,n4,c4,d4,rfl,gg⟩))
   have dm:=Zy v5 (.cells #[.slice A4 n4 c4,.bool d4] 110);have fy:=Blk.new v5 110 #[.slice A4 n4 c4,.bool d4];have bd:=Zz fz dm;have d7:=LH (Zz d8.out bd);have gv:=LH (fa.out.below bd);have g5:=LH (bj.out.ext bd);have c8:=LH fy;have fh:=LH (gg.below dm);have g0:=LH (c7.out.below bd);have c0:=LH (fc.out.below bd);clear z0 z1 zl x0 x1 xl CM fz dm bd fy gg d8 fa b5 bj fg c7 fc bi HN;generalize v5.alloc (.cells #[.slice A4 n4 c4,.bool d4] 110)=W6 at *;generalize v5.heap.size=g3 at *;have z0:W6.cell? ⟨g3,0,none⟩=some (.slice A4 n4 c4):=c8.out.cell 0;have z1:W6.cell? ⟨g3,1,none⟩=some (.bool d4):=c8.out.cell 1;have zl:=c8.out.lt;have ds:I<big:=by
    have h1:=b6.out;have P:=dd.out;have R:=db.out (k+1) (AJ _);have h4:=bl.out k;have h5:=c9.out;have h6:q*Zx (Zv G) l (n-k)+r2<Zv G s k*Zx (Zv G) l (n-k):=by
     have:=Lc (a:=0) (q:=q) (T:=Zv G s k) (by have:=fl.out;omega) fm.out;rwa [BF] at this
    omega
   have de:=LH ds;have f5:j=k->I=q*y+r2/\r2<y/\q<x:=by
    intro e;subst e;have h1:=b6.out;have P:=dd.out;have R:=fm.out;have h4:=fl.out;rw[Hy.out] at P R;rw[Hx.out] at h4;exact⟨AA,R,h4⟩
   have f1:j<k->x*y<=I:=by
    intro bs;have h1:=g8.out (j+1) AA;have P:=b6.out;have R:=dd.out;have h4:=bl.out j;rw[Hx.out,Hy.out] at h4;omega
   have fk:=LH f5;have g9:=LH f1;have CH:=LH (rf_here Av cv I A4 n4 c4 d4 (x*y) W6 c0.out ds fh.out);clear ds f5 f1;by_cases bs:I<x*y
   case neg =>
    rw[BV bs] at CH;have jz:j<k:=by
     rcases BD j k with h | h
     ·exact h
     obtain⟨h1,P,R⟩:=fk.out AA;have:=Lc (a:=0) (q:=q) (T:=x) AA P;rw[BF] at this;omega
    have hd:Hid (r=Yv (Zv G) s l n (j+1)+(I-x*y)):=LH (by
     have h1:=bl.out j;rw[Hx.out,Hy.out] at h1;have P:=b6.out;omega)
    have bg:x*y<big:=by have:=de.out;omega
    obtain⟨dn,aa⟩:=fh.out;rw[Z7 bg] at dn aa;have bu:=aa.len;simp only[] at dn aa bu;subst bu;have CL:Hid (∀X,Below W6 W6 X->Calls prog 79 #[.slice Av (Zq3 I).length cv,.slice A4 (Zq3 (x*y)).length c4] X λe w'=>∃A c,e = .returned (.slice A (Zq3 (I-x*y)).length c)/\Zq .u32 w' A (Zq3 (I-x*y)).length c (Zq3 (I-x*y))/\Below X X w'):=LH λX E=>rf_less Av cv I A4 c4 (x*y) X (c0.out.below E) (aa.below E) de.out AA;clear bs aa bg dn;generalize x*y=xy at *;go_wp2_with (first
     | (go_at_call 77
        (with_reducible refine CH.out.mono ?_);rintro e v1⟨rfl,Z⟩;have k8:=(Z.cell (p:=⟨g3,0,none⟩) zl).trans z0;have k9:=AK zl Z.size;have gs:=LH (CL.out v1 Z);have cy:=LH (Zz d7.out Z);clear Z)
     | (go_at_call 79
        (with_reducible refine gs.out.mono ?_);rintro e v2⟨A5,c5,rfl,f2,bc⟩;have gw:=LH f2;have bh:=LH (Zz cy.out bc);clear f2 bc))
    go_roundw
    case rel=>exact⟨j+1,I-xy,A5,c5,AF,AA,rfl,hd,gw,bh⟩
    simp[intOf] <;> omega
   rw[DV bs] at CH;obtain rfl:j=k:=by
    rcases BD j k with h | h
    ·have:=g9.out h;omega
    omega
   obtain⟨gc,ga,j6⟩:=fk.out rfl;have bg:y<big:=by
    have h1:=db.out (j+1) (AJ _);have P:=bl.out j;rw[Hx.out,Hy.out] at P;have R:=c9.out;have h4:y<=x*y:=Nat.le_mul_of_pos_left y AA;omega
   obtain⟨dp,aa⟩:=g0.out;rw[Z7 bg] at dp aa;have bu:=aa.len;simp only[] at dp aa bu;subst bu;subst dp;have fp:=LH bg;have dq:I / y=q/\I % y=r2:=by
    subst gc;refine⟨?_,?_⟩
    ·rw[Em,Nat.add_mul_div_right _ _ AA,Nat.div_eq_of_lt ga,BF]
    rw[Em,Nat.add_mul_mod_self_right,Ec ga]
   have CQ:Hid (∀X,Below W6 W6 X->Calls prog 138 #[.slice Av (Zq3 I).length cv,.slice A3 (Zq3 y).length a5] X λe w'=>∃Aq cq Aw cw,e = .returned (.tuple #[.slice Aq (Zq3 q).length cq,.slice Aw (Zq3 r2).length cw,.int .i64 0])/\Zq .u32 w' Aq (Zq3 q).length cq (Zq3 q)/\Zq .u32 w' Aw (Zq3 r2).length cw (Zq3 r2)/\Below X X w'):=LH λX E=>by
    have h1:=ref_quo Av _ cv (Zq3 I) A3 _ a5 (Zq3 y) X (c0.out.below E) (aa.below E) (Z9 _) (Z9 _);rw[Zv2 de.out fp.out AA,dq.1,dq.2] at h1;unfold RetQuo at h1;exact h1
   clear bs gc dq bg aa;go_upto_region 9 with (first
    | (go_at_call 77
       (with_reducible refine CH.out.mono ?_);rintro e v1⟨rfl,Z⟩;have gu:=LH (gv.out.below Z);have dl:=g5.out.ext Z;have x0:v1.cell? ⟨g2,0,none⟩=some (.slice A3 (Zq3 y).length a5):=dl.cell 0;have xl:=dl.lt;have cy:=LH (Zz d7.out Z);have gt:=LH (CQ.out v1 Z);clear Z dl)
    | (go_at_call 138
       (with_reducible refine gt.out.mono ?_);rintro e v2⟨Aq,cq,Aw,cw,rfl,f3,f4,bc⟩;have b4:=LH (gu.out.below bc);have gx:=LH f3;have fd:=LH f4;have bh:=LH (Zz cy.out bc);clear f3 f4 bc))
   clear x0 xl z0 z1 zl CH CQ;have s0:=(b4.out.base.cell (p:=⟨ab,ao,none⟩) cc).trans dt;have sl:=AK cc b4.out.base.size;have hw:IntKind.i64.wrap ((n:Int)-(j:Int))=((n-j:Nat):Int):=by rw[BZ _ AA];omega
   have hy:(1:Int)<=(l.length:Int)+1:=AA
   have f0:Zx (Zv G) l (n-j)<big:=by rw[Hy.out];exact fp.out
   have fi:=LH f0;clear f0;by_cases bf:s<0
   case neg =>
    obtain⟨rfl,rfl,hu⟩:=hc.out AA;clear hu;have CF:=LH (IH.out cs (n-j) r2 t2 A2 (W-1) Aw cw v2 (by have:=df.out;rwa [DA] at this) ff.out da.out.tail fi.out AA AA (λs hs=>Hh.out s (.tail _ hs)) cx.out fd.out ⟨_,_,b4.out⟩);go_wp2_with (first
     | (go_at_call 78
        (with_reducible refine CF.out.mono ?_);rintro e W7⟨rfl,ak,bv⟩;have dc:=LH bv;clear bv))
    refine AW (results_none rfl _ _ _) rfl ?_;exact⟨rfl,(Zu.of_below bh.out).trans ak,by rw[DA];exact dc.out⟩
   have j9:IntKind.i64.wrap (-1-s)=((Zp s:Nat):Int):=by
    rw[BZ _ (by have:=fo.out;omega)];unfold Zp;omega
   have CT:=gy.out J cs s j q t1 Aq cq v2 (by have:=df.out;rw[AU] at this;omega) bf (da.out s (By ..) bf) (ha.out bf) (by
    have h1:=db.out (j+1) (AJ _);have P:=bl.out j;have R:=c9.out;have h4:Zv G s j<=Zv G s j*Zx (Zv G) l (n-j):=Nat.le_mul_of_pos_right _ gz.out;omega) AA gx.out ⟨_,_,b4.out⟩
   by_cases jx:cs.length+t1.length<=300
   case pos =>
    have cu:Hid (Calls prog 37 #[.pointer (some ⟨J,0,none⟩),.int .i64 (Zp s:Int),.int .i64 (j:Int),.slice Aq (Zq3 q).length cq] v2 λe w'=>e = .returned (.tuple #[])/\Zu v2 w'/\WkAt W0 ⟨a1,n1,c1,a2,n2,c2,a3,n3,c3⟩ G At V O J (cs++t1) false w'):=LH (CT.mono λe w' hr=>by
     obtain⟨h1,P,⟨_,R⟩ | ⟨R,_⟩⟩:=hr
     ·exact⟨h1,P,R⟩
     omega)
    clear CT;go_wp2_with (first
     | (go_at_call 37
        (with_reducible refine cu.out.mono ?_);rintro e W7⟨rfl,ak,bt⟩;have cz:=LH ((Zu.of_below bh.out).trans ak);have CF:=LH (IH.out (cs++t1) (n-j) r2 t2 A2 (W-1) Aw cw W7 (by have:=df.out;rw[AU] at this;omega) ff.out da.out.tail fi.out AA AA (λs hs=>Hh.out s (.tail _ hs)) cx.out (fd.out.nkept ak) bt);clear ak bt)
     | (go_at_call 78
        (with_reducible refine CF.out.mono ?_);rintro e W8⟨rfl,hx,bv⟩;have dc:=LH bv;clear bv))
    refine AW (results_none rfl _ _ _) rfl ?_;refine⟨rfl,cz.out.trans hx,?_⟩;have h9:=dc.out;rw[AU,DW] at h9;rw[AU,<-DY];exact h9
   have cu:Hid (Calls prog 37 #[.pointer (some ⟨J,0,none⟩),.int .i64 (Zp s:Int),.int .i64 (j:Int),.slice Aq (Zq3 q).length cq] v2 λe w'=>e = .returned (.tuple #[])/\Zu v2 w'/\∃dg,WkAt W0 ⟨a1,n1,c1,a2,n2,c2,a3,n3,c3⟩ G At V O J dg true w'):=LH (CT.mono λe w' hr=>by
    obtain⟨h1,P,⟨R,_⟩ | ⟨_,R⟩⟩:=hr
    ·omega
    exact⟨h1,P,R⟩)
   clear CT;go_wp2_with (first
    | (go_at_call 37
       (with_reducible refine cu.out.mono ?_);rintro e W7⟨rfl,ak,dg,bt⟩;have cz:=LH ((Zu.of_below bh.out).trans ak);have d9:=LH bt;clear ak bt)
    | (go_at_call 78
       (with_reducible refine (rf_wfull A2 l.length (W-1) ((n-j:Nat):Int) Aw _ cw W7 d9.out).mono ?_);rintro e W8⟨rfl,rfl⟩))
   refine AW (results_none rfl _ _ _) rfl ?_;exact⟨rfl,cz.out,.inr ⟨by rw[AU];omega,dg,d9.out⟩⟩
theorem Zxj{h:GH}{G:Gr}{nt ct:Nat}(hT:TbG W0 h G At nt ct tab)(hP:Xq G)(m:Nat)(HT:RTC W0 h G At nt ct m):RFC W0 h G At nt ct m:=by
 intro l
 induction l with
 | nil =>
   intro n r u z Al cl Az cz w dz hU cx g4 fy hn hh hl hz az;cases hU;exact rf_fnil Al cl Az _ cz w
 | cons s l ih =>
   intro n r u z Al cl Az cz w dz hU cx g4 fy hn hh hl hz az;obtain⟨k,q,r2,M,W,l4,hx,ht,ks,g1,rfl,hk,hf⟩:=hU.parts hP cx;obtain⟨zz,ds⟩:∃zz:List Int,W.map (λi:Nat=>(i:Int))++z=zz:=⟨_,rfl⟩;have fp:W.length+z.length=zz.length:=by rw[<-ds];simp
   obtain⟨N,hN⟩:∃N,(M++W).length+z.length=N:=⟨_,rfl⟩;have cc:M.length+zz.length=N:=by rw[<-hN,AU];omega
   rw[DI,DW,ds] at hz;rw[hN] at hz ⊢;have gy:N-M.length=zz.length:=AA
   have mc:M.length+W.length<=N:=AA
   obtain⟨Aq,hy,dw⟩:=D6 hz (i:=M.length) AA;rw[gy] at hy dw;have hd:(M.map (λi:Nat=>(i:Int))++zz).drop M.length=zz:=by
    rw[List.drop_append_of_le_length AE,List.drop_eq_nil_of_le AE,DA]
   rw[hd] at dw;have g0:0<Zx (Zv G) l (n-k):=AA
   have kl:q*Zx (Zv G) l (n-k)+r2<Zv G s k*Zx (Zv G) l (n-k):=by
    have:=Lc (a:=0) (q:=q) (T:=Zv G s k) AA ht;rwa [BF] at this
   have kq:Yv (Zv G) s l n (k+1)<=Zx (Zv G) (s::l) n:=by
    rw[<-Jn];exact Wz _ _ _ _ AA
   have kt:=Xy (Zv G) s l n k;have hu:r<big:=AA
   have f5:Zx (Zv G) l (n-k)<big:=by
    have h4:Zx (Zv G) l (n-k)<=Zv G s k*Zx (Zv G) l (n-k):=Nat.le_mul_of_pos_left _ AA;omega
   have gz:Zv G s k<big:=by
    have h4:Zv G s k<=Zv G s k*Zx (Zv G) l (n-k):=Nat.le_mul_of_pos_right _ g0;omega
   have hm:q<big:=AA
   obtain⟨a1,n1,c1,a2,n2,c2,a3,n3,c3⟩:=h;have ma:=hT.tabm.1;have mb:=hT.tabm.2.1;have l8:=hT.nt;have l0:=hP.fits.n1;have l7:=hP.fits.n2.2;have h0:=H7 (hh s (By ..));have lz:=hl.cap;have me:=hz.cap;obtain⟨ab,ao,s',rfl,dv,gu,f1⟩:=hl.get (j:=0) AE;obtain rfl:s=s':=by have:=gu.out;simpa using this
   rw[DN] at f1;have cq:=hl.tail1;rw[show (s::l).length-1=l.length from rfl] at cq;obtain⟨A2,kh⟩:∃A2:Option Addr,(if cl=1 then some (⟨ab,ao,none⟩:Addr) else some ⟨ab,ao+1,none⟩)=A2:=⟨_,rfl⟩;rw[kh] at cq;have j5:Hid (∀j,j<=k->Yv (Zv G) s l n j<=Yv (Zv G) s l n k):=LH λj hj=>Wz _ _ _ _ hj;have ka:Hid (∀j,Yv (Zv G) s l n (j+1)=Yv (Zv G) s l n j+Zv G s j*Zx (Zv G) l (n-j)):=LH λj=>Xy _ _ _ _ _;have HB:=LH hT;have fo:=LH hx;have j6:=LH hk;have Hh:=LH hh;have jl:=LH cq;have j8:=LH h0;have fk:=LH az;have lw:=LH f5;have j7:=LH hm;have fn:=LH hu;have l6:l.length<=5:=by simpa using fy
   have l5:((l.length:Int)+1==0)=false:=by rw[AR];omega
   have md:M.length+W.length<=m:=by rw[AU] at dz;exact dz
   have gc:Hid (s<0->∀X,Below W0 W0 X->Calls prog 29 #[.agg #[.slice a1 n1 c1,.slice a2 n2 c2,.slice a3 n3 c3,.int .i64 G.zt],.slice At nt ct,.slice Az N cz] X (Zv7 M.length k q X)):=LH λL X B=>by
    have h1:=HT s k q M zz Az cz X AA L (cx s (By ..) L) (hf L) gz AA (by rw[cc];exact hz) B;rw[cc] at h1;exact h1
   have ga:Hid (∀X,Below W0 W0 X->Calls prog 64 #[.agg #[.slice a1 n1 c1,.slice a2 n2 c2,.slice a3 n3 c3,.int .i64 G.zt],.slice At nt ct,.slice A2 l.length (cl-1),.slice Aq zz.length (cz-M.length)] X (Zv7 W.length (n-k) r2 X)):=LH λX B=>by
    have h1:=ih (n-k) r2 W z A2 (cl-1) Aq (cz-M.length) X AA g1 cx.tail f5 AA AA (λs L=>hh s (.tail _ L)) cq (by rw[ds,fp];exact dw) B;rw[fp] at h1;exact h1
   have gw:=Zy w (.cells #[.slice a1 n1 c1,.slice a2 n2 c2,.slice a3 n3 c3,.int .i64 G.zt] 26);have fu:=Zy (w.alloc (.cells #[.slice a1 n1 c1,.slice a2 n2 c2,.slice a3 n3 c3,.int .i64 G.zt] 26)) (.cells #[.int .i64 0,.int .i64 0,.slice none 0 0] 67);have hO:=Blk.new (w.alloc (.cells #[.slice a1 n1 c1,.slice a2 n2 c2,.slice a3 n3 c3,.int .i64 G.zt] 26)) 67 #[.int .i64 0,.int .i64 0,.slice none 0 0];have p5:=Zl w (.cells #[.slice a1 n1 c1,.slice a2 n2 c2,.slice a3 n3 c3,.int .i64 G.zt] 26);rw[p5] at hO;have gh:=LH ((Blk.new w 26 #[.slice a1 n1 c1,.slice a2 n2 c2,.slice a3 n3 c3,.int .i64 G.zt]).ext fu);have fi:=LH hO;have gx:=Zz gw fu;have jm:=LH gx;have f4:=az.size;clear hT hP HT ih dz hU cx g4 fy hh hl hz az hx ht ks g1 hk hf ds fp hN cc gy dw hd g0 kl kq kt hu f5 gz hm cq h0 gu gw fu hO p5 gx;go_enter func64,ntmps64;go_upto_region 3 with fail;generalize (w.alloc (.cells #[.slice a1 n1 c1,.slice a2 n2 c2,.slice a3 n3 c3,.int .i64 G.zt] 26)).alloc (.cells #[.int .i64 0,.int .i64 0,.slice none 0 0] 67)=W1 at *;have bx:=Zy W1 (.cells #[.int .i64 0,.int .i64 1,.slice none 0 0] 67);have ay:=Blk.new W1 67 #[.int .i64 0,.int .i64 1,.slice none 0 0];have l9:=fi.out.lt;have ff:=LH (Zz jm.out bx);have b0:=LH (gh.out.ext bx);have gk:=LH (fi.out.ext bx);have bf:=LH ay;clear bx ay gh fi;go_upto_region 4 with fail;generalize W1.alloc (.cells #[.int .i64 0,.int .i64 1,.slice none 0 0] 67)=W2 at *;generalize g7:W1.heap.size=P at *;have j4:=LH g7;clear g7;have dl:Hid (Below W0 W0 W2):=fk.out.trans (ff.out.mono f4);have s0:=(dl.out.cell (p:=⟨ab,ao,none⟩) dv).trans f1;have sl:=AK dv dl.out.size;have y0:W2.cell? ⟨w,0,none⟩=some (.slice a1 n1 c1):=b0.out.cell 0;have y1:W2.cell? ⟨w,1,none⟩=some (.slice a2 n2 c2):=b0.out.cell 1;have y2:W2.cell? ⟨w,2,none⟩=some (.slice a3 n3 c3):=b0.out.cell 2;have y3:W2.cell? ⟨w,3,none⟩=some (.int .i64 G.zt):=b0.out.cell 3;have y5:=b0.out.lt;have x0:W2.cell? ⟨P,0,none⟩=some (.int .i64 0):=bf.out.cell 0;have x1:W2.cell? ⟨P,1,none⟩=some (.int .i64 1):=bf.out.cell 1;have x2:W2.cell? ⟨P,2,none⟩=some (.slice none 0 0):=bf.out.cell 2;have jg:=bf.out.frozen 0;have jh:=bf.out.frozen 1;have ji:=bf.out.frozen 2;have xl:=bf.out.lt;go_upto_if 23 with fail
   go_cut [] (λwx=>∃(Y:Option Addr) (Z:Nat),Hid (Blk wx P 67 #[.int .i64 (M.length:Int),.int .i64 (k:Int),.slice Y (Zq3 q).length Z])/\Hid (Zq .u32 wx Y (Zq3 q).length Z (Zq3 q))/\Hid (Below P W2 wx))
   case first =>
    by_cases L:s<0
    case pos =>
     have CT:=LH (gc.out L W2 dl.out);go_wp2_with fail;(with_reducible refine CT.out.mono ?_);rintro e W3⟨fv,Y,Z,rfl,ha⟩;have bp:=bf.out.ext fv;have z0:W3.cell? ⟨P,0,none⟩=some (.int .i64 0):=bp.cell 0;have z1:W3.cell? ⟨P,1,none⟩=some (.int .i64 1):=bp.cell 1;have z2:W3.cell? ⟨P,2,none⟩=some (.slice none 0 0):=bp.cell 2;have m8:=bp.frozen 0;have m9:=bp.frozen 1;have na:=bp.frozen 2;have zl:=bp.lt;have gr:=LH bp;have jt:=LH ha;have jn:=LH fv;clear bp ha fv CT y0 y1 y2 y3 y5 x0 x1 x2 jg jh ji;go_wp2_with fail;go_meet
     have ho:=((Off.of_set W3 P 0 (.int .i64 (M.length:Int))).trans (Off.of_set _ P 1 (.int .i64 (k:Int))) λ_ _ h=>h).trans (Off.of_set _ P 2 (.slice Y (Zq3 q).length Z)) λ_ _ h=>h;exact⟨Y,Z,LH (((gr.out.set 0 (.int .i64 (M.length:Int))).set 1 (.int .i64 (k:Int))).set 2 (.slice Y (Zq3 q).length Z)),LH (jt.out.nkept (Zu.of_off ho λp d o z hc=>by
      rw[d,gr.out.cell o] at hc;rcases o with _ | _ | _ | o <;> cases hc)),LH ((jn.out.mono (DS xl)).trans (ho.is_below (DS zl) λp d=>by rw[d];exact AJ _))⟩
    obtain⟨rfl,rfl,rfl⟩:=j6.out AA;go_wp2_with fail;go_meet
    exact⟨none,0,bf,LH (by rw[limbs0];exact Zq.nil _ _ _ _ AA),LH (AP _ _)⟩
   obtain⟨Y,Z,HX,HN,a5⟩:=hcut;clear y0 y1 y2 y3 y5 x0 x1 x2 jg jh ji s0 sl gc xl;have kn:w.heap.size+1<P:=by have:=j4.out;omega
   have b1:=LH (b0.out.below a5.out AA);have gl:=LH (gk.out.below a5.out kn);have fg:Hid (Below w w wc):=ff.out.trans (a5.out.mono AA);have fl:Hid (Below W0 W0 wc):=fk.out.trans (fg.out.mono f4);clear ff b0 gk bf dl a5;have y0:wc.cell? ⟨w,0,none⟩=some (.slice a1 n1 c1):=b1.out.cell 0;have y1:wc.cell? ⟨w,1,none⟩=some (.slice a2 n2 c2):=b1.out.cell 1;have y2:wc.cell? ⟨w,2,none⟩=some (.slice a3 n3 c3):=b1.out.cell 2;have y3:wc.cell? ⟨w,3,none⟩=some (.int .i64 G.zt):=b1.out.cell 3;have y5:=b1.out.lt;have x0:wc.cell? ⟨P,0,none⟩=some (.int .i64 (M.length:Int)):=HX.out.cell 0;have xl:=HX.out.lt;have CF:Hid (∀X,Below wc wc X->Calls prog 64 #[.agg #[.slice a1 n1 c1,.slice a2 n2 c2,.slice a3 n3 c3,.int .i64 G.zt],.slice At nt ct,.slice A2 l.length (cl-1),.slice Aq zz.length (cz-M.length)] X λe w'=>Below X X w'/\∃A c,e = .returned (.agg #[.int .i64 (W.length:Int),.int .i64 ((n-k:Nat):Int),.slice A (Zq3 r2).length c])/\Zq .u32 w' A (Zq3 r2).length c (Zq3 r2)):=LH λX B=>(ga.out X (Zz fl.out B)).mono λe w' h=>h;clear ga;go_upto_region 6 with fail;refine Yi (Γ:=Unit) (λ_ b u X=>VMs wc [(⟨9,10,8,67,#[.int .i64 0,.int .i64 0,.slice none 0 0]⟩:Qr)] b u X) (λX J=>Zu X J) () (λu=>(⟨(GV ⟨a1,n1,c1,a2,n2,c2,a3,n3,c3⟩ G.zt :: .slice At nt ct :: .slice (some ⟨ab,ao,none⟩) (l.length+1) cl :: .slice Az N cz :: .pointer (some ⟨w,0,none⟩)::undef::undef::undef :: .pointer (some ⟨w+1,0,none⟩) :: .pointer (some ⟨P,0,none⟩)::u 9::undef::undef::undef::undef::u15::u16::u17::u18::u19::u20::u21::u22::u23::u24::u25::u26::u27::u 0::u 1::u 2::u 3::u 4::u 5::u 6::u 7::u 8::u37::u38::u39::u40::u41::u42::u43::u44::u45::u46::u47::u48::u49::u50::u51::u52::u53::u54::u55::u56::u57::u58::u59::u60::u61::u62::u63::u64::u65::u66::u67::u68::u69::u70::u71::u72::u73::u74::u75::u76::u77::u78::u79::u80::u81::u82::u83::u84::u85::u86::u87::u88::u89::u90::u91::u92::[]).toArray,[]⟩:Act)) [u28,u29,u30,u31,u32,u33,u34,u35,u36,undef,undef] [λv X=>v = .agg #[.slice a1 n1 c1,.slice a2 n2 c2,.slice a3 n3 c3,.int .i64 G.zt],λv X=>v = .slice At nt ct,λv X=>v = .slice (some ⟨ab,ao,none⟩) (l.length+1) cl,λv X=>v = .slice A2 l.length (cl-1),λv X=>v = .slice Az N cz,λv X=>v = .pointer (some ⟨P,0,none⟩),λv X=>v = .int .i64 (M.length:Int),λv X=>v = .slice Aq zz.length (cz-M.length),λv X=>∃E F,v = .agg #[.int .i64 (W.length:Int),.int .i64 ((n-k:Nat):Int),.slice E (Zq3 r2).length F]/\Zq .u32 X E (Zq3 r2).length F (Zq3 r2),λv X=>True,λv X=>True] (l:=[_,_,_,_,_,_,_,_,_,_,_]) AB AB rfl (VMs.zt _ _ _) ⟨AI,AI,AI,AI,AI,AI,AI,AI,(λv X J ⟨E,F,e,h⟩ B=>⟨E,F,e,h.nkept B⟩),AI,AI,trivial⟩ ?_ ?_
   ·refine Zw.vf (λQ g b u X K C H t f D=>?_) ?_
    ·have I:=t.below;have v0:=(I.cell (p:=⟨w,0,none⟩) y5).trans y0;have v1:=(I.cell (p:=⟨w,1,none⟩) y5).trans y1;have v2:=(I.cell (p:=⟨w,2,none⟩) y5).trans y2;have v3:=(I.cell (p:=⟨w,3,none⟩) y5).trans y3;have vl:=AK y5 I.size;clear f t C;go_simp;exact D
    refine Zw.v0 ?_;refine Zw.v0 ?_;refine Zw.vf (λQ g b u X K C H t f D=>?_) ?_
    ·have p2:u 2=_:=f 2 rfl;have g8:(1:Int)<=(l.length:Int)+1:=AA
     clear f t C;generalize u 2=x2 at *;subst p2;go_simp;exact D
    refine Zw.v0 ?_;refine Zw.v0 ?_;refine Zw.vf (λQ g b u X K C H t f D=>?_) ?_
    ·have p5:u 5=_:=f 5 rfl;have I:=t.below;have v0:=(I.cell (p:=⟨P,0,none⟩) xl).trans x0;have vl:=AK xl I.size;clear f t C;generalize u 5=x5 at *;subst p5;go_simp;exact D
    refine Zw.vf (λQ g b u X K C H t f D=>?_) ?_
    ·have p4:u 4=_:=f 4 rfl;have p6:u 6=_:=f 6 rfl;clear f t C;generalize u 4=x4 at *;subst p4;generalize u 6=x6 at *;subst p6;go_simp;exact D
    refine Zw.con (λQ g b u X C H t d K D=>?_) ?_
    ·have p0:u 0=_:=(d 0 rfl).2;have p1:u 1=_:=(d 1 rfl).2;have p3:u 3=_:=(d 3 rfl).2;have p7:u 7=_:=(d 7 rfl).2;have f2:b 10=false:=C.no H AB;have U:=λJ (B:Below X X J) v=>t.call B 8 f2 rfl v;have I:=t.below;have CC:=CF.out X I;clear d t C;rw[p0,p1] at D⊢;rw[p3,p7] at D⊢;go_simp;go_at_call 64;(with_reducible refine CC.mono ?_);rintro e J⟨B,E,F,rfl,hv⟩;go_simp;exact D _ () _ (.of_below B) (U _ B _) ⟨E,F,rfl,hv⟩
    refine Zw.con (λQ g b u X C H t d K D=>?_) ?_
    ·have f2:b 10=false:=C.no H AB;have U:=t.made (p:=(⟨9,10,8,67,#[.int .i64 0,.int .i64 0,.slice none 0 0]⟩:Qr)) AE f2 (λp d=>by simp only[BY,DZ,or_false] at d;rcases d with rfl <;> exact⟨AE,AC,AC⟩);clear d t C;go_simp;exact D _ () _ (.of_below (Zy _ _)) U trivial
    refine Zw.con (λQ g b u X C H t d K D=>?_) ?_
    ·obtain⟨E,F,p8,hv⟩:=(d 8 rfl).2;obtain⟨gB,e9,aj,U,cr⟩:=t.put3 (p:=(⟨9,10,8,67,#[.int .i64 0,.int .i64 0,.slice none 0 0]⟩:Qr)) AE (d 9 rfl).1 H (λp d=>by simp only[BY,DZ,or_false] at d;rcases d with rfl <;> exact⟨AE,AC,AC,AE⟩) rfl nofun nofun nofun p8
     clear d t C;generalize u 9=x9 at *;subst e9;generalize u 8=x8 at *;subst p8;have y0:=aj.cell 0;have lo:=aj.frozen 0;have y1:=aj.cell 1;have lp:=aj.frozen 1;have y2:=aj.cell 2;have m7:=aj.frozen 2;have yl:=aj.lt;clear aj;go_simp;exact D undef () _ cr (U undef) trivial
    exact Zw.nil
   intro _ b9 u X9 bh ay d;obtain⟨ai,vs,p9,g5,g2,p8⟩:=ay.fin (p:=⟨9,10,8,67,#[.int .i64 0,.int .i64 0,.slice none 0 0]⟩) AE (bh 9 AC) (bh 10 AC);obtain⟨E,F,q8,hv⟩:=d 8 AC;obtain rfl:vs=#[.int .i64 (W.length:Int),.int .i64 ((n-k:Nat):Int),.slice E (Zq3 r2).length F]:=by
    rw[p8] at q8;injection q8
   have h8:u 9=_:=p9;have am:=ay.below;have jo:=LH (Zz fg.out am);have lv:=LH (Zz fl.out am);have jr:=LH (b1.out.ext am);have jy:=LH (gl.out.ext am);have dk:=LH (HX.out.ext am);have ju:=LH (HN.out.below am);have co:=LH g2;have j0:=LH hv;have l2:P<ai:=AK HX.out.lt g5;clear d bh ay p8 q8 am g2 hv b9 g5;rw[h8];clear p9 h8 y0 y1 y2 y3 y5 x0 xl CF b1 gl fg fl HX HN hy;generalize u 0=k0 at *;generalize u 1=k1 at *;generalize u 2=k2 at *;generalize u 3=k3 at *;generalize u 4=k4 at *;generalize u 5=k5 at *;generalize u 6=k6 at *;generalize u 7=k7 at *;generalize u 8=k8 at *;clear u;generalize X9=W6 at *;have x0:W6.cell? ⟨P,0,none⟩=some (.int .i64 (M.length:Int)):=dk.out.cell 0;have x1:W6.cell? ⟨P,1,none⟩=some (.int .i64 (k:Int)):=dk.out.cell 1;have xl:=dk.out.lt;have z0:W6.cell? ⟨ai,0,none⟩=some (.int .i64 (W.length:Int)):=co.out.cell 0;have z1:W6.cell? ⟨ai,1,none⟩=some (.int .i64 ((n-k:Nat):Int)):=co.out.cell 1;have z2:W6.cell? ⟨ai,2,none⟩=some (.slice E (Zq3 r2).length F):=co.out.cell 2;have zl:=co.out.lt;have kp:(k:Int)+((n-k:Nat):Int)=(n:Int):=AA
   have bx:=Zy W6 (.cells #[.int .i64 ((M.length:Int)+(W.length:Int)),.int .i64 (n:Int),.slice E (Zq3 r2).length F] 67);have bo:=Blk.new W6 67 #[.int .i64 ((M.length:Int)+(W.length:Int)),.int .i64 (n:Int),.slice E (Zq3 r2).length F];go_upto_region 9 with fail;clear x0 x1 z0 z1 z2 kp;have b8:=LH bo;have gs:=LH bx;have gj:=LH (j0.out.below bx);have kx:=xl;have kw:=zl;clear bx bo xl zl;generalize W6.alloc (.cells #[.int .i64 ((M.length:Int)+(W.length:Int)),.int .i64 (n:Int),.slice E (Zq3 r2).length F] 67)=W8 at *;generalize g6:W6.heap.size=V at *;have j3:=LH g6;clear g6;go_wp2_with fail;go_loopw [13] (λi wr=>∃(j O:Nat) (A5:Option Addr) (c5:Nat),i = .int .i64 (j:Int)/\j<=k/\Hid (O=r2+Yv (Zv G) s l n j)/\Hid (Zq .u32 wr A5 (Zq3 O).length c5 (Zq3 O))/\Hid (Blk wr V 67 #[.int .i64 ((M.length:Int)+(W.length:Int)),.int .i64 (n:Int),.slice A5 (Zq3 O).length c5])/\Hid (Below V W6 wr)) (λi _=>k-(intOf i).toNat)
   case atStart=>exact⟨0,r2,E,F,rfl,AV _,LH (by rw[Ug];rfl),gj,b8,gs⟩
   obtain⟨j,O,A5,c5,rfl,hj,gt,fh,ca,a5⟩:=hrel;have fj:=LH (dk.out.below a5.out kx);have gp:=LH (co.out.below a5.out kw);have lr:=LH (jr.out.below a5.out AA);have gm:=LH (jy.out.below a5.out AA);have jx:=LH (ju.out.nkept (Zu.of_below (by rw[j3.out];exact a5.out)));have gf:Hid (Below w w wr):=jo.out.trans (a5.out.mono AA);have dm:Hid (Below W0 W0 wr):=fk.out.trans (gf.out.mono f4);have x1:wr.cell? ⟨P,1,none⟩=some (.int .i64 (k:Int)):=fj.out.cell 1;have x2:wr.cell? ⟨P,2,none⟩=some (.slice Y (Zq3 q).length Z):=fj.out.cell 2;have xl:=fj.out.lt;have z1:wr.cell? ⟨ai,1,none⟩=some (.int .i64 ((n-k:Nat):Int)):=gp.out.cell 1;have zl:=gp.out.lt;have q2:wr.cell? ⟨V,2,none⟩=some (.slice A5 (Zq3 O).length c5):=ca.out.cell 2;have ul:=ca.out.lt;have s0:=(dm.out.cell (p:=⟨ab,ao,none⟩) dv).trans f1;have sl:=AK dv dm.out.size;clear b8 gj gs;have dh:Hid (∀i,i<=n->∀X,Below wr wr X->Calls prog 63 #[.slice At nt ct,.slice A2 l.length (cl-1),.int .i64 ((n-i:Nat):Int)] X λe w'=>Below X X w'/\∃Y bb Z d1,e = .returned (.agg #[.slice Y bb Z,.bool d1])/\Z1 w' Y bb Z d1 (Zx (Zv G) l (n-i))):=LH λi hi X B=>by
    have az:=Zz dm.out B;have h1:=Kd At nt ct G.O.length tab A2 (cl-1) l (n-i) X (HB.out.tabm.below az) AA AA AA (jl.out.below az) AA (λs L=>by have:=H7 (Hh.out s (.tail _ L));omega);rw[HB.out.forest (λs L=>Hh.out s (.tail _ L)) AA] at h1;exact h1.mono λe w' h=>h
   by_cases ko:j<k
   case pos =>
    obtain⟨x,Hx⟩:∃x,Hid (Zv G s j=x):=⟨_,LH rfl⟩;obtain⟨y,Hy⟩:∃y,Hid (Zx (Zv G) l (n-j)=y):=⟨_,LH rfl⟩;have CT:Hid (∀X,Below wr wr X->Calls prog 123 #[.slice At nt ct,.int .i64 s,.int .i64 (j:Int)] X λe w'=>Below X X w'/\∃Y bb Z d1,e = .returned (.agg #[.slice Y bb Z,.bool d1])/\Z1 w' Y bb Z d1 x):=LH λX B=>by
     have az:=Zz dm.out B;have h1:=Ztn At nt ct G.O.length tab s j X (HB.out.tabm.below az) AA AA AA (λ_=>by have:=j8.out;omega);rw[HB.out.tree (Hh.out s (By ..)) AA,Hx.out] at h1;exact h1.mono λe w' h=>h
    have CF:Hid (∀X,Below wr wr X->Calls prog 63 #[.slice At nt ct,.slice A2 l.length (cl-1),.int .i64 ((n-j:Nat):Int)] X λe w'=>Below X X w'/\∃Y bb Z d1,e = .returned (.agg #[.slice Y bb Z,.bool d1])/\Z1 w' Y bb Z d1 y):=LH λX B=>by
     have h1:=dh.out j AA X B;rw[Hy.out] at h1;exact h1
    have h5:O+x*y=r2+Yv (Zv G) s l n (j+1):=by
     have h1:=ka.out j;rw[Hx.out,Hy.out] at h1;have h2:=gt.out;omega
    have ce:O+x*y<big:=by
     have h1:=j5.out (j+1) AA;have h2:=fo.out;have h3:=fn.out;omega
    have j9:=LH h5;have dn:=LH ce;have kb:Hid (x*y<big):=LH AA;clear h5 ce dh x2 z1 zl;go_upto_region 12 with fail;refine Yi (Γ:=Unit) (λ_ b u X=>SMs wr V 2 19 17 b u X) (λX J=>Zu X J) () (λu=>(⟨(GV ⟨a1,n1,c1,a2,n2,c2,a3,n3,c3⟩ G.zt :: .slice At nt ct :: .slice (some ⟨ab,ao,none⟩) (l.length+1) cl :: .slice Az N cz :: .pointer (some ⟨w,0,none⟩)::undef::undef::undef :: .pointer (some ⟨w+1,0,none⟩) :: .pointer (some ⟨P,0,none⟩) :: .pointer (some ⟨ai,0,none⟩) :: .int .i64 (n:Int) :: .pointer (some ⟨V,0,none⟩) :: .int .i64 (j:Int)::undef::u15::u16::u17::u18::u19::u20::u21::u22::u23::u24::u25::u26::u27::k0::k1::k2::k3::k4::k5::k6::k7::k8 :: .pointer (some ⟨P,1,none⟩) :: .int .i64 (k:Int) :: .pointer (some ⟨ai,1,none⟩) :: .int .i64 ((n-k:Nat):Int) :: .int .i64 (n:Int) :: .pointer (some ⟨P,0,none⟩) :: .int .i64 (M.length:Int) :: .pointer (some ⟨ai,0,none⟩) :: .int .i64 (W.length:Int) :: .int .i64 ((M.length:Int)+(W.length:Int)) :: .int .i64 (n:Int) :: .pointer (some ⟨ai,2,none⟩) :: .slice E (Zq3 r2).length F :: .agg #[.int .i64 ((M.length:Int)+(W.length:Int)),.int .i64 (n:Int),.slice E (Zq3 r2).length F] :: .int .i64 (j:Int) :: .pointer (some ⟨P,1,none⟩) :: .int .i64 (k:Int) :: .bool true::u55::u56::u 0::u 1::u 2::u 3::u 4::u 5::u 6::u 7::u 8::u 9::u 10::u 11::u 12::u 13::u 14::u 15::u 16::u 17::u 18::u76::u77::u78::u79::u80::u81::u82::u83::u84::u85::u86::u87::u88::u89::u90::u91::u92::[]).toArray,[]⟩:Act)) [u57,u58,u59,u60,u61,u62,u63,u64,u65,u66,u67,u68,u69,u70,u71,u72,u73,u74,u75,undef] [λv X=>v = .pointer (some ⟨V,2,none⟩),λv X=>v = .slice A5 (Zq3 O).length c5,λv X=>v = .slice At nt ct,λv X=>v = .slice (some ⟨ab,ao,none⟩) (l.length+1) cl,λv X=>v = .pointer (some ⟨ab,ao,none⟩),λv X=>v = .int .i64 s,λv X=>v = .int .i64 (j:Int),λv X=>∃E R F S,v = .agg #[.slice E R F,.bool S]/\Z1 X E R F S (x),λv X=>v = .slice At nt ct,λv X=>v = .slice (some ⟨ab,ao,none⟩) (l.length+1) cl,λv X=>v = .slice A2 l.length (cl-1),λv X=>v = .int .i64 (n:Int),λv X=>v = .int .i64 (j:Int),λv X=>v = .int .i64 ((n-j:Nat):Int),λv X=>∃E R F S,v = .agg #[.slice E R F,.bool S]/\Z1 X E R F S (y),λv X=>∃E R F S,v = .agg #[.slice E R F,.bool S]/\Z1 X E R F S (x*y),λv X=>∃A6 c6,v = .slice A6 (Zq3 (x*y)).length c6/\Zq .u32 X A6 (Zq3 (x*y)).length c6 (Zq3 (x*y)),λv X=>∃A6 c6,v = .slice A6 (Zq3 (O+x*y)).length c6/\Zq .u32 X A6 (Zq3 (O+x*y)).length c6 (Zq3 (O+x*y)),λv X=>v = .pointer (some ⟨V,2,none⟩),λv X=>True] (l:=[_,_,_,_,_,_,_,_,_,_,_,_,_,_,_,_,_,_,_,_]) AB AB rfl (SMs.zt _ _ _ _ _ _) ⟨AI,AI,AI,AI,AI,AI,AI,(λv X J ⟨E,R,F,S,e,h⟩ B=>⟨E,R,F,S,e,h.nkept B⟩),AI,AI,AI,AI,AI,AI,(λv X J ⟨E,R,F,S,e,h⟩ B=>⟨E,R,F,S,e,h.nkept B⟩),(λv X J ⟨E,R,F,S,e,h⟩ B=>⟨E,R,F,S,e,h.nkept B⟩),(λv X J ⟨A6,c6,e,h⟩ B=>⟨A6,c6,e,h.nkept B⟩),(λv X J ⟨A6,c6,e,h⟩ B=>⟨A6,c6,e,h.nkept B⟩),AI,AI,trivial⟩ ?_ ?_
    ·refine Zw.v0 ?_;refine Zw.vf (λQ g b u X K C H t f D=>?_) ?_
     ·have L:b 19=false:=C.no H AB;have p0:u 0=_:=f 0 rfl;have I:=t.below L;have v0:=(I.cell (p:=⟨V,2,none⟩) ul).trans q2;have vl:=AK ul I.size;clear f t C;generalize u 0=x0 at *;subst p0;go_simp;exact D
     refine Zw.v0 ?_;refine Zw.v0 ?_;refine Zw.vf (λQ g b u X K C H t f D=>?_) ?_
     ·have p3:u 3=_:=f 3 rfl;clear f t C;generalize u 3=x3 at *;subst p3;go_simp;exact D
     refine Zw.vf (λQ g b u X K C H t f D=>?_) ?_
     ·have L:b 19=false:=C.no H AB;have p4:u 4=_:=f 4 rfl;have I:=t.below L;have v0:=(I.cell (p:=⟨ab,ao,none⟩) sl).trans s0;have vl:=AK sl I.size;clear f t C;generalize u 4=x4 at *;subst p4;go_simp;exact D
     refine Zw.v0 ?_;refine Zw.con (λQ gg b u X C H t d K D=>?_) ?_
     ·have L:b 19=false:=C.no H AB;have p2:u 2=_:=(d 2 rfl).2;have p5:u 5=_:=(d 5 rfl).2;have p6:u 6=_:=(d 6 rfl).2;have I:=t.below L;have U:=λJ (B:Below X X J) v=>t.idle L B 7 rfl v;have CC:=CT.out X I;clear d t C;rw[p2,p5,p6] at D⊢;go_simp;go_at_call 123;(with_reducible refine CC.mono ?_);rintro e J⟨B,A9,n9,c9,d9,rfl,bq⟩;go_simp;exact D _ () _ (.of_below B) (U _ B _) ⟨A9,n9,c9,d9,rfl,bq⟩
     refine Zw.v0 ?_;refine Zw.v0 ?_;refine Zw.vf (λQ g b u X K C H t f D=>?_) ?_
     ·have L:b 19=false:=C.no H AB;have p9:u 9=_:=f 9 rfl;have g8:(1:Int)<=(l.length:Int)+1:=AA
      clear f t C;generalize u 9=x9 at *;subst p9;go_simp;exact D
     refine Zw.v0 ?_;refine Zw.v0 ?_;refine Zw.con (λQ gg b u X C H t d K D=>?_) ?_
     ·have L:b 19=false:=C.no H AB;have la:u 11=_:=(d 11 rfl).2;have lb:u 12=_:=(d 12 rfl).2;have U:=λJ (B:Below X X J) v=>t.idle L B 13 rfl v;have hw:IntKind.i64.wrap ((n:Int)-(j:Int))=((n-j:Nat):Int):=by rw[BZ _ AA];omega
      clear d t C;generalize u 11=mz at *;subst la;generalize u 12=m0 at *;subst lb;go_simp;exact D _ () _ (Zu.refl _) (U _ (AP _ _) _) (by first | rfl | rw[hw])
     refine Zw.con (λQ gg b u X C H t d K D=>?_) ?_
     ·have L:b 19=false:=C.no H AB;have p8:u 8=_:=(d 8 rfl).2;have fd:u 10=_:=(d 10 rfl).2;have lc:u 13=_:=(d 13 rfl).2;have I:=t.below L;have U:=λJ (B:Below X X J) v=>t.idle L B 14 rfl v;have CC:=CF.out X I;clear d t C;rw[p8,fd,lc] at D⊢;go_simp;go_at_call 63;(with_reducible refine CC.mono ?_);rintro e J⟨B,A9,n9,c9,d9,rfl,bq⟩;go_simp;exact D _ () _ (.of_below B) (U _ B _) ⟨A9,n9,c9,d9,rfl,bq⟩
     refine Zw.con (λQ gg b u X C H t d K D=>?_) ?_
     ·have L:b 19=false:=C.no H AB;obtain⟨E,R,F,S,p7,hv⟩:=(d 7 rfl).2;obtain⟨A7,n7,c7,d7,ld,ku⟩:=(d 14 rfl).2;have U:=λJ (B:Below X X J) v=>t.idle L B 15 rfl v;have CC:=Gt E R F S x A7 n7 c7 d7 y X hv ku;clear d t C;generalize u 7=x7 at *;subst p7;generalize u 14=m2 at *;subst ld;go_simp;go_at_call 124;(with_reducible refine CC.mono ?_);rintro e J⟨B,A9,n9,c9,d9,rfl,bq⟩;go_simp;exact D _ () _ (.of_below B) (U _ B _) ⟨A9,n9,c9,d9,rfl,bq⟩
     refine Zw.con (λQ gg b u X C H t d K D=>?_) ?_
     ·have L:b 19=false:=C.no H AB;obtain⟨E,R,F,S,lf,hv⟩:=(d 15 rfl).2;have U:=λJ (B:Below X X J) v=>t.idle L B 16 rfl v;have cc:Zq .u32 X E R F (Zq3 (x*y)):=by
       have h1:=hv.2;rwa [Z7 kb.out] at h1
      obtain rfl:=cc.len;clear d t C;generalize u 15=m3 at *;subst lf;go_simp;exact D _ () _ (Zu.refl _) (U _ (AP _ _) _) ⟨_,_,rfl,cc⟩
     refine Zw.con (λQ gg b u X C H t d K D=>?_) ?_
     ·have L:b 19=false:=C.no H AB;have p1:u 1=_:=(d 1 rfl).2;obtain⟨A6,c6,lg,he⟩:=(d 16 rfl).2;have I:=t.below L;have U:=λJ (B:Below X X J) v=>t.idle L B 17 rfl v;have CC:=Zxi A5 c5 O A6 c6 (x*y) X (fh.out.below I) he dn.out;clear d t C;rw[p1] at D⊢;generalize u 16=m4 at *;subst lg;go_simp;go_at_call 65;(with_reducible refine CC.mono ?_);rintro e J⟨A9,c9,rfl,dx,B⟩;go_simp;exact D _ () _ (.of_below B) (U _ B _) ⟨A9,c9,rfl,dx⟩
     refine Zw.v0 ?_;refine Zw.con (λQ gg b u X C H t d K D=>?_) ?_
     ·have L:b 19=false:=H;have lh:u 18=_:=(d 18 rfl).2;obtain⟨A6,c6,c4,he⟩:=(d 17 rfl).2;have I:=t.below L;have U:=t.put L rfl undef;have cu:=ca.out.ext I;have v0:=cu.cell 2;have v1:=cu.frozen 2;have vl:=cu.lt;have cr:Zu X (X.setCell ⟨V,2,none⟩ (.slice A6 (Zq3 (O+x*y)).length c6)):=Zu.of_off (Off.of_set X V 2 _) λq hq o z hc=>by
       rw[hq,cu.cell o] at hc;rcases o with _ | _ | _ | o <;> cases hc
      clear cu;rw[c4] at U;clear d t C;generalize u 18=m6 at *;subst lh;generalize u 17=m5 at *;subst c4;go_simp;exact D undef () _ cr U trivial
     exact Zw.nil
    intro _ b9 u X9 bh ay d;obtain⟨X0,az,eX⟩:=ay.done (bh 19 AC);obtain⟨A9,c9,c4,dx⟩:=d 17 AC;rw[c4] at eX;have ft:=ca.out.ext az;have j1:Hid (Blk X9 V 67 #[.int .i64 ((M.length:Int)+(W.length:Int)),.int .i64 (n:Int),.slice A9 (Zq3 (O+x*y)).length c9]):=LH (by
     rw[eX];exact ft.set 2 (.slice A9 (Zq3 (O+x*y)).length c9))
    have jq:Hid (Below V W6 X9):=LH (by
     rw[eX];have h1:=a5.out.trans (az.mono (DS ca.out.lt));exact h1.trans ((Off.of_set X0 V 2 (.slice A9 (Zq3 (O+x*y)).length c9)).is_below (DS ft.lt) λq hq=>by rw[hq];exact AJ _))
    have jw:=LH dx;clear d bh ay eX ft az dx b9 c4 s0 sl x1 xl q2 ul CF CT;generalize u 0=k0 at *;generalize u 1=k1 at *;generalize u 2=k2 at *;generalize u 3=k3 at *;generalize u 4=k4 at *;generalize u 5=k5 at *;generalize u 6=k6 at *;generalize u 7=k7 at *;generalize u 8=k8 at *;generalize u 9=k9 at *;generalize u 10=mf at *;generalize u 11=mg at *;generalize u 12=mh at *;generalize u 13=mi at *;generalize u 14=mj at *;generalize u 15=mk at *;generalize u 16=ml at *;generalize u 17=mm at *;generalize u 18=mn at *;clear u;go_wp2_with fail;go_roundw
    case rel=>exact⟨j+1,O+x*y,A9,c9,AF,AA,j9,jw,j1,jq⟩
    simp[intOf] <;> omega
   obtain rfl:j=k:=AA
   have CF:Hid (∀X,Below wr wr X->Calls prog 63 #[.slice At nt ct,.slice A2 l.length (cl-1),.int .i64 ((n-j:Nat):Int)] X λe w'=>Below X X w'/\∃Y bb Z d1,e = .returned (.agg #[.slice Y bb Z,.bool d1])/\Z1 w' Y bb Z d1 (Zx (Zv G) l (n-j))):=LH λX B=>dh.out j AA X B;clear dh hj ko s0 sl q2 ul;go_upto_region 13 with fail;refine Yi (Γ:=Unit) (λ_ b u X=>VMs wr [(⟨10,11,9,110,#[.slice none 0 0,.bool false]⟩:Qr)] b u X) (λX J=>Zu X J) () (λu=>(⟨(GV ⟨a1,n1,c1,a2,n2,c2,a3,n3,c3⟩ G.zt :: .slice At nt ct :: .slice (some ⟨ab,ao,none⟩) (l.length+1) cl :: .slice Az N cz :: .pointer (some ⟨w,0,none⟩)::undef::undef::undef :: .pointer (some ⟨w+1,0,none⟩) :: .pointer (some ⟨P,0,none⟩) :: .pointer (some ⟨ai,0,none⟩) :: .int .i64 (n:Int) :: .pointer (some ⟨V,0,none⟩) :: .int .i64 (j:Int)::u 10::u15::u16::u17::u18::u19::u20::u21::u22::u23::u24::u25::u26::u27::k0::k1::k2::k3::k4::k5::k6::k7::k8 :: .pointer (some ⟨P,1,none⟩) :: .int .i64 (j:Int) :: .pointer (some ⟨ai,1,none⟩) :: .int .i64 ((n-j:Nat):Int) :: .int .i64 (n:Int) :: .pointer (some ⟨P,0,none⟩) :: .int .i64 (M.length:Int) :: .pointer (some ⟨ai,0,none⟩) :: .int .i64 (W.length:Int) :: .int .i64 ((M.length:Int)+(W.length:Int)) :: .int .i64 (n:Int) :: .pointer (some ⟨ai,2,none⟩) :: .slice E (Zq3 r2).length F :: .agg #[.int .i64 ((M.length:Int)+(W.length:Int)),.int .i64 (n:Int),.slice E (Zq3 r2).length F] :: .int .i64 (j:Int) :: .pointer (some ⟨P,1,none⟩) :: .int .i64 (j:Int) :: .bool false::u55::u56::u57::u58::u59::u60::u61::u62::u63::u64::u65::u66::u67::u68::u69::u70::u71::u72::u73::u74::u75::u 0::u 1::u 2::u 3::u 4::u 5::u 6::u 7::u 8::u 9::u86::u87::u88::u89::u90::u91::u92::[]).toArray,[]⟩:Act)) [u76,u77,u78,u79,u80,u81,u82,u83,u84,u85,undef,undef] [λv X=>v = .pointer (some ⟨P,2,none⟩),λv X=>v=(.slice Y (Zq3 q).length Z),λv X=>v=(.agg #[.slice Y (Zq3 q).length Z,.bool false]),λv X=>v = .slice At nt ct,λv X=>v = .slice (some ⟨ab,ao,none⟩) (l.length+1) cl,λv X=>v = .slice A2 l.length (cl-1),λv X=>v = .pointer (some ⟨ai,1,none⟩),λv X=>v = .int .i64 ((n-j:Nat):Int),λv X=>∃E R F S,v = .agg #[.slice E R F,.bool S]/\Z1 X E R F S (Zx (Zv G) l (n-j)),λv X=>∃E R F S,v = .agg #[.slice E R F,.bool S]/\Z1 X E R F S (q*Zx (Zv G) l (n-j)),λv X=>True,λv X=>True] (l:=[_,_,_,_,_,_,_,_,_,_,_,_]) AB AB rfl (VMs.zt _ _ _) ⟨AI,AI,AI,AI,AI,AI,AI,AI,(λv X J ⟨E,R,F,S,e,h⟩ B=>⟨E,R,F,S,e,h.nkept B⟩),(λv X J ⟨E,R,F,S,e,h⟩ B=>⟨E,R,F,S,e,h.nkept B⟩),AI,AI,trivial⟩ ?_ ?_
   ·refine Zw.v0 ?_;refine Zw.vf (λQ g b u X K C H t f D=>?_) ?_
    ·have p0:u 0=_:=f 0 rfl;have I:=t.below;have v0:=(I.cell (p:=⟨P,2,none⟩) xl).trans x2;have vl:=AK xl I.size;clear f t C;generalize u 0=x0 at *;subst p0;go_simp;exact D
    refine Zw.vf (λQ g b u X K C H t f D=>?_) ?_
    ·have p1:u 1=_:=f 1 rfl;clear f t C;generalize u 1=x1 at *;subst p1;go_simp;exact D
    refine Zw.v0 ?_;refine Zw.v0 ?_;refine Zw.vf (λQ g b u X K C H t f D=>?_) ?_
    ·have p4:u 4=_:=f 4 rfl;have g8:(1:Int)<=(l.length:Int)+1:=AA
     clear f t C;generalize u 4=x4 at *;subst p4;go_simp;exact D
    refine Zw.v0 ?_;refine Zw.vf (λQ g b u X K C H t f D=>?_) ?_
    ·have p6:u 6=_:=f 6 rfl;have I:=t.below;have v0:=(I.cell (p:=⟨ai,1,none⟩) zl).trans z1;have vl:=AK zl I.size;clear f t C;generalize u 6=x6 at *;subst p6;go_simp;exact D
    refine Zw.con (λQ g b u X C H t d K D=>?_) ?_
    ·have p3:u 3=_:=(d 3 rfl).2;have p5:u 5=_:=(d 5 rfl).2;have p7:u 7=_:=(d 7 rfl).2;have U:=λJ (B:Below X X J) v=>t.idle B 8 rfl v;have I:=t.below;have CC:=CF.out X I;clear d t C;rw[p3,p5,p7] at D⊢;go_simp;go_at_call 63;(with_reducible refine CC.mono ?_);rintro e J⟨B,A9,n9,c9,d9,rfl,bq⟩;go_simp;exact D _ () _ (.of_below B) (U _ B _) ⟨A9,n9,c9,d9,rfl,bq⟩
    refine Zw.con (λQ g b u X C H t d K D=>?_) ?_
    ·have p2:u 2=_:=(d 2 rfl).2;obtain⟨E,R,F,S,p8,hv⟩:=(d 8 rfl).2;have f3:b 11=false:=C.no H AB;have U:=λJ (B:Below X X J) v=>t.call B 9 f3 rfl v;have I:=t.below;have CC:=Gt Y _ Z false q E R F S (Zx (Zv G) l (n-j)) X (Z1.of (jx.out.below I) j7.out) hv;clear d t C;rw[p2] at D⊢;generalize u 8=x8 at *;subst p8;go_simp;go_at_call 124;(with_reducible refine CC.mono ?_);rintro e J⟨B,A9,n9,c9,d9,rfl,bq⟩;go_simp;exact D _ () _ (.of_below B) (U _ B _) ⟨A9,n9,c9,d9,rfl,bq⟩
    refine Zw.con (λQ g b u X C H t d K D=>?_) ?_
    ·have f3:b 11=false:=C.no H AB;have U:=t.made (p:=(⟨10,11,9,110,#[.slice none 0 0,.bool false]⟩:Qr)) AE f3 (λp d=>by simp only[BY,DZ,or_false] at d;rcases d with rfl <;> exact⟨AE,AC,AC⟩);clear d t C;go_simp;exact D _ () _ (.of_below (Zy _ _)) U trivial
    refine Zw.con (λQ g b u X C H t d K D=>?_) ?_
    ·obtain⟨E,R,F,S,p9,hv⟩:=(d 9 rfl).2;obtain⟨gB,kf,aj,U,cr⟩:=t.put2 (p:=(⟨10,11,9,110,#[.slice none 0 0,.bool false]⟩:Qr)) AE (d 10 rfl).1 H (λp d=>by simp only[BY,DZ,or_false] at d;rcases d with rfl <;> exact⟨AE,AC,AC,AE⟩) rfl nofun nofun p9
     clear d t C;generalize u 10=ln at *;subst kf;generalize u 9=x9 at *;subst p9;have y0:=aj.cell 0;have lo:=aj.frozen 0;have y1:=aj.cell 1;have lp:=aj.frozen 1;have yl:=aj.lt;clear aj;go_simp;exact D undef () _ cr (U undef) trivial
    exact Zw.nil
   intro _ b9 u X9 bh ay d;obtain⟨ki,vs,fd,km,g3,p9⟩:=ay.fin (p:=⟨10,11,9,110,#[.slice none 0 0,.bool false]⟩) AE (bh 10 AC) (bh 11 AC);obtain⟨A9,n9,c9,d9,q9,hv⟩:=d 9 AC;obtain rfl:vs=#[.slice A9 n9 c9,.bool d9]:=by
    rw[p9] at q9;injection q9
   have h7:u 10=_:=fd;have am:=ay.below;have hr:q*Zx (Zv G) l (n-j)<big:=by
    have h1:=fo.out;have h2:=fn.out;omega
   have ce:O+q*Zx (Zv G) l (n-j)=r:=by
    have h1:=fo.out;have h2:=gt.out;omega
   obtain⟨fw,cf⟩:=hv;rw[Z7 hr] at fw cf;have hg:=cf.len;simp only[] at fw cf hg;subst hg;have ge:=LH (Zz gf.out am);have b8:=LH (ca.out.ext am);have jz:=LH (gm.out.ext am);have gq:=LH g3;have lu:=LH cf;have ls:=LH (fh.out.below am);have l3:w.heap.size+1<wr.heap.size:=gm.out.lt;have l1:w.heap.size+1<V:=AA
   have dn:=LH ce;have CP:=LH (Zxi A5 c5 O A9 c9 (q*Zx (Zv G) l (n-j)) X9 (fh.out.below am) cf (by rw[ce];exact fn.out));clear d bh ay p9 q9 am g3 cf b9 km fw ce hr;rw[h7];clear fd h7 x1 x2 xl z1 zl CF;generalize u 0=k0 at *;generalize u 1=k1 at *;generalize u 2=k2 at *;generalize u 3=k3 at *;generalize u 4=k4 at *;generalize u 5=k5 at *;generalize u 6=k6 at *;generalize u 7=k7 at *;generalize u 8=k8 at *;generalize u 9=k9 at *;clear u;generalize q*Zx (Zv G) l (n-j)=qf at *;have q2:X9.cell? ⟨V,2,none⟩=some (.slice A5 (Zq3 O).length c5):=b8.out.cell 2;have ul:=b8.out.lt;have z0:X9.cell? ⟨ki,0,none⟩=some (.slice A9 (Zq3 qf).length c9):=gq.out.cell 0;have zl:=gq.out.lt;go_wp2_with fail;(with_reducible refine CP.out.mono ?_);rintro e b2⟨ak,al,rfl,fz,cv⟩;rw[dn.out] at fz;have bo:=b8.out.ext cv;have li:b2.cell? ⟨V,2,none⟩=some (.slice A5 (Zq3 O).length c5):=bo.cell 2;have lj:=bo.frozen 2;have ll:=bo.lt;have dy:=Off.of_set b2 V 2 (.slice ak (Zq3 (O+qf)).length al);have dj:Hid (Blk (b2.setCell ⟨V,2,none⟩ (.slice ak (Zq3 (O+qf)).length al)) V 67 #[.int .i64 ((M.length:Int)+(W.length:Int)),.int .i64 (n:Int),.slice ak (Zq3 (O+qf)).length al]):=LH (bo.set 2 (.slice ak (Zq3 (O+qf)).length al));have js:Hid (Zq .u32 (b2.setCell ⟨V,2,none⟩ (.slice ak (Zq3 (O+qf)).length al)) ak (Zq3 r).length al (Zq3 r)):=LH (fz.nkept (Zu.of_off dy λp d o z hc=>by
    rw[d,bo.cell o] at hc;rcases o with _ | _ | _ | o <;> cases hc))
   have bm:Hid (Blk (b2.setCell ⟨V,2,none⟩ (.slice ak (Zq3 (O+qf)).length al)) (w.heap.size+1) 67 #[.int .i64 0,.int .i64 0,.slice none 0 0]):=dy.blk (jz.out.ext cv) AA;have gd:Hid (Below w w (b2.setCell ⟨V,2,none⟩ (.slice ak (Zq3 (O+qf)).length al))):=LH ((Zz ge.out cv).trans (dy.is_below (BC ge.out.size cv.size) λp d=>by rw[d];omega));clear bo dy fz cv q2 ul z0 zl CP;go_upto_region 15 with fail;clear li lj ll;generalize b2.setCell ⟨V,2,none⟩ (.slice ak (Zq3 (O+qf)).length al)=b3 at *;have q0:b3.cell? ⟨V,0,none⟩=some (.int .i64 ((M.length:Int)+(W.length:Int))):=dj.out.cell 0;have q1:b3.cell? ⟨V,1,none⟩=some (.int .i64 (n:Int)):=dj.out.cell 1;have q2:b3.cell? ⟨V,2,none⟩=some (.slice ak (Zq3 (O+qf)).length al):=dj.out.cell 2;have ul:=dj.out.lt;have o0:b3.cell? ⟨w+1,0,none⟩=some (.int .i64 0):=bm.out.cell 0;have o1:b3.cell? ⟨w+1,1,none⟩=some (.int .i64 0):=bm.out.cell 1;have o2:b3.cell? ⟨w+1,2,none⟩=some (.slice none 0 0):=bm.out.cell 2;have mr:=bm.out.frozen 0;have ms:=bm.out.frozen 1;have mt:=bm.out.frozen 2;have ol:=bm.out.lt;have j2:=LH (((bm.out.set 0 (.int .i64 ((M.length:Int)+(W.length:Int)))).set 1 (.int .i64 (n:Int))).set 2 (.slice ak (Zq3 (O+qf)).length al));have ho:=((Off.of_set b3 (w.heap.size+1) 0 (.int .i64 ((M.length:Int)+(W.length:Int)))).trans (Off.of_set _ (w.heap.size+1) 1 (.int .i64 (n:Int))) λ_ _ h=>h).trans (Off.of_set _ (w.heap.size+1) 2 (.slice ak (Zq3 (O+qf)).length al)) λ_ _ h=>h;have jv:=LH (js.out.nkept (Zu.of_off ho λp d o z hc=>by
    rw[d,bm.out.cell o] at hc;rcases o with _ | _ | _ | o <;> cases hc))
   have jp:=LH (gd.out.trans (ho.is_below gd.out.size λp d=>by rw[d];exact DO _));clear ho;go_wp2_with fail;refine AW (AX (p:=8) AB _ _ (w.heap.size+1) 67 #[.int .i64 ((M.length:Int)+(W.length:Int)),.int .i64 (n:Int),.slice ak (Zq3 (O+qf)).length al] (0,0) _ rfl j2.out underlying67 rfl AB) rfl ?_;exact⟨jp.out,ak,al,by rw[dn.out];first | rfl | simp,jv.out⟩
end
end Go.Proofs.YtaagompdgiobeaaGreatDoor
