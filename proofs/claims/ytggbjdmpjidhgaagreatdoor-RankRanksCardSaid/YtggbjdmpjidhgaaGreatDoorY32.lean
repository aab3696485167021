/- ranks: the reference's forest of found (walked). -/
import Derived.Test.YtggbjdmpjidhgaaGreatDoorY25
import Derived.Test.YtggbjdmpjidhgaaGreatDoorY31
set_option linter.all false
set_option maxHeartbeats 1500000
set_option maxRecDepth 100000
namespace Go.Proofs.YtggbjdmpjidhgaaGreatDoor
open Go.RowKit Go.Proofs.Tryz
variable{At:Option Addr}{tab:Nat->Nat->Nat}
theorem Zxj{W0:World}{h:GH}{G:Gr}{nt ct:Nat}(hT:TbG W0 h G At nt ct tab)(hP:Xq G)(m:Nat)(HT:RTC W0 h G At nt ct m):RFC W0 h G At nt ct m:=by
 intro l
 induction l with
 | nil =>
   intro n r u z Al cl Az cz w dy hU cw g3 fx hn hh hl hz az;cases hU;exact rf_fnil Al cl Az _ cz w
 | cons s l ih =>
   intro n r u z Al cl Az cz w dy hU cw g3 fx hn hh hl hz az;obtain⟨k,q,Z,M,V,l3,hu,hr,kr,g0,rfl,hg,he⟩:=hU.parts hP cw;obtain⟨zz,dr⟩:∃zz:List Int,V.map (λi:Nat=>(i:Int))++z=zz:=⟨_,rfl⟩;have fo:V.length+z.length=zz.length:=by rw[<-dr];simp
   obtain⟨N,hN⟩:∃N,(M++V).length+z.length=N:=⟨_,rfl⟩;have cb:M.length+zz.length=N:=by rw[<-hN,AU];omega
   rw[DF,DO,dr] at hz;rw[hN] at hz ⊢;have gx:N-M.length=zz.length:=AA
   have mb:M.length+V.length<=N:=AA
   obtain⟨Aq,hx,dv⟩:=D6 hz (i:=M.length) AA;rw[gx] at hx dv;have hd:(M.map (λi:Nat=>(i:Int))++zz).drop M.length=zz:=by
    rw[List.drop_append_of_le_length AE,List.drop_eq_nil_of_le AE,DD]
   rw[hd] at dv;have gz:0<Zx (Zv G) l (n-k):=AA
   have kk:q*Zx (Zv G) l (n-k)+Z<Zv G s k*Zx (Zv G) l (n-k):=by
    have:=Lc (a:=0) (q:=q) (T:=Zv G s k) AA hr;rwa [BH] at this
   have kp:Yv (Zv G) s l n (k+1)<=Zx (Zv G) (s::l) n:=by
    rw[<-Jn];exact Wz _ _ _ _ AA
   have ks:=Xy (Zv G) s l n k;have ht:r<big:=AA
   have f4:Zx (Zv G) l (n-k)<big:=by
    have h4:Zx (Zv G) l (n-k)<=Zv G s k*Zx (Zv G) l (n-k):=Nat.le_mul_of_pos_left _ AA;omega
   have gy:Zv G s k<big:=by
    have h4:Zv G s k<=Zv G s k*Zx (Zv G) l (n-k):=Nat.le_mul_of_pos_right _ gz;omega
   have hk:q<big:=AA
   obtain⟨a1,n1,c1,a2,n2,c2,a3,n3,c3⟩:=h;have l9:=hT.tabm.1;have ma:=hT.tabm.2.1;have l7:=hT.nt;have lz:=hP.fits.n1;have l6:=hP.fits.n2.2;have hy:=H7 (hh s (AX ..));have ly:=hl.cap;have md:=hz.cap;obtain⟨ab,ao,s',rfl,du,gt,f0⟩:=hl.get (j:=0) AE;obtain rfl:s=s':=by have:=gt.out;simpa using this
   rw[DG] at f0;have cp:=hl.tail1;rw[show (s::l).length-1=l.length from rfl] at cp;obtain⟨A2,kg⟩:∃A2:Option Addr,(if cl=1 then some (⟨ab,ao,none⟩:Addr) else some ⟨ab,ao+1,none⟩)=A2:=⟨_,rfl⟩;rw[kg] at cp;have j4:Hid (∀j,j<=k->Yv (Zv G) s l n j<=Yv (Zv G) s l n k):=LH λj hj=>Wz _ _ _ _ hj;have j9:Hid (∀j,Yv (Zv G) s l n (j+1)=Yv (Zv G) s l n j+Zv G s j*Zx (Zv G) l (n-j)):=LH λj=>Xy _ _ _ _ _;have HB:=LH hT;have fn:=LH hu;have j5:=LH hg;have Hh:=LH hh;have jk:=LH cp;have j7:=LH hy;have fj:=LH az;have lv:=LH f4;have j6:=LH hk;have fm:=LH ht;have l5:l.length<=5:=by simpa using fx
   have l4:((l.length:Int)+1==0)=false:=by rw[AQ];omega
   have mc:M.length+V.length<=m:=by rw[AU] at dy;exact dy
   have gb:Hid (s<0->∀X,Below W0 W0 X->Calls prog 82 #[.agg #[.slice a1 n1 c1,.slice a2 n2 c2,.slice a3 n3 c3,.int .i64 G.start],.slice At nt ct,.slice Az N cz] X (Zv7 M.length k q X)):=LH λF X t=>by
    have h1:=HT s k q M zz Az cz X AA F (cw s (AX ..) F) (he F) gy AA (by rw[cb];exact hz) t;rw[cb] at h1;exact h1
   have f9:Hid (∀X,Below W0 W0 X->Calls prog 134 #[.agg #[.slice a1 n1 c1,.slice a2 n2 c2,.slice a3 n3 c3,.int .i64 G.start],.slice At nt ct,.slice A2 l.length (cl-1),.slice Aq zz.length (cz-M.length)] X (Zv7 V.length (n-k) Z X)):=LH λX t=>by
    have h1:=ih (n-k) Z V z A2 (cl-1) Aq (cz-M.length) X AA g0 cw.tail f4 AA AA (λs F=>hh s (.tail _ F)) cp (by rw[dr,fo];exact dv) t;rw[fo] at h1;exact h1
   have gv:=Zy w (.cells #[.slice a1 n1 c1,.slice a2 n2 c2,.slice a3 n3 c3,.int .i64 G.start] 26);have ft:=Zy (w.alloc (.cells #[.slice a1 n1 c1,.slice a2 n2 c2,.slice a3 n3 c3,.int .i64 G.start] 26)) (.cells #[.int .i64 0,.int .i64 0,.slice none 0 0] 125);have hO:=Blk.new (w.alloc (.cells #[.slice a1 n1 c1,.slice a2 n2 c2,.slice a3 n3 c3,.int .i64 G.start] 26)) 125 #[.int .i64 0,.int .i64 0,.slice none 0 0];have p5:=Zl w (.cells #[.slice a1 n1 c1,.slice a2 n2 c2,.slice a3 n3 c3,.int .i64 G.start] 26);rw[p5] at hO;have gf:=LH ((Blk.new w 26 #[.slice a1 n1 c1,.slice a2 n2 c2,.slice a3 n3 c3,.int .i64 G.start]).ext ft);have fh:=LH hO;have gw:=Zz gv ft;have jl:=LH gw;have f3:=az.size;clear hT hP HT ih dy hU cw g3 fx hh hl hz az hu hr kr g0 hg he dr fo hN cb gx dv hd gz kk kp ks ht f4 gy hk cp hy gt gv ft hO p5 gw;go_enter func134,ntmps134;go_upto_region 3 with fail;generalize (w.alloc (.cells #[.slice a1 n1 c1,.slice a2 n2 c2,.slice a3 n3 c3,.int .i64 G.start] 26)).alloc (.cells #[.int .i64 0,.int .i64 0,.slice none 0 0] 125)=W1 at *;have bx:=Zy W1 (.cells #[.int .i64 0,.int .i64 1,.slice none 0 0] 125);have ay:=Blk.new W1 125 #[.int .i64 0,.int .i64 1,.slice none 0 0];have l8:=fh.lt;have fe:=LH (Zz jl bx);have b0:=LH (gf.ext bx);have gj:=LH (fh.ext bx);have bf:=LH ay;clear bx ay gf fh;go_upto_region 4 with fail;generalize W1.alloc (.cells #[.int .i64 0,.int .i64 1,.slice none 0 0] 125)=W2 at *;generalize g6:W1.heap.size=P at *;have j3:=LH g6;clear g6;have dk:Hid (Below W0 W0 W2):=fj.trans (fe.mono f3);have s0:=(dk.cell (p:=⟨ab,ao,none⟩) du).trans f0;have sl:=AK du dk.size;have y0:W2.cell? ⟨w,0,none⟩=some (.slice a1 n1 c1):=b0.cell 0;have y1:W2.cell? ⟨w,1,none⟩=some (.slice a2 n2 c2):=b0.cell 1;have y2:W2.cell? ⟨w,2,none⟩=some (.slice a3 n3 c3):=b0.cell 2;have y3:W2.cell? ⟨w,3,none⟩=some (.int .i64 G.start):=b0.cell 3;have y5:=b0.lt;have x0:W2.cell? ⟨P,0,none⟩=some (.int .i64 0):=bf.cell 0;have x1:W2.cell? ⟨P,1,none⟩=some (.int .i64 1):=bf.cell 1;have x2:W2.cell? ⟨P,2,none⟩=some (.slice none 0 0):=bf.cell 2;have jf:=bf.frozen 0;have jg:=bf.frozen 1;have jh:=bf.frozen 2;have xl:=bf.lt;go_upto_if 23 with fail
   go_cut [] (λwx=>∃(W:Option Addr) (Y:Nat),Hid (Blk wx P 125 #[.int .i64 (M.length:Int),.int .i64 (k:Int),.slice W (limbs q).length Y])/\Hid (Zq .u32 wx W (limbs q).length Y (limbs q))/\Hid (Below P W2 wx))
   case first =>
    by_cases F:s<0
    case pos =>
     have CT:=LH (gb F W2 dk);go_wp2_with fail;refine CT.out.mono ?_;rintro e W3⟨fu,W,Y,rfl,g8⟩;have bp:=bf.ext fu;have z0:W3.cell? ⟨P,0,none⟩=some (.int .i64 0):=bp.cell 0;have z1:W3.cell? ⟨P,1,none⟩=some (.int .i64 1):=bp.cell 1;have z2:W3.cell? ⟨P,2,none⟩=some (.slice none 0 0):=bp.cell 2;have m7:=bp.frozen 0;have m8:=bp.frozen 1;have m9:=bp.frozen 2;have zl:=bp.lt;have gq:=LH bp;have js:=LH g8;have jm:=LH fu;clear bp g8 fu CT y0 y1 y2 y3 y5 x0 x1 x2 jf jg jh;go_wp2_with fail;go_meet
     have ho:=((Off.of_set W3 P 0 (.int .i64 (M.length:Int))).trans (Off.of_set _ P 1 (.int .i64 (k:Int))) λ_ _ h=>h).trans (Off.of_set _ P 2 (.slice W (limbs q).length Y)) λ_ _ h=>h;exact⟨W,Y,LH (((gq.set 0 (.int .i64 (M.length:Int))).set 1 (.int .i64 (k:Int))).set 2 (.slice W (limbs q).length Y)),LH (js.nkept (Zu.of_off ho λp f o z hc=>by
      rw[f,gq.cell o] at hc;rcases o with _ | _ | _ | o <;> cases hc)),LH ((jm.mono (DN xl)).trans (ho.is_below (DN zl) λp f=>by rw[f];exact AJ _))⟩
    obtain⟨rfl,rfl,rfl⟩:=j5 AA;go_wp2_with fail;go_meet
    exact⟨none,0,bf,LH (by rw[limbs0];exact Zq.nil _ _ _ _ AA),LH (AL _ _)⟩
   obtain⟨W,Y,HX,HN,a5⟩:=hcut;clear y0 y1 y2 y3 y5 x0 x1 x2 jf jg jh s0 sl gb xl;have km:w.heap.size+1<P:=by have:=j3.out;omega
   have b1:=LH (b0.below a5 AA);have gk:=LH (gj.below a5 km);have ff:Hid (Below w w wc):=fe.trans (a5.mono AA);have fk:Hid (Below W0 W0 wc):=fj.trans (ff.mono f3);clear fe b0 gj bf dk a5;have y0:wc.cell? ⟨w,0,none⟩=some (.slice a1 n1 c1):=b1.cell 0;have y1:wc.cell? ⟨w,1,none⟩=some (.slice a2 n2 c2):=b1.cell 1;have y2:wc.cell? ⟨w,2,none⟩=some (.slice a3 n3 c3):=b1.cell 2;have y3:wc.cell? ⟨w,3,none⟩=some (.int .i64 G.start):=b1.cell 3;have y5:=b1.lt;have x0:wc.cell? ⟨P,0,none⟩=some (.int .i64 (M.length:Int)):=HX.cell 0;have xl:=HX.lt;have CF:Hid (∀X,Below wc wc X->Calls prog 134 #[.agg #[.slice a1 n1 c1,.slice a2 n2 c2,.slice a3 n3 c3,.int .i64 G.start],.slice At nt ct,.slice A2 l.length (cl-1),.slice Aq zz.length (cz-M.length)] X λe w'=>Below X X w'/\∃A c,e = .returned (.agg #[.int .i64 (V.length:Int),.int .i64 ((n-k:Nat):Int),.slice A (limbs Z).length c])/\Zq .u32 w' A (limbs Z).length c (limbs Z)):=LH λX t=>(f9 X (Zz fk t)).mono λe w' h=>h;clear f9;go_upto_region 6 with fail;refine Yi (Γ:=Unit) (λ_ b u X=>VMs wc [(⟨9,10,8,125,#[.int .i64 0,.int .i64 0,.slice none 0 0]⟩:Qr)] b u X) (λX C=>Zu X C) () (λu=>(⟨(GV ⟨a1,n1,c1,a2,n2,c2,a3,n3,c3⟩ G.start :: .slice At nt ct :: .slice (some ⟨ab,ao,none⟩) (l.length+1) cl :: .slice Az N cz :: .pointer (some ⟨w,0,none⟩)::undef::undef::undef :: .pointer (some ⟨w+1,0,none⟩) :: .pointer (some ⟨P,0,none⟩)::u 9::undef::undef::undef::undef::u15::u16::u17::u18::u19::u20::u21::u22::u23::u24::u25::u26::u27::u 0::u 1::u 2::u 3::u 4::u 5::u 6::u 7::u 8::u37::u38::u39::u40::u41::u42::u43::u44::u45::u46::u47::u48::u49::u50::u51::u52::u53::u54::u55::u56::u57::u58::u59::u60::u61::u62::u63::u64::u65::u66::u67::u68::u69::u70::u71::u72::u73::u74::u75::u76::u77::u78::u79::u80::u81::u82::u83::u84::u85::u86::u87::u88::u89::u90::u91::u92::[]).toArray,[]⟩:Act)) [u28,u29,u30,u31,u32,u33,u34,u35,u36,undef,undef] [λv X=>v = .agg #[.slice a1 n1 c1,.slice a2 n2 c2,.slice a3 n3 c3,.int .i64 G.start],λv X=>v = .slice At nt ct,λv X=>v = .slice (some ⟨ab,ao,none⟩) (l.length+1) cl,λv X=>v = .slice A2 l.length (cl-1),λv X=>v = .slice Az N cz,λv X=>v = .pointer (some ⟨P,0,none⟩),λv X=>v = .int .i64 (M.length:Int),λv X=>v = .slice Aq zz.length (cz-M.length),λv X=>∃J L,v = .agg #[.int .i64 (V.length:Int),.int .i64 ((n-k:Nat):Int),.slice J (limbs Z).length L]/\Zq .u32 X J (limbs Z).length L (limbs Z),λv X=>True,λv X=>True] (l:=[_,_,_,_,_,_,_,_,_,_,_]) AB AB rfl (VMs.start _ _ _) ⟨AI,AI,AI,AI,AI,AI,AI,AI,(λv X C ⟨J,L,e,h⟩ t=>⟨J,L,e,h.nkept t⟩),AI,AI,trivial⟩ ?_ ?_
   ·refine Zw.con (λQ g b u X B H d f K E=>?_) ?_
    ·have I:=d.below;have v0:=(I.cell (p:=⟨w,0,none⟩) y5).trans y0;have v1:=(I.cell (p:=⟨w,1,none⟩) y5).trans y1;have v2:=(I.cell (p:=⟨w,2,none⟩) y5).trans y2;have v3:=(I.cell (p:=⟨w,3,none⟩) y5).trans y3;have vl:=AK y5 I.size;clear f B;go_simp;exact E _ () _ (Zu.refl _) (d.idle (AL _ _) 0 rfl _) rfl
    refine Zw.con (λQ g b u X B H d f K E=>?_) ?_
    ·clear f B;go_simp;exact E _ () _ (Zu.refl _) (d.idle (AL _ _) 1 rfl _) rfl
    refine Zw.con (λQ g b u X B H d f K E=>?_) ?_
    ·clear f B;go_simp;exact E _ () _ (Zu.refl _) (d.idle (AL _ _) 2 rfl _) rfl
    refine Zw.con (λQ g b u X B H d f K E=>?_) ?_
    ·have p2:u 2=_:=(f 2 rfl).2;have D:=λC (t:Below X X C) v=>d.idle t 3 rfl v;have g7:(1:Int)<=(l.length:Int)+1:=AA
     clear f d B;generalize u 2=x2 at *;subst p2;go_simp;exact E _ () _ (Zu.refl _) (D _ (AL _ _) _) rfl
    refine Zw.con (λQ g b u X B H d f K E=>?_) ?_
    ·clear f B;go_simp;exact E _ () _ (Zu.refl _) (d.idle (AL _ _) 4 rfl _) rfl
    refine Zw.con (λQ g b u X B H d f K E=>?_) ?_
    ·clear f B;go_simp;exact E _ () _ (Zu.refl _) (d.idle (AL _ _) 5 rfl _) rfl
    refine Zw.con (λQ g b u X B H d f K E=>?_) ?_
    ·have p5:u 5=_:=(f 5 rfl).2;have I:=d.below;have v0:=(I.cell (p:=⟨P,0,none⟩) xl).trans x0;have vl:=AK xl I.size;clear f B;rw[p5] at E⊢;go_simp;exact E _ () _ (Zu.refl _) (d.idle (AL _ _) 6 rfl _) rfl
    refine Zw.con (λQ g b u X B H d f K E=>?_) ?_
    ·have p4:u 4=_:=(f 4 rfl).2;have p6:u 6=_:=(f 6 rfl).2;clear f B;rw[p4,p6] at E⊢;go_simp;exact E _ () _ (Zu.refl _) (d.idle (AL _ _) 7 rfl _) rfl
    refine Zw.con (λQ g b u X B H d f K E=>?_) ?_
    ·have p0:u 0=_:=(f 0 rfl).2;have p1:u 1=_:=(f 1 rfl).2;have p3:u 3=_:=(f 3 rfl).2;have p7:u 7=_:=(f 7 rfl).2;have f1:b 10=false:=B.no H AB;have D:=λC (t:Below X X C) v=>d.call t 8 f1 rfl v;have I:=d.below;have CC:=CF X I;clear f d B;rw[p0,p1] at E⊢;rw[p3,p7] at E⊢;go_simp;go_at_call 134;refine CC.mono ?_;rintro e C⟨t,J,L,rfl,hv⟩;go_simp;exact E _ () _ (.of_below t) (D _ t _) ⟨J,L,rfl,hv⟩
    refine Zw.con (λQ g b u X B H d f K E=>?_) ?_
    ·have f1:b 10=false:=B.no H AB;have D:=d.made (p:=(⟨9,10,8,125,#[.int .i64 0,.int .i64 0,.slice none 0 0]⟩:Qr)) AE f1 (λp f=>by simp only[BV,Ec,or_false] at f;rcases f with rfl <;> exact⟨AE,AC,AC⟩);clear f d B;go_simp;exact E _ () _ (.of_below (Zy _ _)) D trivial
    refine Zw.con (λQ g b u X B H d f K E=>?_) ?_
    ·obtain⟨J,L,p8,hv⟩:=(f 8 rfl).2;obtain⟨gB,e9,aj,D,cq⟩:=d.put3 (p:=(⟨9,10,8,125,#[.int .i64 0,.int .i64 0,.slice none 0 0]⟩:Qr)) AE (f 9 rfl).1 H (λp f=>by simp only[BV,Ec,or_false] at f;rcases f with rfl <;> exact⟨AE,AC,AC,AE⟩) rfl nofun nofun nofun p8
     clear f d B;generalize u 9=x9 at *;subst e9;generalize u 8=x8 at *;subst p8;have y0:=aj.cell 0;have ln:=aj.frozen 0;have y1:=aj.cell 1;have lo:=aj.frozen 1;have y2:=aj.cell 2;have m6:=aj.frozen 2;have yl:=aj.lt;clear aj;go_simp;exact E undef () _ cq (D undef) trivial
    exact Zw.nil
   intro _ b9 u X9 bh ay f;obtain⟨ai,vs,p9,g4,g1,p8⟩:=ay.fin (p:=⟨9,10,8,125,#[.int .i64 0,.int .i64 0,.slice none 0 0]⟩) AE (bh 9 AC) (bh 10 AC);obtain⟨J,L,q8,hv⟩:=f 8 AC;obtain rfl:vs=#[.int .i64 (V.length:Int),.int .i64 ((n-k:Nat):Int),.slice J (limbs Z).length L]:=by
    rw[p8] at q8;injection q8
   have h7:u 9=_:=p9;have am:=ay.below;have jn:=LH (Zz ff am);have lu:=LH (Zz fk am);have jq:=LH (b1.ext am);have jx:=LH (gk.ext am);have dj:=LH (HX.ext am);have jt:=LH (HN.below am);have cn:=LH g1;have jz:=LH hv;have l1:P<ai:=AK HX.lt g4;clear f bh ay p8 q8 am g1 hv b9 g4;rw[h7];clear p9 h7 y0 y1 y2 y3 y5 x0 xl CF b1 gk ff fk HX HN hx;generalize u 0=k0 at *;generalize u 1=k1 at *;generalize u 2=k2 at *;generalize u 3=k3 at *;generalize u 4=k4 at *;generalize u 5=k5 at *;generalize u 6=k6 at *;generalize u 7=k7 at *;generalize u 8=k8 at *;clear u;generalize X9=W6 at *;have x0:W6.cell? ⟨P,0,none⟩=some (.int .i64 (M.length:Int)):=dj.cell 0;have x1:W6.cell? ⟨P,1,none⟩=some (.int .i64 (k:Int)):=dj.cell 1;have xl:=dj.lt;have z0:W6.cell? ⟨ai,0,none⟩=some (.int .i64 (V.length:Int)):=cn.cell 0;have z1:W6.cell? ⟨ai,1,none⟩=some (.int .i64 ((n-k:Nat):Int)):=cn.cell 1;have z2:W6.cell? ⟨ai,2,none⟩=some (.slice J (limbs Z).length L):=cn.cell 2;have zl:=cn.lt;have ko:(k:Int)+((n-k:Nat):Int)=(n:Int):=AA
   have bx:=Zy W6 (.cells #[.int .i64 ((M.length:Int)+(V.length:Int)),.int .i64 (n:Int),.slice J (limbs Z).length L] 125);have bo:=Blk.new W6 125 #[.int .i64 ((M.length:Int)+(V.length:Int)),.int .i64 (n:Int),.slice J (limbs Z).length L];go_upto_region 9 with fail;clear x0 x1 z0 z1 z2 ko;have b8:=LH bo;have gr:=LH bx;have gi:=LH (jz.below bx);have kw:=xl;have kv:=zl;clear bx bo xl zl;generalize W6.alloc (.cells #[.int .i64 ((M.length:Int)+(V.length:Int)),.int .i64 (n:Int),.slice J (limbs Z).length L] 125)=W8 at *;generalize g5:W6.heap.size=U at *;have j2:=LH g5;clear g5;go_wp2_with fail;go_loopw [13] (λi wr=>∃(j O:Nat) (A5:Option Addr) (c5:Nat),i = .int .i64 (j:Int)/\j<=k/\Hid (O=Z+Yv (Zv G) s l n j)/\Hid (Zq .u32 wr A5 (limbs O).length c5 (limbs O))/\Hid (Blk wr U 125 #[.int .i64 ((M.length:Int)+(V.length:Int)),.int .i64 (n:Int),.slice A5 (limbs O).length c5])/\Hid (Below U W6 wr)) (λi _=>k-(intOf i).toNat)
   case atStart=>exact⟨0,Z,J,L,rfl,AV _,LH (by rw[Ug];rfl),gi,b8,gr⟩
   obtain⟨j,O,A5,c5,rfl,hj,gs,fg,ca,a5⟩:=hrel;have fi:=LH (dj.below a5 kw);have gn:=LH (cn.below a5 kv);have lq:=LH (jq.below a5 AA);have gl:=LH (jx.below a5 AA);have jw:=LH (jt.nkept (Zu.of_below (by rw[j2];exact a5)));have ge:Hid (Below w w wr):=jn.trans (a5.mono AA);have dl:Hid (Below W0 W0 wr):=fj.trans (ge.mono f3);have x1:wr.cell? ⟨P,1,none⟩=some (.int .i64 (k:Int)):=fi.cell 1;have x2:wr.cell? ⟨P,2,none⟩=some (.slice W (limbs q).length Y):=fi.cell 2;have xl:=fi.lt;have z1:wr.cell? ⟨ai,1,none⟩=some (.int .i64 ((n-k:Nat):Int)):=gn.cell 1;have zl:=gn.lt;have q2:wr.cell? ⟨U,2,none⟩=some (.slice A5 (limbs O).length c5):=ca.cell 2;have ul:=ca.lt;have s0:=(dl.cell (p:=⟨ab,ao,none⟩) du).trans f0;have sl:=AK du dl.size;clear b8 gi gr;have dg:Hid (∀i,i<=n->∀X,Below wr wr X->Calls prog 53 #[.slice At nt ct,.slice A2 l.length (cl-1),.int .i64 ((n-i:Nat):Int)] X λe w'=>Below X X w'/\∃W bb Y d1,e = .returned (.agg #[.slice W bb Y,.bool d1])/\Z1 w' W bb Y d1 (Zx (Zv G) l (n-i))):=LH λi hi X t=>by
    have az:=Zz dl t;have h1:=Kd At nt ct G.nons.length tab A2 (cl-1) l (n-i) X (HB.tabm.below az) AA AA AA (jk.below az) AA (λs F=>by have:=H7 (Hh s (.tail _ F));omega);rw[HB.forest (λs F=>Hh s (.tail _ F)) AA] at h1;exact h1.mono λe w' h=>h
   by_cases kn:j<k
   case pos =>
    obtain⟨x,Hx⟩:∃x,Hid (Zv G s j=x):=⟨_,LH rfl⟩;obtain⟨y,Hy⟩:∃y,Hid (Zx (Zv G) l (n-j)=y):=⟨_,LH rfl⟩;have CT:Hid (∀X,Below wr wr X->Calls prog 95 #[.slice At nt ct,.int .i64 s,.int .i64 (j:Int)] X λe w'=>Below X X w'/\∃W bb Y d1,e = .returned (.agg #[.slice W bb Y,.bool d1])/\Z1 w' W bb Y d1 x):=LH λX t=>by
     have az:=Zz dl t;have h1:=Ztn At nt ct G.nons.length tab s j X (HB.tabm.below az) AA AA AA (λ_=>by have:=j7.out;omega);rw[HB.tree (Hh s (AX ..)) AA,Hx] at h1;exact h1.mono λe w' h=>h
    have CF:Hid (∀X,Below wr wr X->Calls prog 53 #[.slice At nt ct,.slice A2 l.length (cl-1),.int .i64 ((n-j:Nat):Int)] X λe w'=>Below X X w'/\∃W bb Y d1,e = .returned (.agg #[.slice W bb Y,.bool d1])/\Z1 w' W bb Y d1 y):=LH λX t=>by
     have h1:=dg j AA X t;rw[Hy] at h1;exact h1
    have h0:O+x*y=Z+Yv (Zv G) s l n (j+1):=by
     have h1:=j9 j;rw[Hx,Hy] at h1;have h2:=gs.out;omega
    have cd:O+x*y<big:=by
     have h1:=j4 (j+1) AA;have h2:=fn.out;have h3:=fm.out;omega
    have j8:=LH h0;have dm:=LH cd;have ka:Hid (x*y<big):=LH AA;clear h0 cd dg x2 z1 zl;go_upto_region 12 with fail;refine Yi (Γ:=Unit) (λ_ b u X=>SMs wr U 2 19 17 b u X) (λX C=>Zu X C) () (λu=>(⟨(GV ⟨a1,n1,c1,a2,n2,c2,a3,n3,c3⟩ G.start :: .slice At nt ct :: .slice (some ⟨ab,ao,none⟩) (l.length+1) cl :: .slice Az N cz :: .pointer (some ⟨w,0,none⟩)::undef::undef::undef :: .pointer (some ⟨w+1,0,none⟩) :: .pointer (some ⟨P,0,none⟩) :: .pointer (some ⟨ai,0,none⟩) :: .int .i64 (n:Int) :: .pointer (some ⟨U,0,none⟩) :: .int .i64 (j:Int)::undef::u15::u16::u17::u18::u19::u20::u21::u22::u23::u24::u25::u26::u27::k0::k1::k2::k3::k4::k5::k6::k7::k8 :: .pointer (some ⟨P,1,none⟩) :: .int .i64 (k:Int) :: .pointer (some ⟨ai,1,none⟩) :: .int .i64 ((n-k:Nat):Int) :: .int .i64 (n:Int) :: .pointer (some ⟨P,0,none⟩) :: .int .i64 (M.length:Int) :: .pointer (some ⟨ai,0,none⟩) :: .int .i64 (V.length:Int) :: .int .i64 ((M.length:Int)+(V.length:Int)) :: .int .i64 (n:Int) :: .pointer (some ⟨ai,2,none⟩) :: .slice J (limbs Z).length L :: .agg #[.int .i64 ((M.length:Int)+(V.length:Int)),.int .i64 (n:Int),.slice J (limbs Z).length L] :: .int .i64 (j:Int) :: .pointer (some ⟨P,1,none⟩) :: .int .i64 (k:Int) :: .bool true::u55::u56::u 0::u 1::u 2::u 3::u 4::u 5::u 6::u 7::u 8::u 9::u 10::u 11::u 12::u 13::u 14::u 15::u 16::u 17::u 18::u76::u77::u78::u79::u80::u81::u82::u83::u84::u85::u86::u87::u88::u89::u90::u91::u92::[]).toArray,[]⟩:Act)) [u57,u58,u59,u60,u61,u62,u63,u64,u65,u66,u67,u68,u69,u70,u71,u72,u73,u74,u75,undef] [λv X=>v = .pointer (some ⟨U,2,none⟩),λv X=>v = .slice A5 (limbs O).length c5,λv X=>v = .slice At nt ct,λv X=>v = .slice (some ⟨ab,ao,none⟩) (l.length+1) cl,λv X=>v = .pointer (some ⟨ab,ao,none⟩),λv X=>v = .int .i64 s,λv X=>v = .int .i64 (j:Int),λv X=>∃J R L S,v = .agg #[.slice J R L,.bool S]/\Z1 X J R L S (x),λv X=>v = .slice At nt ct,λv X=>v = .slice (some ⟨ab,ao,none⟩) (l.length+1) cl,λv X=>v = .slice A2 l.length (cl-1),λv X=>v = .int .i64 (n:Int),λv X=>v = .int .i64 (j:Int),λv X=>v = .int .i64 ((n-j:Nat):Int),λv X=>∃J R L S,v = .agg #[.slice J R L,.bool S]/\Z1 X J R L S (y),λv X=>∃J R L S,v = .agg #[.slice J R L,.bool S]/\Z1 X J R L S (x*y),λv X=>∃A6 c6,v = .slice A6 (limbs (x*y)).length c6/\Zq .u32 X A6 (limbs (x*y)).length c6 (limbs (x*y)),λv X=>∃A6 c6,v = .slice A6 (limbs (O+x*y)).length c6/\Zq .u32 X A6 (limbs (O+x*y)).length c6 (limbs (O+x*y)),λv X=>v = .pointer (some ⟨U,2,none⟩),λv X=>True] (l:=[_,_,_,_,_,_,_,_,_,_,_,_,_,_,_,_,_,_,_,_]) AB AB rfl (SMs.start _ _ _ _ _ _) ⟨AI,AI,AI,AI,AI,AI,AI,(λv X C ⟨J,R,L,S,e,h⟩ t=>⟨J,R,L,S,e,h.nkept t⟩),AI,AI,AI,AI,AI,AI,(λv X C ⟨J,R,L,S,e,h⟩ t=>⟨J,R,L,S,e,h.nkept t⟩),(λv X C ⟨J,R,L,S,e,h⟩ t=>⟨J,R,L,S,e,h.nkept t⟩),(λv X C ⟨A6,c6,e,h⟩ t=>⟨A6,c6,e,h.nkept t⟩),(λv X C ⟨A6,c6,e,h⟩ t=>⟨A6,c6,e,h.nkept t⟩),AI,AI,trivial⟩ ?_ ?_
    ·refine Zw.con (λQ gg b u X B H d f K E=>?_) ?_
     ·have F:b 19=false:=B.no H AB;clear f B;go_simp;exact E _ () _ (Zu.refl _) (d.idle F (AL _ _) 0 rfl _) rfl
     refine Zw.con (λQ gg b u X B H d f K E=>?_) ?_
     ·have F:b 19=false:=B.no H AB;have p0:u 0=_:=(f 0 rfl).2;have I:=d.below F;have v0:=(I.cell (p:=⟨U,2,none⟩) ul).trans q2;have vl:=AK ul I.size;clear f B;rw[p0] at E⊢;go_simp;exact E _ () _ (Zu.refl _) (d.idle F (AL _ _) 1 rfl _) rfl
     refine Zw.con (λQ gg b u X B H d f K E=>?_) ?_
     ·have F:b 19=false:=B.no H AB;clear f B;go_simp;exact E _ () _ (Zu.refl _) (d.idle F (AL _ _) 2 rfl _) rfl
     refine Zw.con (λQ gg b u X B H d f K E=>?_) ?_
     ·have F:b 19=false:=B.no H AB;clear f B;go_simp;exact E _ () _ (Zu.refl _) (d.idle F (AL _ _) 3 rfl _) rfl
     refine Zw.con (λQ gg b u X B H d f K E=>?_) ?_
     ·have F:b 19=false:=B.no H AB;have p3:u 3=_:=(f 3 rfl).2;clear f B;rw[p3] at E⊢;go_simp;exact E _ () _ (Zu.refl _) (d.idle F (AL _ _) 4 rfl _) rfl
     refine Zw.con (λQ gg b u X B H d f K E=>?_) ?_
     ·have F:b 19=false:=B.no H AB;have p4:u 4=_:=(f 4 rfl).2;have I:=d.below F;have v0:=(I.cell (p:=⟨ab,ao,none⟩) sl).trans s0;have vl:=AK sl I.size;clear f B;rw[p4] at E⊢;go_simp;exact E _ () _ (Zu.refl _) (d.idle F (AL _ _) 5 rfl _) rfl
     refine Zw.con (λQ gg b u X B H d f K E=>?_) ?_
     ·have F:b 19=false:=B.no H AB;clear f B;go_simp;exact E _ () _ (Zu.refl _) (d.idle F (AL _ _) 6 rfl _) rfl
     refine Zw.con (λQ gg b u X B H d f K E=>?_) ?_
     ·have F:b 19=false:=B.no H AB;have p2:u 2=_:=(f 2 rfl).2;have p5:u 5=_:=(f 5 rfl).2;have p6:u 6=_:=(f 6 rfl).2;have I:=d.below F;have D:=λC (t:Below X X C) v=>d.idle F t 7 rfl v;have CC:=CT X I;clear f d B;rw[p2,p5,p6] at E⊢;go_simp;go_at_call 95;refine CC.mono ?_;rintro e C⟨t,A9,n9,c9,d9,rfl,bq⟩;go_simp;exact E _ () _ (.of_below t) (D _ t _) ⟨A9,n9,c9,d9,rfl,bq⟩
     refine Zw.con (λQ gg b u X B H d f K E=>?_) ?_
     ·have F:b 19=false:=B.no H AB;clear f B;go_simp;exact E _ () _ (Zu.refl _) (d.idle F (AL _ _) 8 rfl _) rfl
     refine Zw.con (λQ gg b u X B H d f K E=>?_) ?_
     ·have F:b 19=false:=B.no H AB;clear f B;go_simp;exact E _ () _ (Zu.refl _) (d.idle F (AL _ _) 9 rfl _) rfl
     refine Zw.con (λQ gg b u X B H d f K E=>?_) ?_
     ·have F:b 19=false:=B.no H AB;have p9:u 9=_:=(f 9 rfl).2;have D:=λC (t:Below X X C) v=>d.idle F t 10 rfl v;have g7:(1:Int)<=(l.length:Int)+1:=AA
      clear f d B;generalize u 9=x9 at *;subst p9;go_simp;exact E _ () _ (Zu.refl _) (D _ (AL _ _) _) rfl
     refine Zw.con (λQ gg b u X B H d f K E=>?_) ?_
     ·have F:b 19=false:=B.no H AB;clear f B;go_simp;exact E _ () _ (Zu.refl _) (d.idle F (AL _ _) 11 rfl _) rfl
     refine Zw.con (λQ gg b u X B H d f K E=>?_) ?_
     ·have F:b 19=false:=B.no H AB;clear f B;go_simp;exact E _ () _ (Zu.refl _) (d.idle F (AL _ _) 12 rfl _) rfl
     refine Zw.con (λQ gg b u X B H d f K E=>?_) ?_
     ·have F:b 19=false:=B.no H AB;have kz:u 11=_:=(f 11 rfl).2;have la:u 12=_:=(f 12 rfl).2;have D:=λC (t:Below X X C) v=>d.idle F t 13 rfl v;have hw:IntKind.i64.wrap ((n:Int)-(j:Int))=((n-j:Nat):Int):=by rw[BS _ AA];omega
      clear f d B;generalize u 11=my at *;subst kz;generalize u 12=mz at *;subst la;go_simp;exact E _ () _ (Zu.refl _) (D _ (AL _ _) _) (by first | rfl | rw[hw])
     refine Zw.con (λQ gg b u X B H d f K E=>?_) ?_
     ·have F:b 19=false:=B.no H AB;have p8:u 8=_:=(f 8 rfl).2;have fc:u 10=_:=(f 10 rfl).2;have lb:u 13=_:=(f 13 rfl).2;have I:=d.below F;have D:=λC (t:Below X X C) v=>d.idle F t 14 rfl v;have CC:=CF X I;clear f d B;rw[p8,fc,lb] at E⊢;go_simp;go_at_call 53;refine CC.mono ?_;rintro e C⟨t,A9,n9,c9,d9,rfl,bq⟩;go_simp;exact E _ () _ (.of_below t) (D _ t _) ⟨A9,n9,c9,d9,rfl,bq⟩
     refine Zw.con (λQ gg b u X B H d f K E=>?_) ?_
     ·have F:b 19=false:=B.no H AB;obtain⟨J,R,L,S,p7,hv⟩:=(f 7 rfl).2;obtain⟨A7,n7,c7,d7,lc,kt⟩:=(f 14 rfl).2;have D:=λC (t:Below X X C) v=>d.idle F t 15 rfl v;have CC:=Gt J R L S x A7 n7 c7 d7 y X hv kt;clear f d B;generalize u 7=x7 at *;subst p7;generalize u 14=m1 at *;subst lc;go_simp;go_at_call 26;refine CC.mono ?_;rintro e C⟨t,A9,n9,c9,d9,rfl,bq⟩;go_simp;exact E _ () _ (.of_below t) (D _ t _) ⟨A9,n9,c9,d9,rfl,bq⟩
     refine Zw.con (λQ gg b u X B H d f K E=>?_) ?_
     ·have F:b 19=false:=B.no H AB;obtain⟨J,R,L,S,ld,hv⟩:=(f 15 rfl).2;have D:=λC (t:Below X X C) v=>d.idle F t 16 rfl v;have cb:Zq .u32 X J R L (limbs (x*y)):=by
       have h1:=hv.2;rwa [Z7 ka] at h1
      obtain rfl:=cb.len;clear f d B;generalize u 15=m2 at *;subst ld;go_simp;exact E _ () _ (Zu.refl _) (D _ (AL _ _) _) ⟨_,_,rfl,cb⟩
     refine Zw.con (λQ gg b u X B H d f K E=>?_) ?_
     ·have F:b 19=false:=B.no H AB;have p1:u 1=_:=(f 1 rfl).2;obtain⟨A6,c6,lf,ha⟩:=(f 16 rfl).2;have I:=d.below F;have D:=λC (t:Below X X C) v=>d.idle F t 17 rfl v;have CC:=Zxi A5 c5 O A6 c6 (x*y) X (fg.below I) ha dm;clear f d B;rw[p1] at E⊢;generalize u 16=m3 at *;subst lf;go_simp;go_at_call 135;refine CC.mono ?_;rintro e C⟨A9,c9,rfl,dw,t⟩;go_simp;exact E _ () _ (.of_below t) (D _ t _) ⟨A9,c9,rfl,dw⟩
     refine Zw.con (λQ gg b u X B H d f K E=>?_) ?_
     ·have F:b 19=false:=B.no H AB;clear f B;go_simp;exact E _ () _ (Zu.refl _) (d.idle F (AL _ _) 18 rfl _) rfl
     refine Zw.con (λQ gg b u X B H d f K E=>?_) ?_
     ·have F:b 19=false:=H;have lg:u 18=_:=(f 18 rfl).2;obtain⟨A6,c6,c0,ha⟩:=(f 17 rfl).2;have I:=d.below F;have D:=d.put F rfl undef;have cs:=ca.ext I;have v0:=cs.cell 2;have v1:=cs.frozen 2;have vl:=cs.lt;have cq:Zu X (X.setCell ⟨U,2,none⟩ (.slice A6 (limbs (O+x*y)).length c6)):=Zu.of_off (Off.of_set X U 2 _) λq hq o z hc=>by
       rw[hq,cs.cell o] at hc;rcases o with _ | _ | _ | o <;> cases hc
      clear cs;rw[c0] at D;clear f d B;generalize u 18=m5 at *;subst lg;generalize u 17=m4 at *;subst c0;go_simp;exact E undef () _ cq D trivial
     exact Zw.nil
    intro _ b9 u X9 bh ay f;obtain⟨X0,az,eX⟩:=ay.done (bh 19 AC);obtain⟨A9,c9,c0,dw⟩:=f 17 AC;rw[c0] at eX;have fs:=ca.ext az;have j0:Hid (Blk X9 U 125 #[.int .i64 ((M.length:Int)+(V.length:Int)),.int .i64 (n:Int),.slice A9 (limbs (O+x*y)).length c9]):=LH (by
     rw[eX];exact fs.set 2 (.slice A9 (limbs (O+x*y)).length c9))
    have jp:Hid (Below U W6 X9):=LH (by
     rw[eX];have h1:=a5.trans (az.mono (DN ca.lt));exact h1.trans ((Off.of_set X0 U 2 (.slice A9 (limbs (O+x*y)).length c9)).is_below (DN fs.lt) λq hq=>by rw[hq];exact AJ _))
    have jv:=LH dw;clear f bh ay eX fs az dw b9 c0 s0 sl x1 xl q2 ul CF CT;generalize u 0=k0 at *;generalize u 1=k1 at *;generalize u 2=k2 at *;generalize u 3=k3 at *;generalize u 4=k4 at *;generalize u 5=k5 at *;generalize u 6=k6 at *;generalize u 7=k7 at *;generalize u 8=k8 at *;generalize u 9=k9 at *;generalize u 10=me at *;generalize u 11=mf at *;generalize u 12=mg at *;generalize u 13=mh at *;generalize u 14=mi at *;generalize u 15=mj at *;generalize u 16=mk at *;generalize u 17=ml at *;generalize u 18=mm at *;clear u;go_wp2_with fail;go_roundw
    case rel=>exact⟨j+1,O+x*y,A9,c9,AF,AA,j8,jv,j0,jp⟩
    simp[intOf] <;> omega
   obtain rfl:j=k:=AA
   have CF:Hid (∀X,Below wr wr X->Calls prog 53 #[.slice At nt ct,.slice A2 l.length (cl-1),.int .i64 ((n-j:Nat):Int)] X λe w'=>Below X X w'/\∃W bb Y d1,e = .returned (.agg #[.slice W bb Y,.bool d1])/\Z1 w' W bb Y d1 (Zx (Zv G) l (n-j))):=LH λX t=>dg j AA X t;clear dg hj kn s0 sl q2 ul;go_upto_region 13 with fail;refine Yi (Γ:=Unit) (λ_ b u X=>VMs wr [(⟨10,11,9,46,#[.slice none 0 0,.bool false]⟩:Qr)] b u X) (λX C=>Zu X C) () (λu=>(⟨(GV ⟨a1,n1,c1,a2,n2,c2,a3,n3,c3⟩ G.start :: .slice At nt ct :: .slice (some ⟨ab,ao,none⟩) (l.length+1) cl :: .slice Az N cz :: .pointer (some ⟨w,0,none⟩)::undef::undef::undef :: .pointer (some ⟨w+1,0,none⟩) :: .pointer (some ⟨P,0,none⟩) :: .pointer (some ⟨ai,0,none⟩) :: .int .i64 (n:Int) :: .pointer (some ⟨U,0,none⟩) :: .int .i64 (j:Int)::u 10::u15::u16::u17::u18::u19::u20::u21::u22::u23::u24::u25::u26::u27::k0::k1::k2::k3::k4::k5::k6::k7::k8 :: .pointer (some ⟨P,1,none⟩) :: .int .i64 (j:Int) :: .pointer (some ⟨ai,1,none⟩) :: .int .i64 ((n-j:Nat):Int) :: .int .i64 (n:Int) :: .pointer (some ⟨P,0,none⟩) :: .int .i64 (M.length:Int) :: .pointer (some ⟨ai,0,none⟩) :: .int .i64 (V.length:Int) :: .int .i64 ((M.length:Int)+(V.length:Int)) :: .int .i64 (n:Int) :: .pointer (some ⟨ai,2,none⟩) :: .slice J (limbs Z).length L :: .agg #[.int .i64 ((M.length:Int)+(V.length:Int)),.int .i64 (n:Int),.slice J (limbs Z).length L] :: .int .i64 (j:Int) :: .pointer (some ⟨P,1,none⟩) :: .int .i64 (j:Int) :: .bool false::u55::u56::u57::u58::u59::u60::u61::u62::u63::u64::u65::u66::u67::u68::u69::u70::u71::u72::u73::u74::u75::u 0::u 1::u 2::u 3::u 4::u 5::u 6::u 7::u 8::u 9::u86::u87::u88::u89::u90::u91::u92::[]).toArray,[]⟩:Act)) [u76,u77,u78,u79,u80,u81,u82,u83,u84,u85,undef,undef] [λv X=>v = .pointer (some ⟨P,2,none⟩),λv X=>v=(.slice W (limbs q).length Y),λv X=>v=(.agg #[.slice W (limbs q).length Y,.bool false]),λv X=>v = .slice At nt ct,λv X=>v = .slice (some ⟨ab,ao,none⟩) (l.length+1) cl,λv X=>v = .slice A2 l.length (cl-1),λv X=>v = .pointer (some ⟨ai,1,none⟩),λv X=>v = .int .i64 ((n-j:Nat):Int),λv X=>∃J R L S,v = .agg #[.slice J R L,.bool S]/\Z1 X J R L S (Zx (Zv G) l (n-j)),λv X=>∃J R L S,v = .agg #[.slice J R L,.bool S]/\Z1 X J R L S (q*Zx (Zv G) l (n-j)),λv X=>True,λv X=>True] (l:=[_,_,_,_,_,_,_,_,_,_,_,_]) AB AB rfl (VMs.start _ _ _) ⟨AI,AI,AI,AI,AI,AI,AI,AI,(λv X C ⟨J,R,L,S,e,h⟩ t=>⟨J,R,L,S,e,h.nkept t⟩),(λv X C ⟨J,R,L,S,e,h⟩ t=>⟨J,R,L,S,e,h.nkept t⟩),AI,AI,trivial⟩ ?_ ?_
   ·refine Zw.con (λQ g b u X B H d f K E=>?_) ?_
    ·clear f B;go_simp;exact E _ () _ (Zu.refl _) (d.idle (AL _ _) 0 rfl _) rfl
    refine Zw.con (λQ g b u X B H d f K E=>?_) ?_
    ·have p0:u 0=_:=(f 0 rfl).2;have I:=d.below;have v0:=(I.cell (p:=⟨P,2,none⟩) xl).trans x2;have vl:=AK xl I.size;clear f B;rw[p0] at E⊢;go_simp;exact E _ () _ (Zu.refl _) (d.idle (AL _ _) 1 rfl _) rfl
    refine Zw.con (λQ g b u X B H d f K E=>?_) ?_
    ·have p1:u 1=_:=(f 1 rfl).2;clear f B;rw[p1] at E⊢;go_simp;exact E _ () _ (Zu.refl _) (d.idle (AL _ _) 2 rfl _) rfl
    refine Zw.con (λQ g b u X B H d f K E=>?_) ?_
    ·clear f B;go_simp;exact E _ () _ (Zu.refl _) (d.idle (AL _ _) 3 rfl _) rfl
    refine Zw.con (λQ g b u X B H d f K E=>?_) ?_
    ·clear f B;go_simp;exact E _ () _ (Zu.refl _) (d.idle (AL _ _) 4 rfl _) rfl
    refine Zw.con (λQ g b u X B H d f K E=>?_) ?_
    ·have p4:u 4=_:=(f 4 rfl).2;have D:=λC (t:Below X X C) v=>d.idle t 5 rfl v;have g7:(1:Int)<=(l.length:Int)+1:=AA
     clear f d B;generalize u 4=x4 at *;subst p4;go_simp;exact E _ () _ (Zu.refl _) (D _ (AL _ _) _) rfl
    refine Zw.con (λQ g b u X B H d f K E=>?_) ?_
    ·clear f B;go_simp;exact E _ () _ (Zu.refl _) (d.idle (AL _ _) 6 rfl _) rfl
    refine Zw.con (λQ g b u X B H d f K E=>?_) ?_
    ·have p6:u 6=_:=(f 6 rfl).2;have I:=d.below;have v0:=(I.cell (p:=⟨ai,1,none⟩) zl).trans z1;have vl:=AK zl I.size;clear f B;rw[p6] at E⊢;go_simp;exact E _ () _ (Zu.refl _) (d.idle (AL _ _) 7 rfl _) rfl
    refine Zw.con (λQ g b u X B H d f K E=>?_) ?_
    ·have p3:u 3=_:=(f 3 rfl).2;have p5:u 5=_:=(f 5 rfl).2;have p7:u 7=_:=(f 7 rfl).2;have D:=λC (t:Below X X C) v=>d.idle t 8 rfl v;have I:=d.below;have CC:=CF X I;clear f d B;rw[p3,p5,p7] at E⊢;go_simp;go_at_call 53;refine CC.mono ?_;rintro e C⟨t,A9,n9,c9,d9,rfl,bq⟩;go_simp;exact E _ () _ (.of_below t) (D _ t _) ⟨A9,n9,c9,d9,rfl,bq⟩
    refine Zw.con (λQ g b u X B H d f K E=>?_) ?_
    ·have p2:u 2=_:=(f 2 rfl).2;obtain⟨J,R,L,S,p8,hv⟩:=(f 8 rfl).2;have f2:b 11=false:=B.no H AB;have D:=λC (t:Below X X C) v=>d.call t 9 f2 rfl v;have I:=d.below;have CC:=Gt W _ Y false q J R L S (Zx (Zv G) l (n-j)) X (Z1.of (jw.below I) j6) hv;clear f d B;rw[p2] at E⊢;generalize u 8=x8 at *;subst p8;go_simp;go_at_call 26;refine CC.mono ?_;rintro e C⟨t,A9,n9,c9,d9,rfl,bq⟩;go_simp;exact E _ () _ (.of_below t) (D _ t _) ⟨A9,n9,c9,d9,rfl,bq⟩
    refine Zw.con (λQ g b u X B H d f K E=>?_) ?_
    ·have f2:b 11=false:=B.no H AB;have D:=d.made (p:=(⟨10,11,9,46,#[.slice none 0 0,.bool false]⟩:Qr)) AE f2 (λp f=>by simp only[BV,Ec,or_false] at f;rcases f with rfl <;> exact⟨AE,AC,AC⟩);clear f d B;go_simp;exact E _ () _ (.of_below (Zy _ _)) D trivial
    refine Zw.con (λQ g b u X B H d f K E=>?_) ?_
    ·obtain⟨J,R,L,S,p9,hv⟩:=(f 9 rfl).2;obtain⟨gB,ke,aj,D,cq⟩:=d.put2 (p:=(⟨10,11,9,46,#[.slice none 0 0,.bool false]⟩:Qr)) AE (f 10 rfl).1 H (λp f=>by simp only[BV,Ec,or_false] at f;rcases f with rfl <;> exact⟨AE,AC,AC,AE⟩) rfl nofun nofun p9
     clear f d B;generalize u 10=lm at *;subst ke;generalize u 9=x9 at *;subst p9;have y0:=aj.cell 0;have ln:=aj.frozen 0;have y1:=aj.cell 1;have lo:=aj.frozen 1;have yl:=aj.lt;clear aj;go_simp;exact E undef () _ cq (D undef) trivial
    exact Zw.nil
   intro _ b9 u X9 bh ay f;obtain⟨kh,vs,fc,kl,g2,p9⟩:=ay.fin (p:=⟨10,11,9,46,#[.slice none 0 0,.bool false]⟩) AE (bh 10 AC) (bh 11 AC);obtain⟨A9,n9,c9,d9,q9,hv⟩:=f 9 AC;obtain rfl:vs=#[.slice A9 n9 c9,.bool d9]:=by
    rw[p9] at q9;injection q9
   have h6:u 10=_:=fc;have am:=ay.below;have hm:q*Zx (Zv G) l (n-j)<big:=by
    have h1:=fn.out;have h2:=fm.out;omega
   have cd:O+q*Zx (Zv G) l (n-j)=r:=by
    have h1:=fn.out;have h2:=gs.out;omega
   obtain⟨fv,ce⟩:=hv;rw[Z7 hm] at fv ce;have hf:=ce.len;simp only[] at fv ce hf;subst hf;have gd:=LH (Zz ge am);have b8:=LH (ca.ext am);have jy:=LH (gl.ext am);have gp:=LH g2;have ls:=LH ce;have lr:=LH (fg.below am);have l2:w.heap.size+1<wr.heap.size:=gl.lt;have l0:w.heap.size+1<U:=AA
   have dm:=LH cd;have CP:=LH (Zxi A5 c5 O A9 c9 (q*Zx (Zv G) l (n-j)) X9 (fg.below am) ce (by rw[cd];exact fm));clear f bh ay p9 q9 am g2 ce b9 kl fv cd hm;rw[h6];clear fc h6 x1 x2 xl z1 zl CF;generalize u 0=k0 at *;generalize u 1=k1 at *;generalize u 2=k2 at *;generalize u 3=k3 at *;generalize u 4=k4 at *;generalize u 5=k5 at *;generalize u 6=k6 at *;generalize u 7=k7 at *;generalize u 8=k8 at *;generalize u 9=k9 at *;clear u;generalize q*Zx (Zv G) l (n-j)=qf at *;have q2:X9.cell? ⟨U,2,none⟩=some (.slice A5 (limbs O).length c5):=b8.cell 2;have ul:=b8.lt;have z0:X9.cell? ⟨kh,0,none⟩=some (.slice A9 (limbs qf).length c9):=gp.cell 0;have zl:=gp.lt;go_wp2_with fail;refine CP.out.mono ?_;rintro e b2⟨ak,al,rfl,fy,cu⟩;rw[dm] at fy;have bo:=b8.ext cu;have lh:b2.cell? ⟨U,2,none⟩=some (.slice A5 (limbs O).length c5):=bo.cell 2;have li:=bo.frozen 2;have lk:=bo.lt;have dx:=Off.of_set b2 U 2 (.slice ak (limbs (O+qf)).length al);have di:Hid (Blk (b2.setCell ⟨U,2,none⟩ (.slice ak (limbs (O+qf)).length al)) U 125 #[.int .i64 ((M.length:Int)+(V.length:Int)),.int .i64 (n:Int),.slice ak (limbs (O+qf)).length al]):=LH (bo.set 2 (.slice ak (limbs (O+qf)).length al));have jr:Hid (Zq .u32 (b2.setCell ⟨U,2,none⟩ (.slice ak (limbs (O+qf)).length al)) ak (limbs r).length al (limbs r)):=LH (fy.nkept (Zu.of_off dx λp f o z hc=>by
    rw[f,bo.cell o] at hc;rcases o with _ | _ | _ | o <;> cases hc))
   have bm:Hid (Blk (b2.setCell ⟨U,2,none⟩ (.slice ak (limbs (O+qf)).length al)) (w.heap.size+1) 125 #[.int .i64 0,.int .i64 0,.slice none 0 0]):=dx.blk (jy.ext cu) AA;have gc:Hid (Below w w (b2.setCell ⟨U,2,none⟩ (.slice ak (limbs (O+qf)).length al))):=LH ((Zz gd cu).trans (dx.is_below (BD gd.size cu.size) λp f=>by rw[f];omega));clear bo dx fy cu q2 ul z0 zl CP;go_upto_region 15 with fail;clear lh li lk;generalize b2.setCell ⟨U,2,none⟩ (.slice ak (limbs (O+qf)).length al)=b3 at *;have q0:b3.cell? ⟨U,0,none⟩=some (.int .i64 ((M.length:Int)+(V.length:Int))):=di.cell 0;have q1:b3.cell? ⟨U,1,none⟩=some (.int .i64 (n:Int)):=di.cell 1;have q2:b3.cell? ⟨U,2,none⟩=some (.slice ak (limbs (O+qf)).length al):=di.cell 2;have ul:=di.lt;have o0:b3.cell? ⟨w+1,0,none⟩=some (.int .i64 0):=bm.cell 0;have o1:b3.cell? ⟨w+1,1,none⟩=some (.int .i64 0):=bm.cell 1;have o2:b3.cell? ⟨w+1,2,none⟩=some (.slice none 0 0):=bm.cell 2;have mq:=bm.frozen 0;have mr:=bm.frozen 1;have ms:=bm.frozen 2;have ol:=bm.lt;have j1:=LH (((bm.set 0 (.int .i64 ((M.length:Int)+(V.length:Int)))).set 1 (.int .i64 (n:Int))).set 2 (.slice ak (limbs (O+qf)).length al));have ho:=((Off.of_set b3 (w.heap.size+1) 0 (.int .i64 ((M.length:Int)+(V.length:Int)))).trans (Off.of_set _ (w.heap.size+1) 1 (.int .i64 (n:Int))) λ_ _ h=>h).trans (Off.of_set _ (w.heap.size+1) 2 (.slice ak (limbs (O+qf)).length al)) λ_ _ h=>h;have ju:=LH (jr.nkept (Zu.of_off ho λp f o z hc=>by
    rw[f,bm.cell o] at hc;rcases o with _ | _ | _ | o <;> cases hc))
   have jo:=LH (gc.trans (ho.is_below gc.size λp f=>by rw[f];exact DP _));clear ho;go_wp2_with fail;refine AW (AY (p:=8) AB _ _ (w.heap.size+1) 125 #[.int .i64 ((M.length:Int)+(V.length:Int)),.int .i64 (n:Int),.slice ak (limbs (O+qf)).length al] (0,0) _ rfl j1 underlying125 rfl AB) rfl ?_;exact⟨jo,ak,al,by rw[dm];first | rfl | simp,ju⟩
theorem Zuq{a:World}{h:GH}{G:Gr}{f b:Nat}(d:TbG a h G At f b tab)(c:Xq G):∀m,RTC a h G At f b m/\RFC a h G At f b m
 | 0=>by
   have h0:RTC a h G At f b 0:=by
    intro s n r u z l o w j h0 p g;obtain⟨i,x,q,t,_,_,_,_,rfl⟩:=g;rw[AZ] at j;omega
   exact⟨h0,Zxj d c 0 h0⟩
 | m+1=>by
   have k:=Zuq d c m;have h1:=rf_frank d c m k.2;exact⟨h1,Zxj d c (m+1) h1⟩
theorem rf_Rank(h:GH)(G:Gr)(A:Option Addr)(c:Nat)(t:List Int)(w:World)(hg:Yf w h G)(h1:h.n1<=100)(M:h.n2<=100)(N:h.n3<=100)(ht:Za .i64 w A t.length c t)(hl:t.length<=400):
 Calls prog 40 #[GV h G.start,.slice A t.length c] w (Jj G t w):=by
 obtain⟨a1,n1,c1,a2,n2,c2,a3,n3,c3⟩:=h;simp only[] at h1 M N;have Hg:=LH hg;have a0:=Zy w (.cells #[.slice a1 n1 c1,.slice a2 n2 c2,.slice a3 n3 c3,.int .i64 G.start] 26);have bs:=Y1.new w 26 ⟨a1,n1,c1,a2,n2,c2,a3,n3,c3⟩ G.start;have HT:=LH ht;have gl:=ht.cap;clear hg ht;go_enter func40,ntmps40;have⟨z5,z0,z1,z2,z3⟩:=bs;simp only[] at z0 z1 z2 z3;go_upto_region 1 with fail;generalize w.alloc (.cells #[.slice a1 n1 c1,.slice a2 n2 c2,.slice a3 n3 c3,.int .i64 G.start] 26)=U at *;have CI:=B4 ⟨a1,n1,c1,a2,n2,c2,a3,n3,c3⟩ G A t.length c t U (Hg.below a0) (HT.below a0) hl h1 M N;have ca:=LH a0;have ce:=LH bs;clear a0 bs;cases Y:Xl G t with
 | none =>
   have ao:Hid (Calls prog 34 #[GV ⟨a1,n1,c1,a2,n2,c2,a3,n3,c3⟩ G.start,.slice A t.length c] U λe w'=>e = .returned (.tuple #[.slice none 0 0,.int .i64 1])/\Below U U w'):=LH (CI.mono λe w' L=>by
    obtain⟨s,⟨_,rfl⟩ | ⟨wd,ps,k,A',c',P,_⟩⟩:=L
    ·exact⟨rfl,s⟩
    rw[Y] at P;cases P)
   have Hb:Hid (Vj G t [] 1):=LH (.inl ⟨Y,rfl,rfl⟩);clear CI Y;go_wp2_with (go_at_call 34;refine ao.out.mono ?_;rintro e w6⟨rfl,ak⟩);go_ret2;exact Jj.no (Zz ca ak) Hb
 | some q =>
   obtain⟨wd,ps,k⟩:=q;have ao:Hid (Calls prog 34 #[GV ⟨a1,n1,c1,a2,n2,c2,a3,n3,c3⟩ G.start,.slice A t.length c] U λe w'=>∃A' c',e = .returned (.tuple #[.slice A' wd.length c',.int .i64 0])/\Below U U w'/\(wd.length:Int)<=9223372036854775807):=LH (CI.mono λe w' L=>by
    obtain⟨s,⟨P,_⟩ | ⟨f9,fz,k',A',c',P,rfl,hi⟩⟩:=L
    ·rw[Y] at P;cases P
    rw[Y] at P;obtain⟨rfl,rfl,rfl⟩:wd=f9/\ps=fz/\k=k':=by simpa using P
    exact⟨A',c',rfl,s,by have:=hi.cap;omega⟩)
   have aj:=LH Y;clear CI Y;go_upto_region 4 with (first
    | (go_at_call 34
       refine ao.out.mono ?_;rintro e w6⟨Aw,cw,rfl,ak,gv⟩))
   have a8:=LH (Zz ca ak);have bi:=LH (ce.below ak);clear z0 z1 z2 z3 z5 ak ce ao;by_cases bp:10<wd.length
   case pos =>
    have Hb:Hid (Vj G t [] 5):=LH (.inr ⟨wd,ps,k,aj,.inl ⟨bp,rfl,rfl⟩⟩);have fj:(10:Int)<(wd.length:Int):=AA
    clear bp;go_wp2_with fail;go_ret2;exact Jj.no a8 Hb
   have Hn:Hid (wd.length<=10):=LH AA;have fj:¬(10:Int)<(wd.length:Int):=AA
   have⟨z5,z0,z1,z2,z3⟩:=bi.out;simp only[] at z0 z1 z2 z3;have CC:=Lj ⟨a1,n1,c1,a2,n2,c2,a3,n3,c3⟩ G (wd.length:Int) w6 (Hg.below a8) h1 M N;have c8:=Kg G (wd.length:Int);obtain⟨cn,bu⟩:∃cn,Z2 G (wd.length:Int)=cn:=⟨_,rfl⟩;obtain⟨zs,er⟩:=cn;rw[bu] at CC c8;have CC:=LH CC;have ar:=LH bu;clear bu c8 bp;go_upto_region 7 with (first
    | (go_at_call 20
       refine CC.out.mono ?_;rintro e W3⟨A3,gi,rfl,fq,bq⟩))
   have a9:=LH (Zz a8 bq);have cf:=LH (bi.below bq);clear fq bq CC z0 z1 z2 z3 z5 bi;by_cases a5:er=0
   case neg =>
    have gt:((er:Int) != 0)=true:=by rw[BM];omega
    have Hb:Hid (Vj G t [] er):=LH (.inr ⟨wd,ps,k,aj,.inr (.inl ⟨Hn,by rw[ar];exact a5,rfl,by rw[ar]⟩)⟩);clear a5;go_wp2_with fail;go_ret2;exact Jj.no a9 Hb
   subst a5;obtain⟨L,gs,u,r,hu,b6⟩:=Zxc aj;have b0:=Ztb aj;obtain⟨cy,hP,dk,fm,fn⟩:=Zzy L Hn b0 (by rw[ar]);have bv:=hu.inside;have bx:u.length=t.length:=by rw[b6];simp
   have gu:0<t.length:=by rw[<-bx];exact List.length_pos_iff.2 bv.1
   have HU:=LH hu;have cm:=LH b6;have fb:=LH bv.2;have av:=LH bx;have HP:=LH hP;have fe:=LH L;have d7:=LH cy;have ff:=LH dk;have cl:=LH b0;clear L b0 cy hP dk fm fn bv bx hu b6;have hO:=(Dx fe cl d7.cyc).2;have HO:=LH hO;have⟨z5,z0,z1,z2,z3⟩:=cf.out;simp only[] at z0 z1 z2 z3;have b9:=LH (Dk ⟨a1,n1,c1,a2,n2,c2,a3,n3,c3⟩ G W3 (Hg.below a9) h1 M N);clear hO;go_upto_region 10 with (first
    | (go_at_call 58
       refine b9.out.mono ?_;rintro e W5⟨c0,⟨di,er,a5,rfl⟩ | ⟨_,⟨z,l,D,B,m,E,C,n,F⟩,Ak,nk,ck,rfl,c9,m1,m2,m3,dd⟩⟩
       ·rw[cl] at di;cases di
       have cb:=LH (Zz a9 c0);have cg:=LH c9;have ci:=LH dd;clear c0 c9 dd))
   have m1:l<=24:=m1;have m2:m<=16:=m2;have m3:n<=40:=m3;have ae:=Zy W5 (.cells #[.slice z l D,.slice B m E,.slice C n F,.int .i64 (Zi G).start] 26);have c7:=Blk.new W5 26 #[.slice z l D,.slice B m E,.slice C n F,.int .i64 (Zi G).start];have ba:=LH (Zz cb ae);have d9:=LH (cg.below ae);have bk:=LH (ci.below ae);clear cb cg ci ae z0 z1 z2 z3 z5 b9 cf;generalize W5.alloc (.cells #[.slice z l D,.slice B m E,.slice C n F,.int .i64 (Zi G).start] 26)=J at *;generalize W5.heap.size=b at *;have I:=LH c7;have d8:=LH (HT.below ba);have df:nk=(ksN G G.rules.length).length:=by
    have H:=bk.len;unfold Z6 at H;rw[BF] at H;exact H.symm
   have bm:=LH df;have gq:=bk.cap;have fa:Hid ((prog.info? 3).map (λi=>(i.zero,i.size,i.bytes))=some (some (.int .i64 0),1,8)):=LH AB;clear c7 df;go_wp2_with fail;go_loopw [11,12] (λo i wr=>∃(j:Nat) (R:Option Addr) (V:Nat),i = .int .i64 (j:Int)/\j<=t.length/\o = .slice R j V/\Hid (M4 wr J R j V ((u.take j).map λi:Nat=>(i:Int)))/\Hid (Below J J wr)) (λ_ i _=>t.length-(intOf i).toNat)
   case atStart=>exact⟨0,none,0,rfl,AV _,rfl,LH ⟨BJ _ _ _ _,λg hg=>by cases hg⟩,LH (AL _ _)⟩
   obtain⟨j,R,V,rfl,hj,rfl,ap,aq⟩:=hrel;by_cases bw:j<t.length
   case pos =>
    obtain⟨x,hx⟩:∃x,u[j]? = some x:=⟨_,AN (by rw[av];exact bw)⟩;have dn:x<nk:=by
     have a:=fb x (AM hx);rw[Fu,<-bm] at a;exact a
    have Hx:=LH hx;clear hx;go_wp2_with fail;go_loopw [11,13] (λo i wz=>∃(kk d:Nat) (Z:Option Addr) (ad:Nat),i = .int .i64 (kk:Int)/\kk<=nk/\Hid (d=if x<kk then j+1 else j)/\o = .slice Z d ad/\Hid (M4 wz J Z d ad ((u.take d).map λi:Nat=>(i:Int)))/\Hid (Below J J wz)) (λ_ i _=>nk-(intOf i).toNat)
    case atStart=>exact⟨0,j,R,V,rfl,AV _,LH (by rw[if_neg AA]),rfl,ap,aq⟩
    clear ap aq;obtain⟨kk,d,Z,ad,rfl,gr,bn,rfl,be,T⟩:=hrel;by_cases dg:kk<nk
    case neg =>
     obtain rfl:kk=nk:=AA
     obtain rfl:d=j+1:=by rw[bn,if_pos dn]
     go_wp2_with fail;go_roundw
     case rel=>exact⟨j+1,Z,ad,AF,AA,rfl,be,T⟩
     simp[intOf] <;> omega
    obtain⟨tb,tO,tv,rfl,dm,co,cq⟩:=d8.get bw;obtain rfl:((Yr G x:Nat):Int)=tv:=by
     have a:=co.out;have H:=cm.out;rw[List.map_map] at H;rw[H,By,Hx] at a;exact BI a
    have t0:=(T.cell (p:=⟨tb,tO+j,none⟩) dm).trans cq;have tl:=AK dm T.size;obtain⟨kb,ko,kv,rfl,de,cj,cp⟩:=bk.get dg;obtain rfl:((Yr G kk:Nat):Int)=kv:=by
     have a:=cj.out;unfold Z6 at a;rw[By] at a;unfold Yr;cases H:(ksN G G.rules.length)[kk]? with
     | none=>rw[H] at a;cases a
     | some y =>
       rw[H] at a;injection a with a;rw[<-a,AP,H];rfl
    have k0:=(T.cell (p:=⟨kb,ko+kk,none⟩) de).trans cp;have kl:=AK de T.size;have dc:Yr G kk=Yr G x->kk=x:=λh=>Zzr (by rw[<-bm];exact dg) (by rw[<-bm];exact dn) h;obtain⟨ax,c6⟩:∃ax,(((Yr G kk:Nat):Int)==((Yr G x:Nat):Int))=ax:=⟨_,rfl⟩;have db:(kk=x)↔ax=true:=by
     rw[<-c6,BO];exact⟨λh=>by rw[h],λh=>dc AA⟩
    have au:=LH db;have bc:=Yt wr;clear co cq cj cp dc db;go_upto_region 17 with fail;refine Zs AB AB ?_;repeat (go_big_quiet_step (fail))
    refine BK ?_;rintro _⟨v,rfl⟩;have bt:=Zr wr v;have bf:=LH (M4.off (S:=λ_=>False) be (Off.of_below bt) λ_ _ h=>h);have bb:=LH (Zz T bt);clear t0 tl k0 kl bc bt c6 be T;generalize bl wr v=wv at *;have a4:=bb.size;cases ax
    case true =>
     obtain rfl:kk=x:=au.2 rfl;obtain rfl:d=j:=by rw[bn,if_neg AA]
     have dj:(u.take d).map (λi:Nat=>(i:Int))++[((kk:Nat):Int)]=(u.take (d+1)).map λi:Nat=>(i:Int):=by
      rw[Ya Hx];simp
     have fd:=LH dj;have fp:d+1<=maxLen:=by unfold maxLen;omega
     clear dj au;go_wp2_with (first
      | (at_builtin;refine Nk rfl _ _ 27 rfl J 8 underlying27 fa Z d ad ((u.take d).map λi:Nat=>(i:Int)) rfl bf ((kk:Nat):Int) rfl fp AA a4 ?_;intro A5 c5 w5 b4 da ae
         have br:=Zy wv (.cells #[.int .i64 ((kk:Nat):Int)] 3);have dy:Hid (Below J J w5):=LH ((Zz bb br).trans ((Off.of_grown da).is_below (BD a4 br.size) λq hq=>(bf.blk hq).1));rw[fd] at b4;have d4:=LH b4;clear b4 da ae br))
     go_roundw
     case rel=>exact⟨kk+1,d+1,A5,c5,AF,AA,LH (by rw[if_pos AA]),rfl,d4,dy⟩
     simp[intOf] <;> omega
    have gm:¬kk=x:=λh=>by have:=au.1 h;cases this
    clear au;go_wp2_with fail;go_roundw
    case rel=>exact⟨kk+1,d,Z,ad,AF,AA,LH (by rw[bn];by_cases h:x<kk;(rw[if_pos h,if_pos AA]);(rw[if_neg h,if_neg AA])),rfl,bf,bb⟩
    simp[intOf] <;> omega
   obtain rfl:j=t.length:=AA
   have cx:Za .i64 wr R (u.length+([]:List Int).length) V (u.map (λi:Nat=>(i:Int))++[]):=by
    have h1:=Yl ap.1;rw[<-av,List.take_length] at h1;rw[DR,DG,DH];exact h1
   have d5:=LH cx;have fs:=HP.fits.st;have bz:Zp (-1-(Zi G).start)=(Zi G).start.toNat:=by unfold Zp;omega
   have cz:UnT (Zi G) (Zp (-1-(Zi G).start)) wd.length r u:=by rw[bz];exact HU
   have dh:Zp (-1-(Zi G).start)<(Zi G).nons.length:=by rw[bz];omega
   have dl:-1-(Zi G).start<0:=AA
   have O:=aq.out;have a4:=O.size;have ch:=LH (d9.below O);have CM:Hid (∀X,Below wr wr X->Calls prog 54 #[.agg #[.slice z l D,.slice B m E,.slice C n F,.int .i64 (Zi G).start],.int .i64 (wd.length:Int)] X λe w'=>Below wr wr w'/\∃A c tab,e = .returned (.slice A (wd.length+1) c)/\Hid (Zyq w' A (wd.length+1) c (Zi G).nons.length tab)/\Hid (∀k,k<=wd.length->∀i,i<(Zi G).nons.length->tab k i=Zv (Zi G) (-1-(i:Int)) k)):=LH λX s=>(Ztz ⟨z,l,D,B,m,E,C,n,F⟩ (Zi G) wd.length X (ch.below s) (by show l<=100;omega) (by show m<=100;omega) (by show n<=100;omega) HP HO (by have:=Hn.out;omega)).mono λe w' ⟨h1,A,c,tab,M,N,a⟩=>⟨Zz s h1,A,c,tab,M,LH N,LH a⟩;have dx:Hid (∀W7 At ct tab,Below wr wr W7->Hid (Zyq W7 At (wd.length+1) ct (Zi G).nons.length tab)->Hid (∀k,k<=wd.length->∀i,i<(Zi G).nons.length->tab k i=Zv (Zi G) (-1-(i:Int)) k)->∀X,Below W7 W7 X->Calls prog 82 #[.agg #[.slice z l D,.slice B m E,.slice C n F,.int .i64 (Zi G).start],.slice At (wd.length+1) ct,.slice R t.length V] X λe w'=>Below wr wr w'/\∃A c,e = .returned (.agg #[.int .i64 (u.length:Int),.int .i64 (wd.length:Int),.slice A (limbs r).length c])/\Hid (Zq .u32 w' A (limbs r).length c (limbs r))):=LH (by
    intro W7 At ct tab al bg bh X c4;have fk:TbG W7 ⟨z,l,D,B,m,E,C,n,F⟩ (Zi G) At (wd.length+1) ct tab:=⟨ch.below al,bg,λk hk i hi=>bh k AA i hi,by have:=Hn.out;omega,by show l<=100;omega,by show m<=100;omega,by show n<=100;omega⟩;have h1:=(Zuq fk HP u.length).1 (-1-(Zi G).start) wd.length r u [] R V X (AJ _) dl dh cz ff AA (d5.below al) c4;rw[DR,DG,av] at h1;refine h1.mono λe w' L=>?_;obtain⟨M,A,c,N,a⟩:=L;exact⟨Zz al (Zz c4 M),A,c,by rw[av];exact N,LH a⟩)
   have xl:b<wr.heap.size:=AK I.lt a4;have x0:wr.cell? ⟨b,0,none⟩=some (.slice z l D):=(O.cell (p:=⟨b,0,none⟩) I.lt).trans (I.cell 0);have x1:wr.cell? ⟨b,1,none⟩=some (.slice B m E):=(O.cell (p:=⟨b,1,none⟩) I.lt).trans (I.cell 1);have x2:wr.cell? ⟨b,2,none⟩=some (.slice C n F):=(O.cell (p:=⟨b,2,none⟩) I.lt).trans (I.cell 2);have x3:wr.cell? ⟨b,3,none⟩=some (.int .i64 (Zi G).start):=(O.cell (p:=⟨b,3,none⟩) I.lt).trans (I.cell 3);have HS:Hid (∀f,Below wr wr f->f.cell? ⟨b,0,none⟩=some (.slice z l D)/\f.cell? ⟨b,1,none⟩=some (.slice B m E)/\f.cell? ⟨b,2,none⟩=some (.slice C n F)/\f.cell? ⟨b,3,none⟩=some (.int .i64 (Zi G).start)/\Below wr wr f):=LH λf s=>⟨by rw[s.cell (by exact xl)];exact x0,by rw[s.cell (by exact xl)];exact x1,by rw[s.cell (by exact xl)];exact x2,by rw[s.cell (by exact xl)];exact x3,s⟩;have dz:=LH ((ba.trans (O.mono ba.size)));have kf:∀v0 v1 v2 W,(Instr.field 125 (.agg #[v0,v1,v2]) 2).run prog W = .ok v2 W:=λ_ _ _ _=>AB
   clear cx ap cz fs bz dh dl bw O aq;go_upto_region 19 with fail;go_region_held3 (λf=>f.cell? ⟨b,0,none⟩=some (.slice z l D)/\f.cell? ⟨b,1,none⟩=some (.slice B m E)/\f.cell? ⟨b,2,none⟩=some (.slice C n F)/\f.cell? ⟨b,3,none⟩=some (.int .i64 (Zi G).start)/\Below wr wr f)
    ((refine HS _ ?_;(repeat (first | assumption | exact AL _ _ | refine Below.drew ?_ | refine Zo ?_ _));done))
    (first
      | (go_at_call 54;refine (CM.out _ (by (repeat (first | assumption | exact AL _ _ | refine Below.drew ?_)))).mono ?_;rintro e w7⟨al,At,ct,tab,rfl,bg,bh⟩)
      | (go_at_call 82;refine (dx.out w7 At ct tab al bg bh _ (by (repeat (first | assumption | exact AL _ _ | refine Below.drew ?_)))).mono ?_;rintro e w8⟨fl,Ar,cr,rfl,fc⟩))
   go_wp2_with fail;go_ret2;exact⟨Zz dz fl,limbs r,0,Ar,cr,rfl,fc,.inr ⟨wd,ps,k,aj,.inr (.inr ⟨Hn,by rw[ar],rfl,u,r,HU,cm,rfl⟩)⟩⟩
theorem rankRanks_walk(h:GH)(G:Gr)(Ar:Option Addr)(N cr:Nat)(zs:List Int)(w:World)(ae:GrIn w h G)(L:Nj .i64 w Ar N cr zs)(E:Q2 w):
 Calls prog 11 #[GV h G.start,.slice Ar N cr] w λe w'=>e = .returned (.bool true)/\Below w w w':=by
 obtain⟨ss,d,ag⟩:=L.ints;obtain rfl:=d.len;have aq:=d.cap;obtain⟨c,M,af⟩:=ae;obtain⟨a1,n1,c1,a2,n2,c2,a3,n3,c3⟩:=h;have y:G.terms.length=n1:=c.terms.len;have z:G.nons.length=n2:=c.nons.len;have A:G.rules.length=n3:=c.rules.len;have k:=Zy w (.cells #[.slice a1 n1 c1,.slice a2 n2 c2,.slice a3 n3 c3,.int .i64 G.start] 26);have F:=Y1.new w 26 ⟨a1,n1,c1,a2,n2,c2,a3,n3,c3⟩ G.start;have CA:=LH Zyk;have j:=LH c;have W:=LH M;have v:=LH d;have t:=LH E;clear af c M L ag d E;go_enter func11,ntmps11;go_wp2_with fail;generalize w.alloc (.cells #[.slice a1 n1 c1,.slice a2 n2 c2,.slice a3 n3 c3,.int .i64 G.start] 26)=X at *;refine (CA.out X (t.out.below k)).mono ?_;rintro e Y⟨rfl,m⟩;have l:=Zz k m;have q:=F.below m;have⟨y5,y0,y1,y2,y3⟩:=q;simp only[] at y0 y1 y2 y3;go_wp2_with fail;refine (Cu ⟨a1,n1,c1,a2,n2,c2,a3,n3,c3⟩ G Y (j.out.below l)).mono ?_;rintro e Z⟨rfl,n⟩;have B:=Zz l n;have H:=q.below n;have a:=LH B;have u:=LH H;clear y0 y1 y2 y3 y5 F q m n k l B H;have⟨y5,y0,y1,y2,y3⟩:=u.out;simp only[] at y0 y1 y2 y3;rcases r:G.great with _ | _
 case true =>
  clear r;go_wp2_with fail;go_ret;exact⟨rfl,a⟩
 obtain⟨l1,l2,l3,_⟩:=Kv r;rw[y] at l1;rw[z] at l2;rw[A] at l3;clear r y z A;by_cases ap:(310:Int)<(ss.length:Int)
 case pos =>
  go_wp2_with fail;go_ret;exact⟨rfl,a⟩
 go_wp2_with fail;have b:=Cs ⟨a1,n1,c1,a2,n2,c2,a3,n3,c3⟩ G Ar cr ss Z (j.below a) W (t.below a) (by simp only[];omega) (by simp only[];omega) (by simp only[];omega) (v.below a) AA;refine b.mono ?_;rintro e W3⟨o,f,er,O,k3,rfl,I,C⟩;have g:=LH (Zz a o);have V:=LH (u.below o);have s:=LH I;have U:=LH C;clear y0 y1 y2 y3 y5 b o I C;have⟨y5,y0,y1,y2,y3⟩:=V.out;simp only[] at y0 y1 y2 y3;go_wp2_with fail;have b:=rf_Rank ⟨a1,n1,c1,a2,n2,c2,a3,n3,c3⟩ G Ar cr ss W3 (j.below g) (by simp only[];omega) (by simp only[];omega) (by simp only[];omega) (v.below g) AA;refine b.mono ?_;rintro e W4⟨p,rs',er',P,k4,rfl,J,D⟩;obtain⟨rfl,rfl⟩:=U.one D;have R:=LH (Zz g p);have S:=LH (s.below p);have T:=LH J;clear y0 y1 y2 y3 y5 b p J D s;go_wp2_with fail;have x:=Zya O f.length k3 f P f.length k4 f W4 S T;rw[beq_self_eq_true] at x;refine x.mono ?_;rintro e W5⟨rfl,hS⟩;go_wp2_with fail;go_ret;exact⟨AE,Zz R (hS.below _)⟩
