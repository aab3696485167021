/- how many forests any symbols have: the program's Of, walked. -/
import Derived.Test.YtaagompdgiobeaaGreatDoorV22
import Derived.Test.YtaagompdgiobeaaGreatDoorV23
set_option linter.all false
set_option maxHeartbeats 1500000
set_option maxRecDepth 100000
namespace Go.Proofs.YtaagompdgiobeaaGreatDoor
open Go.RowKit Go.Proofs.Tryz
variable{k:BkH}{h:GH}{G:Gr}
theorem Zus(h:GH)(G:Gr)(n:Int)(w:World)(hg:Yf w h G)(z:∀t∈G.terms,t.name.size<=maxLen)(ak:Q2 w)(h1:h.n1<=100)(h2:h.n2<=100)(h3:h.n3<=100):
 Calls prog 22 #[GV h G.start,.int .i64 n] w (Xr w (Z2 G n)):=by
 obtain⟨a1,n1,c1,a2,n2,c2,a3,n3,c3⟩:=h;simp only[] at h1 h2 h3;have Hg:=LH hg;have N:=LH z;have az:=LH ak;have O:=Zy w (.cells #[.slice a1 n1 c1,.slice a2 n2 c2,.slice a3 n3 c3,.int .i64 G.start] 26);have U:=Y1.new w 26 ⟨a1,n1,c1,a2,n2,c2,a3,n3,c3⟩ G.start;clear hg z ak;go_enter func22,ntmps22;have⟨z5,z0,z1,z2,z3⟩:=U;simp only[] at z0 z1 z2 z3;go_upto_region 1 with fail;generalize w.alloc (.cells #[.slice a1 n1 c1,.slice a2 n2 c2,.slice a3 n3 c3,.int .i64 G.start] 26)=W0 at *;have b:=LH (J4 ⟨a1,n1,c1,a2,n2,c2,a3,n3,c3⟩ G W0 (Hg.below O) N (by simp only[];omega) (by simp only[];omega));have F:=LH O;have a0:=LH U;have k:(G.right=false\/n<0\/10<n)->Z2 G n=([],1):=λhh=>by unfold Z2;rw[if_pos hh]
 have M:Hid (∀w' g,Below w w w'->Z2 G n=([],g)->Xr w (Z2 G n) (.returned (.tuple #[.slice none 0 0,.int .i64 (g:Int)])) w'):=LH λw' g hb he=>by rw[he];exact⟨none,0,rfl,Zq.nil _ _ _ _ AA,hb⟩
 clear O U;cases f:G.right
 case false =>
  have I:=LH (k (.inl f));rw[f] at b;clear k;go_wp2_with (go_at_call 38;refine b.out.mono ?_;rintro e w6⟨rfl,d⟩);go_ret2;exact M _ 1 (Zz F d) I
 rw[f] at b;by_cases V:0<=n/\n<=10
 case neg =>
  have I:=LH (k (by rcases (AA:n<0\/10<n) with h | h;exact .inr (.inl h);exact .inr (.inr h)));have l:(decide (0<=n)&&decide (n<=10))=false:=by rw[Bool.and_eq_false_iff,AZ,AZ];omega
  have a:=λX=>Ld n X;rw[l] at a;have E:=LH a;clear k l a V;go_wp2_with (first
   | (go_at_call 38;refine b.out.mono ?_;rintro e w6⟨rfl,d⟩)
   | (go_at_call 39;refine (E.out _).mono ?_;rintro e w7⟨rfl,rfl⟩))
  go_ret2;exact M _ 1 (Zz F d) I
 have be:¬n<0:=AA
 have bf:¬10<n:=AA
 have l:(decide (0<=n)&&decide (n<=10))=true:=by rw[AU,BA,BA];exact V
 have a:=λX=>Ld n X;rw[l] at a;have E:=LH a;clear l a V;have Hr:=LH f;have ap:Z2 G n=if Xp G=false then ([],0) else Wi (Zi G) [-1-(Zi G).start] n:=by
  unfold Z2;rw[if_neg];rintro (h | h | h)
  ·rw[f] at h;cases h
  ·exact be h
  exact bf h
 have L:=LH ap;clear k ap f;go_wp2_with (first
  | (go_at_call 38
     refine b.out.mono ?_;rintro e W1⟨rfl,S⟩;obtain⟨y5,Y,Z,y2,y3⟩:=a0.below S;simp only[] at Y Z y2 y3)
  | (go_at_call 39;refine (E.out _).mono ?_;rintro e w7⟨rfl,rfl⟩))
 have P:=Zz F S;clear b z0 z1 z2 z3 z5 S;have r:=Zuf ⟨a1,n1,c1,a2,n2,c2,a3,n3,c3⟩ G W1 (Hg.below P) N h1 h2 h3;unfold Dh at r;refine r.mono ?_;rintro e W3⟨T,⟨ar,g,bc,rfl⟩ | ⟨m,h',Ak,nk,ck,rfl,an,m1,m2,m3⟩⟩
 ·have j:=Zz P T;have bq:(g != 0)=true:=by rw[BK];exact bc
  have J:Hid (Z2 G n=([],0)):=LH (by rw[L,if_pos ar]);clear r ar Y Z y2 y3 y5;go_wp2_with fail;go_ret2;exact M _ 0 (j.trans ((Zy W3 _).mono j.size)) J
 have j:=Zz P T;have W:G.right=true/\(Zt G).getD G.start.toNat false=true:=by unfold Xp at m;rw[AU] at m;exact m
 have ai:=Ju W.1 W.2;have J:Hid (Z2 G n=Wi (Zi G) [-1-(Zi G).start] n):=LH (by rw[L,if_neg (by rw[m];simp)]);obtain⟨o,A,u,p,B,v,q,C,x⟩:=h';have a5:Hid (∀t∈(Zi G).terms,t.name.size<=maxLen):=LH (by rw[Db];exact N);generalize Zi G=H at *;obtain⟨bu,bv,bw⟩:=Zsk ai;clear r Y Z y2 y3 y5 m W ai L;simp only[] at m1 m2 m3;have R:=Zy W3 (.cells #[.slice o A u,.slice p B v,.slice q C x,.int .i64 H.start] 26);have al:=Y1.new W3 26 ⟨o,A,u,p,B,v,q,C,x⟩ H.start;have ah:=Zz j R;have ao:=an.below R;go_upto_region 4 with fail;generalize W3.alloc (.cells #[.slice o A u,.slice p B v,.slice q C x,.int .i64 H.start] 26)=c at *;generalize W3.heap.size=gH at *;have a4:=LH ao;have ad:=LH ah;have⟨x5,x0,x1,x2,x3⟩:=al;simp only[] at x0 x1 x2 x3;have br:IntKind.i64.wrap (-1-H.start)=-1-H.start:=Cc _ AA;have y:=Zy c (.cells #[.int .i64 (-1-H.start)] 3);have hL:Za .i64 (c.alloc (.cells #[.int .i64 (-1-H.start)] 3)) (some ⟨c,0,none⟩) 1 1 [-1-H.start]:=N6 c 3 (ints .i64 [-1-H.start]) 1 _ rfl rfl AC;have D:=LH (tr_cOf ⟨o,A,u,p,B,v,q,C,x⟩ H (some ⟨c,0,none⟩) 1 [-1-H.start] n (c.alloc (.cells #[.int .i64 (-1-H.start)] 3)) (a4.below y) a5 (az.below (Zz ad y)) (by simp only[];omega) (by simp only[];omega) (by simp only[];omega) hL (λs z=>by rw[BP.1 z];unfold U3;omega));have aw:=LH (Zz ad y);simp only[AY,DE,BF] at D;clear hL y ao ah R an j T al;go_wp2_with fail;refine D.out.mono ?_;rintro e W6⟨A6,c6,rfl,aq,d⟩;have ay:=LH aq;have ax:=LH (Zz aw d);clear aq d D;generalize Wi H [-1-H.start] n=bt at *;go_wp2_with fail;go_ret2;rw[J];exact⟨A6,c6,rfl,ay,ax⟩
theorem tr_mtree{V:World}(hB:BkG V h G)(Z:Xq G)(m:Nat)(HF:FC V k h G m):TC V k h G (m+1):=by
 intro mk J s n r t Ar cr w fy h0 hl hT db W hr a;obtain⟨T,x0,q,t1,an,dq,hU,dm,rfl⟩:=hT;have hq:q<Zx (Zv G) x0.right n:=hU.lt Z (InG.at Z.fits an);have b3:Z0 (Zv G) G.rules (Zp s) (T+1) n<=Zv G s n:=by
  rw[Uu Z h0 hl];exact Kj _ _ _ _ _
 rw[Y3 _ an,if_pos dq] at b3;have gn:T<G.rules.length:=(AO.1 an).1;have fz:x0.left=(Zp s:Int):=by
  have:=(Z.fits.left x0 (AN an)).1;omega
 have d3:Hid (∀(j:Nat) (x:Rul),G.rules[j]? = some x->J1 x.right n/\(∀s∈x.right,G.has s=true)/\0<=x.left):=LH λj x hx=>by
  have h1:=Bg Z.fits (AN hx) W;exact⟨h1.1,h1.2,(Z.fits.left x (AN hx)).1⟩
 have cw:Hid (∀(j:Nat) (x:Rul),G.rules[j]? = some x->Z0 (Zv G) G.rules (Zp s) (j+1) n=Z0 (Zv G) G.rules (Zp s) j n+(if x.left.toNat=Zp s then Zx (Zv G) x.right n else 0)):=LH λj x hx=>Y3 _ hx _ _;have ct:Hid (∀j,j<=T->Z0 (Zv G) G.rules (Zp s) j n<=Z0 (Zv G) G.rules (Zp s) T n):=LH λj hj=>Vf _ _ _ _ hj;have dy:Hid (InG G x0.right):=InG.at Z.fits an;obtain⟨S,A,c,ar⟩:=a;obtain⟨a1,n1,c1,a2,n2,c2,a3,n3,c3⟩:=h;obtain⟨gc,gt⟩:=k;have fw:n3=G.rules.length:=hB.at_.rules.len.symm;have gj:=hB.at_.rules.cap;have gq:=Z.fits.n3.2;have HB:=LH hB;have dx:=LH HF;have HU:=LH hU;have bt:=LH an;have cp:=LH db;have HR:=LH hr;have HM:=LH ar;have cy:=LH b3;have a6:=LH dm;have Hq:=LH hq;have g0:w.cell? ⟨mk,0,none⟩=some (.pointer (some ⟨gc,0,none⟩)):=ar.box.cell 0;have N:=ar.box.lt;have b2:w.cell? ⟨gc,2,none⟩=some (.slice a3 n3 c3):=ar.bk.box.cell 2;have fd:=ar.bk.box.lt;clear hB Z HF hU an dq db hr ar b3 dm hq h0 hl;go_enter func49,ntmps49;go_wp2_with fail;go_loopw [3,21] (λv i wr=>∃(j E:Nat) (Av:Option Addr) (cv:Nat) (S:Nat->Prop) (A:Option Addr) (c:Nat),i = .int .i64 (j:Int)/\j<=T/\v = .slice Av (limbs E).length cv/\Hid (r=Z0 (Zv G) G.rules (Zp s) j n+E)/\Hid (Zq .u32 wr Av (limbs E).length cv (limbs E))/\Hid (Me V ⟨gc,gt⟩ ⟨a1,n1,c1,a2,n2,c2,a3,n3,c3⟩ G mk J S A c wr)/\Hid (Zu w wr)) (λ_ i _=>n3-(intOf i).toNat)
 case atStart=>exact⟨0,r,Ar,cr,S,A,c,rfl,AS _,rfl,LH (by rw[Qb];omega),HR,HM,LH (Zu.refl _)⟩
 obtain⟨j,E,Av,cv,S',A',c',rfl,hj,rfl,ap,HN,ck,ch⟩:=hrel;clear g0 N b2 fd HM HR;have M:=ck.out;obtain⟨bq,oq,x,O,R,rfl,be,Hx,q0,q1,q2,c6⟩:=HB.out.at_.rules.get (j:=j) (by show j<n3;omega);have e0:=(M.bk.base.cell (p:=⟨bq,oq+j*3,none⟩) be).trans q0;have e1:=(M.bk.base.cell (p:=⟨bq,oq+j*3+1,none⟩) be).trans q1;have e2:=(M.bk.base.cell (p:=⟨bq,oq+j*3+2,none⟩) be).trans q2;have bz:=AK be M.bk.base.size;have cf:=LH c6;have g0:wr.cell? ⟨mk,0,none⟩=some (.pointer (some ⟨gc,0,none⟩)):=M.box.cell 0;have N:=M.box.lt;have bd:=Zy wr (.cells #[.int .i64 x.left,.slice O x.right.length R,.int .i64 x.prec] 60);have au:=Blk.new wr 60 #[.int .i64 x.left,.slice O x.right.length R,.int .i64 x.prec];have P:=LH (M.below bd);have cg:=LH (ch.out.trans (Zu.of_below bd));have bn:=LH (HN.out.below bd);have bi:=d3.out j x Hx.out;have ci:=LH bi.1;have cq:=LH bi.2.1;have gp:=bi.2.2;clear M q0 q1 q2 c6 bd bi ck ch HN;go_upto_region 4 with fail;clear g0 N e0 e1 e2 bz;have d0:Hid (wr.heap.size=wr.heap.size):=rfl;generalize wr.alloc (.cells #[.int .i64 x.left,.slice O x.right.length R,.int .i64 x.prec] 60)=W1 at *;generalize wr.heap.size=N at *;clear d0;have z0:W1.cell? ⟨N,0,none⟩=some (.int .i64 x.left):=au.cell 0;have z1:W1.cell? ⟨N,1,none⟩=some (.slice O x.right.length R):=au.cell 1;have z2:W1.cell? ⟨N,2,none⟩=some (.int .i64 x.prec):=au.cell 2;have cl:=au.lt;have az:=LH au;clear au;by_cases aw:x.left=(Zp s:Int)
 case neg =>
  have fx:(x.left != (Zp s:Int))=true:=by simpa using aw
  have fr:j≠T:=by
   rintro rfl;have e:=Hx.out.symm.trans bt.out;injection e with e;subst e;exact aw fz
  have bs:Hid (r=Z0 (Zv G) G.rules (Zp s) (j+1) n+E):=LH (by
   rw[cw.out j x Hx.out,if_neg AA];exact ap.out)
  clear aw;go_wp2_with fail;go_roundw
  case rel=>exact⟨j+1,E,Av,cv,S',A',c',AF,AA,rfl,bs,bn,P,cg⟩
  simp[intOf] <;> omega
 have fx:(x.left != (Zp s:Int))=false:=by simpa using aw
 have d9:=LH aw;obtain⟨y,Hy⟩:∃y,Hid (Zx (Zv G) x.right n=y):=⟨_,LH rfl⟩;obtain⟨F,bb,a5⟩:∃F bb,Hid ((E<y/\F=E/\bb=false)\/(y<=E/\F=E-y/\bb=true)):=by
  by_cases hh:E<y
  ·exact⟨_,_,LH (.inl ⟨hh,rfl,rfl⟩)⟩
  exact⟨_,_,LH (.inr ⟨AA,rfl,rfl⟩)⟩
 have dn:E<big:=by
  have h1:=ap.out;have H:=a6.out;have h3:=cy.out;have h4:=cp.out;have h5:=Hq.out;have h6:=ct.out j hj;omega
 have d7:=LH dn;clear aw dn;go_upto_region 6 with fail;generalize decide (j<G.rules.length)=fb at *;refine Yi (Γ:=Unit) (λ_ b u X=>(Wd V ⟨gc,gt⟩ ⟨a1,n1,c1,a2,n2,c2,some ⟨bq,oq,none⟩,n3,c3⟩ G S' X/\Off (BkH.map ⟨gc,gt⟩) W1 X)/\Do b u 13 (.slice Av (limbs E).length cv)) (λX Y=>Zf X Y) () (λu=>(⟨(.pointer (some ⟨mk,0,none⟩) :: .int .i64 ((Zp s:Nat):Int) :: .int .i64 (n:Int)::u 13::undef::undef::undef::undef::u8 :: .int .i64 (j:Int) :: .pointer (some ⟨N,0,none⟩)::u 14 :: .pointer (some ⟨mk,0,none⟩) :: .pointer (some ⟨mk,0,none⟩) :: .pointer (some ⟨mk,0,none⟩) :: .pointer (some ⟨gc,0,none⟩) :: .pointer (some ⟨gc,0,none⟩) :: .pointer (some ⟨gc,0,none⟩) :: .pointer (some ⟨gc,2,none⟩) :: .slice (some ⟨bq,oq,none⟩) G.rules.length c3 :: .int .i64 (G.rules.length:Int) :: .int .i64 (j:Int) :: .bool fb :: .int .i64 (j:Int) :: .pointer (some ⟨bq,oq+j*3,none⟩) :: .agg #[.int .i64 x.left,.slice O x.right.length R,.int .i64 x.prec] :: .pointer (some ⟨N,0,none⟩) :: .int .i64 x.left :: .int .i64 ((Zp s:Nat):Int) :: .bool false::u 10::u 0::u 1::u 2::u 3::u 4::u 5::u 6::u 7::u 8::u 9::u 11::u 12::u43::u44::u45::u46::u47::u48::u49::u50::u51::u52::u53::u54::u55::u56::u57::u58::u59::u60::u61::u62::u63::u64::u65::u66::[]).toArray,[]⟩:Act)) [u31,u32,u33,u34,u35,u36,u37,u38,u39,u40,u30,u41,u42,.slice Av (limbs E).length cv,.bool false] [λv X=>v = .slice Av (limbs E).length cv,λv X=>v = .pointer (some ⟨mk,0,none⟩),λv X=>v = .pointer (some ⟨mk,0,none⟩),λv X=>v = .pointer (some ⟨mk,0,none⟩),λv X=>v = .pointer (some ⟨gc,0,none⟩),λv X=>v = .pointer (some ⟨N,1,none⟩),λv X=>v = .slice O x.right.length R,λv X=>v = .int .i64 (n:Int),λv X=>∃A1 ah ae d1,v = .agg #[.slice A1 ah ae,.bool d1]/\Z1 X A1 ah ae d1 y,λv X=>∃o z,v = .tuple #[.slice o (limbs F).length z,.bool bb]/\Zq .u32 X o (limbs F).length z (limbs F),λv X=>∃o z,v = .tuple #[.slice o (limbs F).length z,.bool bb]/\Zq .u32 X o (limbs F).length z (limbs F),λv X=>∃o z,v = .slice o (limbs F).length z/\Zq .u32 X o (limbs F).length z (limbs F),λv X=>v = .bool bb,λv X=>∃o z,v = .slice o (limbs F).length z/\Zq .u32 X o (limbs F).length z (limbs F),λv X=>v = .bool bb] (l:=[_,_,_,_,_,_,_,_,_,_,_,_,_,_,_]) AB AB rfl ⟨⟨P.out.bk.below (AL _ _).drew,Off.of_below (AL _ _).drew⟩,λ_=>rfl⟩ ⟨AI,AI,AI,AI,AI,AI,AI,AI,(λv X Y ⟨A1,ah,ae,d1,e,h⟩ I=>⟨A1,ah,ae,d1,e,h.kept I⟩),(λv X Y ⟨o,z,e,h⟩ I=>⟨o,z,e,h.kept I⟩),(λv X Y ⟨o,z,e,h⟩ I=>⟨o,z,e,h.kept I⟩),(λv X Y ⟨o,z,e,h⟩ I=>⟨o,z,e,h.kept I⟩),AI,(λv X Y ⟨o,z,e,h⟩ I=>⟨o,z,e,h.kept I⟩),AI,trivial⟩ ?_ ?_
 ·refine Zw.con (λQ g b u X B L a d K C=>?_) ?_
  ·have fo:b 13=false:=B.no L AB;have fs:u 13=_:=a.2 fo;have D:=λv=>a.2.other 0 v AC;have f:=a.1;clear d a B;generalize u 13=xk at *;subst fs;go_simp;exact C _ () _ ⟨AJ _,λ_ _ _=>rfl⟩ ⟨f,D _⟩ rfl
  refine Zw.con (λQ g b u X B L a d K C=>?_) ?_
  ·have D:=λv=>a.2.other 1 v AC;have f:=a.1;clear d a B;go_simp;exact C _ () _ ⟨AJ _,λ_ _ _=>rfl⟩ ⟨f,D _⟩ rfl
  refine Zw.con (λQ g b u X B L a d K C=>?_) ?_
  ·have p1:u 1=_:=(d 1 rfl).2;have D:=λv=>a.2.other 2 v AC;have f:=a.1;clear d a B;rw[p1] at C⊢;go_simp;exact C _ () _ ⟨AJ _,λ_ _ _=>rfl⟩ ⟨f,D _⟩ rfl
  refine Zw.con (λQ g b u X B L a d K C=>?_) ?_
  ·have p2:u 2=_:=(d 2 rfl).2;have D:=λv=>a.2.other 3 v AC;have f:=a.1;clear d a B;rw[p2] at C⊢;go_simp;exact C _ () _ ⟨AJ _,λ_ _ _=>rfl⟩ ⟨f,D _⟩ rfl
  refine Zw.con (λQ g b u X B L a d K C=>?_) ?_
  ·have p3:u 3=_:=(d 3 rfl).2;have D:=λv=>a.2.other 4 v AC;have f:=a.1;have gX:=f.2.blk P.out.box (P.out.bk.not_map P.out.box);have y0:X.cell? ⟨mk,0,none⟩=some (.pointer (some ⟨gc,0,none⟩)):=gX.cell 0;have yl:=gX.lt;clear gX;clear d a B;rw[p3] at C⊢;go_simp;exact C _ () _ ⟨AJ _,λ_ _ _=>rfl⟩ ⟨f,D _⟩ rfl
  refine Zw.con (λQ g b u X B L a d K C=>?_) ?_
  ·have D:=λv=>a.2.other 5 v AC;have f:=a.1;clear d a B;go_simp;exact C _ () _ ⟨AJ _,λ_ _ _=>rfl⟩ ⟨f,D _⟩ rfl
  refine Zw.con (λQ g b u X B L a d K C=>?_) ?_
  ·have p5:u 5=_:=(d 5 rfl).2;have D:=λv=>a.2.other 6 v AC;have f:=a.1;have gX:=f.2.blk az.out (P.out.bk.not_map az.out);have y0:X.cell? ⟨N,1,none⟩=some (.slice O x.right.length R):=gX.cell 1;have yl:=gX.lt;clear gX;clear d a B;rw[p5] at C⊢;go_simp;exact C _ () _ ⟨AJ _,λ_ _ _=>rfl⟩ ⟨f,D _⟩ rfl
  refine Zw.con (λQ g b u X B L a d K C=>?_) ?_
  ·have D:=λv=>a.2.other 7 v AC;have f:=a.1;clear d a B;go_simp;exact C _ () _ ⟨AJ _,λ_ _ _=>rfl⟩ ⟨f,D _⟩ rfl
  refine Zw.con (λQ g b u X B L a d K C=>?_) ?_
  ·have p4:u 4=_:=(d 4 rfl).2;have p6:u 6=_:=(d 6 rfl).2;have p7:u 7=_:=(d 7 rfl).2;have D:=λv=>a.2.other 8 v AC;have f:=a.1;have CC:=Zzz HB.out ci.out cq.out S' X O R f.1 (λb I=>AK (P.out.lt b I) f.2.size) (cf.out.below f.1.base);clear d a B;rw[p4,p6,p7] at C⊢;go_simp;go_at_call 109;(with_reducible refine CC.mono ?_);rintro e Y⟨fk,c8,A1,ah,ae,d1,rfl,hv⟩;rw[Hy.out] at hv;go_simp;exact C _ () _ (f.1.keep c8) ⟨⟨fk,f.2.map_trans c8⟩,D _⟩ ⟨A1,ah,ae,d1,rfl,hv⟩
  refine Zw.con (λQ g b u X B L a d K C=>?_) ?_
  ·have p0:u 0=_:=(d 0 rfl).2;obtain⟨A1,ah,ae,d1,p8,hv⟩:=(d 8 rfl).2;have D:=λv=>a.2.other 9 v AC;have f:=a.1;have c7:=bn.out.kept (P.out.bk.keep f.2);have CC:=Zu6 Av cv E A1 ah ae d1 y X c7 d7.out hv;clear d a B;generalize u 0=x0 at *;subst p0;generalize u 8=x8 at *;subst p8;go_simp;go_at_call 108;(with_reducible refine CC.mono ?_);rintro e Y⟨I,bg⟩;obtain⟨o,z,rfl,W⟩:∃o z,e = .returned (.tuple #[.slice o (limbs F).length z,.bool bb])/\Zq .u32 Y o (limbs F).length z (limbs F):=by
    rcases a5.out with ⟨h1,rfl,rfl⟩ | ⟨h1,rfl,rfl⟩ <;> rcases bg with ⟨H,rfl⟩ | ⟨H,A9,c9,rfl,h3⟩
    ·exact⟨_,_,rfl,c7.below I⟩
    ·omega
    ·omega
    exact⟨_,_,rfl,h3⟩
   go_simp;exact C _ () _ (.of_below I) ⟨⟨f.1.below I,f.2.map_trans (Off.of_below I)⟩,D _⟩ ⟨o,z,rfl,W⟩
  refine Zw.con (λQ g b u X B L a d K C=>?_) ?_
  ·obtain⟨o,z,p9,W⟩:=(d 9 rfl).2;have D:=λv=>a.2.other 10 v AC;have f:=a.1;clear d a B;generalize u 9=x9 at *;subst p9;go_simp;exact C _ () _ ⟨AJ _,λ_ _ _=>rfl⟩ ⟨f,D _⟩ ⟨o,z,rfl,W⟩
  refine Zw.con (λQ g b u X B L a d K C=>?_) ?_
  ·obtain⟨o,z,b5,W⟩:=(d 10 rfl).2;have D:=λv=>a.2.other 11 v AC;have f:=a.1;clear d a B;generalize u 10=f8 at *;subst b5;go_simp;exact C _ () _ ⟨AJ _,λ_ _ _=>rfl⟩ ⟨f,D _⟩ ⟨o,z,rfl,W⟩
  refine Zw.con (λQ g b u X B L a d K C=>?_) ?_
  ·obtain⟨o,z,b5,W⟩:=(d 10 rfl).2;have D:=λv=>a.2.other 12 v AC;have f:=a.1;clear d a B;generalize u 10=f8 at *;subst b5;go_simp;exact C _ () _ ⟨AJ _,λ_ _ _=>rfl⟩ ⟨f,D _⟩ rfl
  refine Zw.con (λQ g b u X B L a d K C=>?_) ?_
  ·obtain⟨o,z,f0,W⟩:=(d 11 rfl).2;have D:=λv=>a.2.done 13 v;have f:=a.1;clear d a B;generalize u 11=g6 at *;subst f0;go_simp;exact C _ () _ ⟨AJ _,λ_ _ _=>rfl⟩ ⟨f,D _⟩ ⟨o,z,rfl,W⟩
  refine Zw.con (λQ g b u X B L a d K C=>?_) ?_
  ·have f1:u 12=_:=(d 12 rfl).2;have D:=λv=>a.2.other 14 v AC;have f:=a.1;clear d a B;rw[f1] at C⊢;go_simp;exact C _ () _ ⟨AJ _,λ_ _ _=>rfl⟩ ⟨f,D _⟩ rfl
  exact Zw.nil
 intro _ b9 u X9 fn al d;obtain⟨al,fu⟩:=al;clear fn fu;obtain⟨o,z,dr,df⟩:=d 13 AC;have ds:u 14=_:=d 14 AC;clear d b9;rw[dr,ds];clear dr ds;generalize u 0=w0 at *;generalize u 1=w1 at *;generalize u 2=w2 at *;generalize u 3=w3 at *;generalize u 4=w4 at *;generalize u 5=w5 at *;generalize u 6=w6 at *;generalize u 7=w7 at *;generalize u 8=w8 at *;generalize u 9=w9 at *;generalize u 10=gr at *;generalize u 11=gs at *;generalize u 12=gu at *;clear u;have U:=LH (P.out.off al.1 al.2);have bm:=LH (cg.out.trans (Zu.of_int (P.out.bk.keep al.2)));have bp:=LH (al.2.blk az.out (P.out.bk.not_map az.out));have cn:=LH df;have dp:Z0 (Zv G) G.rules (Zp s) (j+1) n=Z0 (Zv G) G.rules (Zp s) j n+y:=by
  rw[cw.out j x Hx.out,if_pos (by have:=d9.out;omega),Hy.out]
 have dg:j=T->E<y:=by
  intro e;subst e;have e1:=Hx.out.symm.trans bt.out;injection e1 with e1;subst e1;have h1:=ap.out;have H:=a6.out;have h3:=Hq.out;have h4:=Hy.out;omega
 have dd:j<T->y<=E:=by
  intro de;have h1:=ct.out (j+1) AA;have H:=ap.out;have h3:=a6.out;omega
 have d8:=LH dp;have d5:=LH dg;have d4:=LH dd;clear dp dg dd z0 z1 z2 cl az P bn al df;rcases a5.out with ⟨de,rfl,rfl⟩ | ⟨gm,rfl,rfl⟩
 case inr =>
  have fr:j<T:=by
   rcases BD j T with h | h
   ·exact h
   have:=d5.out AA;omega
  have bs:Hid (r=Z0 (Zv G) G.rules (Zp s) (j+1) n+(E-y)):=LH (by
   have h1:=d8.out;have H:=ap.out;omega)
  clear a5;go_wp2_with fail;go_roundw
  case rel=>exact⟨j+1,E-y,o,z,S',A',c',AF,AA,rfl,bs,cn,U,bm⟩
  simp[intOf] <;> omega
 obtain rfl:j=T:=by
  rcases BD j T with h | h
  ·have:=d4.out h;omega
  omega
 obtain rfl:x=x0:=by
  have e1:=Hx.out.symm.trans bt.out;injection e1
 obtain rfl:F=q:=by
  have h1:=ap.out;have H:=a6.out;omega
 clear a5 de;have g0:X9.cell? ⟨mk,0,none⟩=some (.pointer (some ⟨gc,0,none⟩)):=U.out.box.cell 0;have g2:X9.cell? ⟨mk,1,none⟩=some (.slice A' J.length c'):=U.out.box.cell 1;have gl:=U.out.box.lt;have gk:=U.out.few;by_cases bf:J.length=300
 case pos =>
  have fp:((J.length:Int)==300)=true:=by rw[bf];rfl
  have br:=LH bf;clear bf;go_wp2_with fail;go_ret;exact⟨bm.out,.inr ⟨by rw[br.out,AY];omega,rfl,U.out.bk.base⟩⟩
 have fp:((J.length:Int)==300)=false:=by
  rw[AQ];omega
 have br:=LH bf;have d2:Hid ((prog.info? 3).map (λi=>(i.zero,i.size,i.bytes))=some (some (.int .i64 0),1,8)):=LH AB;have z1:X9.cell? ⟨N,1,none⟩=some (.slice O x.right.length R):=bp.out.cell 1;have zl:=bp.out.lt;have bz:V.heap.size<=X9.heap.size:=U.out.bk.base.size;have fv:J.length+1<=maxLen:=by unfold maxLen;omega
 go_upto_region 11 with (first
  | (at_builtin;refine Nk rfl _ _ 30 rfl V 8 underlying30 d2.out A' J.length c' (J.map λi:Nat=>(i:Int)) rfl U.out.row (j:Int) rfl fv AA bz ?_;intro A5 c5 w5 dl b0 fm
     have am:=U.out.push (i:=j) (Zy _ _) dl b0 br.out;have p1:w5.cell? ⟨mk,1,none⟩=some (.slice A' J.length c'):=am.1.cell 1;have p0:w5.cell? ⟨mk,0,none⟩=some (.pointer (some ⟨gc,0,none⟩)):=am.1.cell 0;have p2:=am.1.frozen 1;have p3:=am.1.lt;have HP:=LH am.2;have ce:Hid (Blk (w5.setCell ⟨mk,1,none⟩ (.slice A5 (J.length+1) c5)) N 60 #[.int .i64 x.left,.slice O x.right.length R,.int .i64 x.prec]):=LH (by
      have da:=bp.out.ext (Zy X9 (.cells #[.int .i64 (j:Int)] 3));have bx:=(Off.of_grown b0).blk da λe=>by
       obtain⟨_,_,v,hv⟩:=(U.out.below (Zy X9 (.cells #[.int .i64 (j:Int)] 3))).row.blk e;exact absurd (hv.same_ty da) AC
      exact bx.other mk 1 _ λe=>by
       rw[e] at bx;exact absurd (bx.same_ty am.1) AC)
     clear am dl b0 fm))
 generalize w5.setCell ⟨mk,1,none⟩ (.slice A5 (J.length+1) c5)=W6 at *;clear p0 p1 p2 p3 z1 zl g0 g2 gl;have hk:W6.cell? ⟨N,1,none⟩=some (.slice O x.right.length R):=ce.out.cell 1;have hm:=ce.out.lt;have CF:=LH (dx.out mk (J++[j]) x.right n F t1 O R o z W6 (by rw[AY] at fy;omega) HU.out dy.out (by have h1:=cy.out;have H:=cp.out;omega) ci.out cq.out cf.out (cn.out.nkept HP.out.2) HP.out.1);go_wp2_with (first
  | (go_at_call 110
     (with_reducible refine CF.out.mono ?_);rintro e W7⟨ft,dh⟩;obtain⟨bv,rfl,bg⟩:∃bv,e = .returned (.bool bv)/\(((J++[j]).length+t1.length<=300/\bv=true/\MkAt V ⟨gc,gt⟩ ⟨a1,n1,c1,a2,n2,c2,some ⟨bq,oq,none⟩,n3,c3⟩ G mk (J++[j]++t1) W7)\/(300<(J++[j]).length+t1.length/\bv=false/\Below V V W7)):=by
      rcases dh with ⟨h1,rfl,H⟩ | ⟨h1,rfl,H⟩
      ·exact⟨true,rfl,.inl ⟨h1,rfl,H⟩⟩
      exact⟨false,rfl,.inr ⟨h1,rfl,H⟩⟩
     have d6:=LH bg;clear bg dh))
 go_ret;refine⟨bm.out.trans (HP.out.2.trans ft),?_⟩;have di:=d6.out;rw[AV,CX] at di;rw[AY];rcases di with ⟨h1,rfl,H⟩ | ⟨h1,rfl,H⟩
 ·rw[DX] at H;exact .inl ⟨AA,rfl,by rw[<-fw];exact H⟩
 exact .inr ⟨AA,rfl,H⟩
theorem tr_pair{W0:World}(hB:BkG W0 h G){s:Int}{l:List Int}{kk n:Nat}(hk:J1 (s::l) n)(dy:kk<=n)(hh:∀x∈s::l,G.has x=true)(S:Nat->Prop)(w:World)(A:Option Addr)(c:Nat)(C:Wd W0 k h G S w)(hS:∀b,S b->b<w.heap.size)(hl:Za .i64 W0 A (s::l).length c (s::l)):
 Calls prog 166 #[.pointer (some ⟨k.c,0,none⟩),.slice A (s::l).length c,.int .i64 (kk:Int),.int .i64 (n:Int)] w (Zuw W0 k h G S w (Zx (Zv G) [s] kk*Zx (Zv G) l (n-kk))):=by
 have b1:=hl.cap;have c5:=hk.len;have d4:=hk.n;obtain⟨ab,ao,_,rfl,_,_,_⟩:=hl.get (j:=0) AE;have bg:=hl.tail1;rw[show (s::l).length-1=l.length from rfl] at bg;obtain⟨At,cz⟩:∃At:Option Addr,(if c=1 then some (⟨ab,ao,none⟩:Addr) else some ⟨ab,ao+1,none⟩)=At:=⟨_,rfl⟩;rw[cz] at bg;have dx:(1:Int)<=(c:Int):=by simp at b1;omega
 have cf:=hl.take 1 c AE (by simp at b1;omega) b1.2;have K1:Hid (J1 [s] kk):=LH ⟨λx O=>hk.sym x (by simp at O ⊢;exact .inl O),AE,AA⟩;have K2:Hid (J1 l (n-kk)):=LH ⟨λx O=>hk.sym x (.tail _ O),by simp at c5;omega,AA⟩;have H1:Hid (∀x∈[s],G.has x=true):=LH λx O=>hh x (by simp at O ⊢;exact .inl O);have H2:Hid (∀x∈l,G.has x=true):=LH λx O=>hh x (.tail _ O);have b0:=(Zy w (.cells #[.slice none 0 0,.bool false] 168)).drew;have bz:=(Blk.new w 168 #[.slice none 0 0,.bool false]).drew;have ci:=C.more b0 (AJ w);have HB:=LH hB;have cq:Hid (Za .i64 W0 (some ⟨ab,ao,none⟩) [s].length c [s]):=LH (by simpa using cf);have cr:=LH bg;have HM:Hid (PM W0 k h G (λb=>S b\/b=w.heap.size) w w (λ_=>false) (λi=>([]:List Value).getD i undef) (w.alloc (.cells #[.slice none 0 0,.bool false] 168)).drew):=LH ⟨⟨_,ci,λq h=>h,λq R=>by
  have:=bz.lt;rcases R with R | rfl
  ·have:=hS q R;omega
  omega,nofun,nofun⟩,Off.of_below b0,bz,nofun⟩
 have b2:W0.heap.size<=w.heap.size:=C.base.size;have HS:=LH hS;clear hB hk hh C hS hl bz ci b0 cf bg;go_enter func166,ntmps166;go_upto_region 1 with fail;refine wp_region_free (Γ:=Unit) (λ_ b u X=>PM W0 k h G (λb=>S b\/b=w.heap.size) w w b u X) (λX X'=>Zf X X') () (λu=>(⟨(.pointer (some ⟨k.c,0,none⟩) :: .slice (some ⟨ab,ao,none⟩) (l.length+1) c :: .int .i64 (kk:Int) :: .int .i64 (n:Int)::undef::undef::undef::undef :: .pointer (some ⟨w,0,none⟩)::u 12::u 13::undef::undef::u 0::u 1::u 2::u 3::u 4::u 5::u 6::u 7::u 8::u 9::u 10::u 11::undef::undef::undef::undef::undef::undef::undef::undef::undef::undef::undef::undef::undef::undef::undef::undef::undef::undef::undef::undef::undef::undef::undef::undef::undef::undef::undef::undef::undef::undef::undef::undef::undef::undef::undef::undef::undef::undef::undef::undef::undef::[]).toArray,[]⟩:Act)) [] [λv X=>v = .pointer (some ⟨k.c,0,none⟩),λv X=>v = .slice (some ⟨ab,ao,none⟩) (l.length+1) c,λv X=>v = .slice (some ⟨ab,ao,none⟩) 1 c,λv X=>v = .int .i64 (kk:Int),λv X=>∃z n1 c1 L,v = .agg #[.slice z n1 c1,.bool L]/\Z1 X z n1 c1 L (Zx (Zv G) [s] kk),λv X=>v = .pointer (some ⟨k.c,0,none⟩),λv X=>v = .slice (some ⟨ab,ao,none⟩) (l.length+1) c,λv X=>v = .slice At l.length (c-1),λv X=>v = .int .i64 (n:Int),λv X=>v = .int .i64 (kk:Int),λv X=>v = .int .i64 ((n-kk:Nat):Int),λv X=>∃z n1 c1 L,v = .agg #[.slice z n1 c1,.bool L]/\Z1 X z n1 c1 L (Zx (Zv G) l (n-kk)),λv X=>True,λv X=>True,λv X=>True,λv X=>True] (l:=[_,_,_,_,_,_,_,_,_,_,_,_,_,_,_,_]) AB AB rfl HM.out ⟨AI,AI,AI,AI,(λv X X' ⟨z,n1,c1,L,e,h⟩ hb=>⟨z,n1,c1,L,e,h.kept hb⟩),AI,AI,AI,AI,AI,AI,(λv X X' ⟨z,n1,c1,L,e,h⟩ hb=>⟨z,n1,c1,L,e,h.kept hb⟩),AI,AI,AI,AI,trivial⟩ ?_ ?_
 ·refine Zw.con (λQ g b u X f H a d K m=>?_) ?_
  ·have t:=λv=>a.idle 0 v AC;clear a f;clear d;go_simp;exact m _ () _ ⟨AJ _,λ_ _ _=>rfl⟩ (t _) (rfl)
  refine Zw.con (λQ g b u X f H a d K m=>?_) ?_
  ·have t:=λv=>a.idle 1 v AC;clear a f;clear d;go_simp;exact m _ () _ ⟨AJ _,λ_ _ _=>rfl⟩ (t _) (rfl)
  refine Zw.con (λQ g b u X f H a d K m=>?_) ?_
  ·have p1:u 1=_:=(d 1 rfl).2;have t:=λv=>a.idle 2 v AC;clear a f;clear d;rw[p1] at m⊢;go_simp;exact m _ () _ ⟨AJ _,λ_ _ _=>rfl⟩ (t _) (rfl)
  refine Zw.con (λQ g b u X f H a d K m=>?_) ?_
  ·have t:=λv=>a.idle 3 v AC;clear a f;clear d;go_simp;exact m _ () _ ⟨AJ _,λ_ _ _=>rfl⟩ (t _) (rfl)
  refine Zw.con (λQ g b u X f H a d K m=>?_) ?_
  ·have p0:u 0=_:=(d 0 rfl).2;have p2:u 2=_:=(d 2 rfl).2;have p3:u 3=_:=(d 3 rfl).2;have ap:b 14=false:=f.no H AB;obtain⟨S2,al,bb,bw⟩:=a.asked 4 (.inl ⟨rfl,ap⟩);have CC:Calls prog 109 #[.pointer (some ⟨k.c,0,none⟩),.slice (some ⟨ab,ao,none⟩) 1 c,.int .i64 (kk:Int)] X _:=Zzz HB.out K1.out H1.out S2 X _ _ al bb (cq.out.below al.base);clear a f;clear d;rw[p0,p2,p3] at m⊢;go_simp;go_at_call 109;(with_reducible refine CC.mono ?_);rintro e X'⟨bv,a6,z,n1,c1,L,rfl,hv⟩;go_simp;exact m _ () _ (al.keep a6) (bw _ _ bv a6) ⟨z,n1,c1,L,rfl,hv⟩
  refine Zw.con (λQ g b u X f H a d K m=>?_) ?_
  ·have t:=λv=>a.idle 5 v AC;clear a f;clear d;go_simp;exact m _ () _ ⟨AJ _,λ_ _ _=>rfl⟩ (t _) (rfl)
  refine Zw.con (λQ g b u X f H a d K m=>?_) ?_
  ·have t:=λv=>a.idle 6 v AC;clear a f;clear d;go_simp;exact m _ () _ ⟨AJ _,λ_ _ _=>rfl⟩ (t _) (rfl)
  refine Zw.con (λQ g b u X f H a d K m=>?_) ?_
  ·have p6:u 6=_:=(d 6 rfl).2;have dz:(1:Int)<=(l.length:Int)+1:=AA
   have t:=λv=>a.idle 7 v AC;clear a f;clear d;generalize u 6=x6 at *;subst p6;go_simp;exact m _ () _ ⟨AJ _,λ_ _ _=>rfl⟩ (t _) (rfl)
  refine Zw.con (λQ g b u X f H a d K m=>?_) ?_
  ·have t:=λv=>a.idle 8 v AC;clear a f;clear d;go_simp;exact m _ () _ ⟨AJ _,λ_ _ _=>rfl⟩ (t _) (rfl)
  refine Zw.con (λQ g b u X f H a d K m=>?_) ?_
  ·have t:=λv=>a.idle 9 v AC;clear a f;clear d;go_simp;exact m _ () _ ⟨AJ _,λ_ _ _=>rfl⟩ (t _) (rfl)
  refine Zw.con (λQ g b u X f H a d K m=>?_) ?_
  ·have p8:u 8=_:=(d 8 rfl).2;have p9:u 9=_:=(d 9 rfl).2;have hw:IntKind.i64.wrap ((n:Int)-(kk:Int))=((n-kk:Nat):Int):=by rw[Cc _ AA];omega
   have t:=λv=>a.idle 10 v AC;clear a f;clear d;generalize u 8=x8 at *;subst p8;generalize u 9=x9 at *;subst p9;go_simp;exact m _ () _ ⟨AJ _,λ_ _ _=>rfl⟩ (t _) (by first | rfl | rw[hw])
  refine Zw.con (λQ g b u X f H a d K m=>?_) ?_
  ·have p5:u 5=_:=(d 5 rfl).2;have p7:u 7=_:=(d 7 rfl).2;have dc:u 10=_:=(d 10 rfl).2;have ap:b 15=false:=f.no H AB;obtain⟨S2,al,bb,bw⟩:=a.asked 11 (.inr ⟨rfl,ap⟩);have CC:Calls prog 109 #[.pointer (some ⟨k.c,0,none⟩),.slice At l.length (c-1),.int .i64 ((n-kk:Nat):Int)] X _:=Zzz HB.out K2.out H2.out S2 X _ _ al bb (cr.out.below al.base);clear a f;clear d;rw[p5,p7,dc] at m⊢;go_simp;go_at_call 109;(with_reducible refine CC.mono ?_);rintro e X'⟨bv,a6,z,n1,c1,L,rfl,hv⟩;go_simp;exact m _ () _ (al.keep a6) (bw _ _ bv a6) ⟨z,n1,c1,L,rfl,hv⟩
  refine Zw.con (λQ g b u X f H a d K m=>?_) ?_
  ·have ap:b 14=false:=f.no H AB;have t:=a.made 12 (.inl ⟨rfl,ap⟩);clear a f;clear d;go_simp;exact m _ () _ (.of_below (Zy _ _)) t trivial
  refine Zw.con (λQ g b u X f H a d K m=>?_) ?_
  ·have ap:b 15=false:=f.no H AB;have t:=a.made 13 (.inr ⟨rfl,ap⟩);clear a f;clear d;go_simp;exact m _ () _ (.of_below (Zy _ _)) t trivial
  refine Zw.con (λQ g b u X f H a d K m=>?_) ?_
  ·obtain⟨z,n1,c1,L,p4,hv⟩:=(d 4 rfl).2;obtain⟨gC,A0,n0,c0,d0,dd,P,a8⟩:=a.wrote 14 12 4 (.inl ⟨rfl,rfl,rfl⟩) (d 12 rfl).1 p4 (AJ _) b2;clear d a f;generalize u 12=fd at *;subst dd;generalize u 4=x4 at *;subst p4;have y0:=P.cell 0;have y1:=P.cell 1;have y2:=P.frozen 0;have y3:=P.frozen 1;have y4:=P.lt;clear P;go_simp;exact m undef () _ (a8 undef).2 (a8 undef).1 trivial
  refine Zw.con (λQ g b u X f H a d K m=>?_) ?_
  ·obtain⟨z,n1,c1,L,cl,hv⟩:=(d 11 rfl).2;obtain⟨gC,A0,n0,c0,d0,de,P,a8⟩:=a.wrote 15 13 11 (.inr ⟨rfl,rfl,rfl⟩) (d 13 rfl).1 cl (AJ _) b2;clear d a f;generalize u 13=fe at *;subst de;generalize u 11=fc at *;subst cl;have y0:=P.cell 0;have y1:=P.cell 1;have y2:=P.frozen 0;have y3:=P.frozen 1;have y4:=P.lt;clear P;go_simp;exact m undef () _ (a8 undef).2 (a8 undef).1 trivial
  exact Zw.nil
 intro _ b u J a7 a hd;obtain⟨z,n1,c1,L,e4,b5⟩:=hd 4 AC;obtain⟨A2,n2,c2,d2,bt,b6⟩:=hd 11 AC;obtain⟨⟨S2,hC,b4,bb,cd,ce⟩,hO,hR,c7⟩:=a;obtain⟨g1,B1,m1,k1,q1,b9,c9,dm,X1,t1⟩:=cd (a7 12 AC);obtain⟨g2,B2,m2,k2,q2,ca,da,dn,X2,t2⟩:=ce (a7 13 AC);have t1:=e4.symm.trans (t1 (a7 14 AC));have t2:=bt.symm.trans (t2 (a7 15 AC));injection t1 with t1;injection t2 with t2;simp only[Array.mk.injEq,List.cons.injEq,Value.slice.injEq,Value.bool.injEq,and_true] at t1 t2;obtain⟨⟨rfl,rfl,rfl⟩,rfl⟩:=t1;obtain⟨⟨rfl,rfl,rfl⟩,rfl⟩:=t2;rw[e4,bt,b9,ca];clear c7 cd ce a7 hd HM e4 bt b9 ca;clear t1 t2;generalize u 0=z0 at *;generalize u 1=z1 at *;generalize u 2=z2 at *;generalize u 3=z3 at *;generalize u 5=z5 at *;generalize u 6=z6 at *;generalize u 7=z7 at *;generalize u 8=z8 at *;generalize u 9=z9 at *;generalize u 10=fp at *;clear u;have bl:J.cell? ⟨g1,0,none⟩=some (.slice z n1 c1):=X1.cell 0;have bm:J.cell? ⟨g1,1,none⟩=some (.bool L):=X1.cell 1;have bn:J.cell? ⟨g2,0,none⟩=some (.slice A2 n2 c2):=X2.cell 0;have bo:J.cell? ⟨g2,1,none⟩=some (.bool d2):=X2.cell 1;have bp:=X1.lt;have br:=X2.lt;have r0:J.cell? ⟨w,0,none⟩=some (.slice none 0 0):=hR.cell 0;have r1:J.cell? ⟨w,1,none⟩=some (.bool false):=hR.cell 1;have f0:=hR.frozen 0;have f1:=hR.frozen 1;have l0:=hR.lt;have HC:=LH hC;have HO:=LH hO;have HR:=LH hR;have bc:=LH X1;have bd:=LH X2;have ae:=LH b5;have af:=LH b6;have cu:Hid (∀q,S q->S2 q):=LH λq R=>b4 q (.inl R);have ct:Hid (S2 w):=b4 _ (.inr rfl);have k1:=Zs5 b5;have k2:=Zs5 b6;clear hC hO hR X1 X2 b5 b6 b4 bb c9 da dm dn;generalize Zx (Zv G) [s] kk=x at *;generalize Zx (Zv G) l (n-kk)=y at *;have ai:Hid (∀(W:World) (A':Option Addr) (n' c':Nat) (b':Bool),Below J J W->Z1 W A' n' c' b' (x*y)->
  Blk ((W.setCell ⟨w,0,none⟩ (.slice A' n' c')).setCell ⟨w,1,none⟩ (.bool b')) w 168 #[.slice A' n' c',.bool b']/\Zuw W0 k h G S w (x*y) (.returned (.agg #[.slice A' n' c',.bool b'])) ((W.setCell ⟨w,0,none⟩ (.slice A' n' c')).setCell ⟨w,1,none⟩ (.bool b'))):=LH λW A' n' c' b' hb hv =>
  Zxm (S:=S) (HC.out.below hb) (HR.out.ext hb) hv (HO.out.map_trans (Off.of_below hb)) ct.out b2 (AJ _) cu.out
 rcases k1 with ⟨rfl,rfl,rfl⟩ | ⟨O,d3,rfl⟩ | ⟨O,rfl,rfl⟩
 case inl =>
  clear k2;have B:=LH (ai.out J none 0 0 false (AL _ _) (by rw[Nat.zero_mul];exact Z1.zero J none 0 AA));go_wp2_with fail;refine AW (AX (p:=8) AB _ _ w 168 #[.slice none 0 0,.bool false] (0,0) _ rfl B.out.1 underlying168 rfl AB) rfl ?_;exact B.out.2
 case inr.inl =>
  rcases k2 with ⟨rfl,rfl,rfl⟩ | ⟨hy,c6,rfl⟩ | ⟨hy,rfl,rfl⟩
  case inl =>
   have B:=LH (ai.out J none 0 0 false (AL _ _) (by rw[Nat.mul_zero];exact Z1.zero J none 0 AA));go_wp2_with fail;refine AW (AX (p:=8) AB _ _ w 168 #[.slice none 0 0,.bool false] (0,0) _ rfl B.out.1 underlying168 rfl AB) rfl ?_;exact B.out.2
  case inr.inl =>
   obtain⟨zs,er,Z,I⟩:=Bk O hy;obtain⟨U,R⟩:∃U,((er:Int) != 0)=U:=⟨_,rfl⟩;rw[R] at I;have D:=F2 z _ c1 (Vk x).1 A2 _ c2 (Vk y).1 J ae.out.2 af.out.2 (Wx x) (Wx y);rw[Z] at D;have V:=ae.out.1;have Y:=af.out.1;rw[<-V,<-Y] at I;have D:=LH D;have aj:=LH I;clear Z I V Y;go_wp2_with (first
    | (go_at_call 209
       (with_reducible refine D.out.mono ?_);rintro e T⟨M,c3,rfl,N,r⟩;simp only[] at N;have B:=LH (ai.out T M zs.length c3 _ r (aj.out T M c3 N));have E:=bc.out.ext r;have F:=bd.out.ext r;have o:=HR.out.ext r;have bl:=E.cell 0;have bm:=E.cell 1;have bn:=F.cell 0;have bo:=F.cell 1;have bp:=E.lt;have br:=F.lt;have r0:=o.cell 0;have r1:=o.cell 1;have f0:=o.frozen 0;have f1:=o.frozen 1;have l0:=o.lt;clear r N E F o))
   refine AW (AX (p:=8) AB _ _ w 168 #[.slice M zs.length c3,.bool _] (0,0) _ rfl B.out.1 underlying168 rfl AB) rfl ?_;exact B.out.2
  obtain⟨zs,er,Z,I⟩:=Bk O hy;obtain⟨U,R⟩:∃U,((er:Int) != 0)=U:=⟨_,rfl⟩;rw[R] at I;have D:=F2 z _ c1 (Vk x).1 A2 _ c2 (Vk y).1 J ae.out.2 af.out.2 (Wx x) (Wx y);rw[Z] at D;have V:=ae.out.1;have Y:=af.out.1;rw[<-V,<-Y] at I;have D:=LH D;have aj:=LH I;clear Z I V Y;go_wp2_with (first
   | (go_at_call 209
      (with_reducible refine D.out.mono ?_);rintro e T⟨M,c3,rfl,N,r⟩;simp only[] at N;have B:=LH (ai.out T M zs.length c3 _ r (aj.out T M c3 N));have E:=bc.out.ext r;have F:=bd.out.ext r;have o:=HR.out.ext r;have bl:=E.cell 0;have bm:=E.cell 1;have bn:=F.cell 0;have bo:=F.cell 1;have bp:=E.lt;have br:=F.lt;have r0:=o.cell 0;have r1:=o.cell 1;have f0:=o.frozen 0;have f1:=o.frozen 1;have l0:=o.lt;clear r N E F o))
  refine AW (AX (p:=8) AB _ _ w 168 #[.slice M zs.length c3,.bool _] (0,0) _ rfl B.out.1 underlying168 rfl AB) rfl ?_;exact B.out.2
 rcases k2 with ⟨rfl,rfl,rfl⟩ | ⟨hy,c6,rfl⟩ | ⟨hy,rfl,rfl⟩
 case inl =>
  have B:=LH (ai.out J none 0 0 false (AL _ _) (by rw[Nat.mul_zero];exact Z1.zero J none 0 AA));go_wp2_with fail;refine AW (AX (p:=8) AB _ _ w 168 #[.slice none 0 0,.bool false] (0,0) _ rfl B.out.1 underlying168 rfl AB) rfl ?_;exact B.out.2
 case inr.inl =>
  obtain⟨zs,er,Z,I⟩:=Bk O hy;obtain⟨U,R⟩:∃U,((er:Int) != 0)=U:=⟨_,rfl⟩;rw[R] at I;have D:=F2 z _ c1 (Vk x).1 A2 _ c2 (Vk y).1 J ae.out.2 af.out.2 (Wx x) (Wx y);rw[Z] at D;have V:=ae.out.1;have Y:=af.out.1;rw[<-V,<-Y] at I;have D:=LH D;have aj:=LH I;clear Z I V Y;go_wp2_with (first
   | (go_at_call 209
      (with_reducible refine D.out.mono ?_);rintro e T⟨M,c3,rfl,N,r⟩;simp only[] at N;have B:=LH (ai.out T M zs.length c3 _ r (aj.out T M c3 N));have E:=bc.out.ext r;have F:=bd.out.ext r;have o:=HR.out.ext r;have bl:=E.cell 0;have bm:=E.cell 1;have bn:=F.cell 0;have bo:=F.cell 1;have bp:=E.lt;have br:=F.lt;have r0:=o.cell 0;have r1:=o.cell 1;have f0:=o.frozen 0;have f1:=o.frozen 1;have l0:=o.lt;clear r N E F o))
  refine AW (AX (p:=8) AB _ _ w 168 #[.slice M zs.length c3,.bool _] (0,0) _ rfl B.out.1 underlying168 rfl AB) rfl ?_;exact B.out.2
 obtain⟨zs,er,Z,I⟩:=Bk O hy;obtain⟨U,R⟩:∃U,((er:Int) != 0)=U:=⟨_,rfl⟩;rw[R] at I;have D:=F2 z _ c1 (Vk x).1 A2 _ c2 (Vk y).1 J ae.out.2 af.out.2 (Wx x) (Wx y);rw[Z] at D;have V:=ae.out.1;have Y:=af.out.1;rw[<-V,<-Y] at I;have D:=LH D;have aj:=LH I;clear Z I V Y;go_wp2_with (first
  | (go_at_call 209
     (with_reducible refine D.out.mono ?_);rintro e T⟨M,c3,rfl,N,r⟩;simp only[] at N;have B:=LH (ai.out T M zs.length c3 _ r (aj.out T M c3 N));have E:=bc.out.ext r;have F:=bd.out.ext r;have o:=HR.out.ext r;have bl:=E.cell 0;have bm:=E.cell 1;have bn:=F.cell 0;have bo:=F.cell 1;have bp:=E.lt;have br:=F.lt;have r0:=o.cell 0;have r1:=o.cell 1;have f0:=o.frozen 0;have f1:=o.frozen 1;have l0:=o.lt;clear r N E F o))
 refine AW (AX (p:=8) AB _ _ w 168 #[.slice M zs.length c3,.bool _] (0,0) _ rfl B.out.1 underlying168 rfl AB) rfl ?_;exact B.out.2
theorem Zw0{W:World}(hB:BkG W h G)(hP:Xq G)(m:Nat)(HT:TC W k h G m):FC W k h G m:=by
 intro mk cs l n r t Al cl Ar cr w fa hU dl dv B hh hl hr a;have HB:=LH hB;have HP:=LH hP;have fi:=LH HT;have HU:=LH hU;have al:=LH dl;have a0:=LH dv;have HK:=LH B;have Hh:=LH hh;have HL:=LH hl;have HR:=LH hr;have O:=LH a;clear hB hP HT hU dl dv B hh hl hr a;go_enter func110,ntmps110;go_wp2_with fail;go_loopw [1,2,3] (λv1 v2 v3 wr=>∃(Z:List Int) (Al:Option Addr) (cl E r':Nat) (R:Option Addr) (T:Nat) (t' V:List Nat),v1 = .slice Al Z.length cl/\v2 = .int .i64 (E:Int)/\v3 = .slice R (limbs r').length T/\Hid (UnL G Z E r' t')/\Hid (InG G Z)/\Hid (Zx (Zv G) Z E<big)/\Hid (J1 Z E)/\Hid (∀s∈Z,G.has s=true)/\Hid (Za .i64 W Al Z.length cl Z)/\Hid (Zq .u32 wr R (limbs r').length T (limbs r'))/\Hid (MkAt W k h G mk V wr)/\Hid (Zu w wr)/\Hid (V++t'=cs++t)/\Hid (t'.length<=m)) (λv1 _ _ _=>slLen v1)
 case atStart=>exact⟨l,Al,cl,n,r,Ar,cr,t,cs,rfl,rfl,rfl,HU,al,a0,HK,Hh,HL,HR,O,LH (Zu.refl _),LH rfl,LH fa⟩
 clear HU al a0 HK Hh HL HR O fa;obtain⟨Z,gq,Y,E,r',R,T,t',V,rfl,rfl,rfl,HU,al,a0,HK,Hh,HL,HN,bm,b5,bp,ce⟩:=hrel;rcases Z with _ | ⟨s,I⟩
 case nil =>
  have e:t'=[]:=by
   have:=HU.out;cases this;rfl
  subst e;go_wp2_with fail;go_ret;obtain⟨S,A,c,M⟩:=bm.out;have dw:=bp.out;rw[DK] at dw;subst dw;have:=M.few;rw[AV] at this;exact⟨b5.out,.inl ⟨this,rfl,bm.out⟩⟩
 obtain⟨kk,q,L,t1,t2,fy,d7,cn,hq,dt,rfl,d5,a3⟩:=HU.out.parts HP.out al.out;obtain⟨dr,hF,d6⟩:=Zxk fy hq cn a0.out;have d0:=HU.out.lt HP.out al.out;have cd:=LH d7;have df:=LH cn;have Hq:=LH hq;have cb:=LH dt;have fn:=LH d5;have fm:=LH a3;have fj:=LH dr;have HF:=LH hF;have fo:=LH d6;have de:=LH d0;have g3:=HK.out.n;have f1:=HK.out.len;have f0:=HL.out.cap;clear d7 cn hq dt d5 a3 dr hF d6 d0;obtain⟨S,A,c,dm⟩:=bm.out;have c4:=LH dm;clear bm dm;obtain⟨ab,ao,s',rfl,du,dg,f3⟩:=HL.out.get (j:=0) AE;obtain rfl:s=s':=by
  have:=dg.out;simpa using this
 have bs:=HL.out.tail1;rw[show (s::I).length-1=I.length from rfl] at bs;obtain⟨At,fs⟩:∃At:Option Addr,(if Y=1 then some (⟨ab,ao,none⟩:Addr) else some ⟨ab,ao+1,none⟩)=At:=⟨_,rfl⟩;rw[fs] at bs;have bz:=LH bs;clear bs dg;simp only[AY] at f1 f0 ⊢;have gx:(1:Int)<=(Y:Int):=AA
 have g2:(1:Int)<=(I.length:Int)+1:=AA
 go_upto_region 4 with fail;go_loopw [3,9,10] (λv3 v9 gm wz=>∃(j H:Nat) (R:Option Addr) (T:Nat),v3 = .slice R (limbs H).length T/\v9 = .int .i64 (j:Int)/\gm = .bool (decide (j<=kk))/\j<=kk+1/\Hid (j<=kk->r'=Yv (Zv G) s I E j+H)/\Hid (j=kk+1->H=q*Zx (Zv G) I (E-kk)+L)/\Hid (Zq .u32 wz R (limbs H).length T (limbs H))/\Hid (Me W k h G mk V S A c wz)/\Hid (Zu w wz)) (λ_ i _ _=>kk+2-(intOf i).toNat)
 case atStart=>exact⟨0,r',R,T,rfl,rfl,AE,AS _,LH (λ_=>by rw[Ug];omega),LH (λh=>AA),HN,c4,b5⟩
 clear HN c4 b5;obtain⟨j,H,R,T,rfl,rfl,rfl,fw,Hj,dd,HN,O,bl⟩:=hrel;by_cases hj:j<=kk
 case pos =>
  have bf:=Hj.out hj;have ct:H<big:=by have:=de.out;have:=a0.out;omega
  obtain⟨x,hx⟩:∃x,Zv G s j*Zx (Zv G) I (E-j)=x:=⟨_,rfl⟩;have d9:Yv (Zv G) s I E (j+1)=Yv (Zv G) s I E j+x:=by rw[Xy,hx]
  have M:=O.out;have CP:Calls prog 166 #[.pointer (some ⟨k.c,0,none⟩),.slice (some ⟨ab,ao,none⟩) (I.length+1) Y,.int .i64 (j:Int),.int .i64 (E:Int)] wr (Zuw W k h G S wr x):=by
   have h1:=tr_pair HB.out (s:=s) (l:=I) (kk:=j) (n:=E) HK.out AA Hh.out S wr (some ⟨ab,ao,none⟩) Y M.bk M.lt HL.out;rw[fsingle,hx] at h1;exact h1
  have CP:=LH CP;have bq:=LH ct;have g0:wr.cell? ⟨mk,0,none⟩=some (.pointer (some ⟨k.c,0,none⟩)):=M.box.cell 0;have gl:=M.box.lt;by_cases gz:j<kk
  case pos =>
   have HX:Hid (x<=H):=LH (by
    have h1:=Wz (Zv G) s I E (show j+1<=kk by omega);have P:=cd.out;omega)
   have fp:Hid (r'=Yv (Zv G) s I E (j+1)+(H-x)):=LH (by have:=HX.out;omega);clear bf ct hx d9 M;go_wp2_with (first
    | (go_at_call 166
       (with_reducible refine CP.out.mono ?_);rintro e W2⟨bb,au,A8,n8,c8,d8,rfl,bg⟩;have av:=O.out.bk.keep au;have b6:=LH (O.out.off bb au);have bn:=LH (HN.out.kept av);have b1:=LH (bl.out.trans (Zu.of_int av));have CO:=LH (Zu6 R T H A8 n8 c8 d8 x W2 bn.out bq.out bg);clear bb au bg av)
    | (go_at_call 108
       (with_reducible refine CO.out.mono ?_);rintro e W3⟨ah,be⟩;obtain⟨A9,c9,rfl,d2⟩:∃A9 c9,e = .returned (.tuple #[.slice A9 (limbs (H-x)).length c9,.bool true])/\Zq .u32 W3 A9 (limbs (H-x)).length c9 (limbs (H-x)):=by
        rcases be with ⟨P,rfl⟩ | ⟨P,A9,c9,rfl,h3⟩
        ·have:=HX.out;omega
        exact⟨A9,c9,rfl,h3⟩
       have b7:=LH (b6.out.below ah);have ca:=LH d2;have b2:=LH (b1.out.trans (Zu.of_below ah));clear ah be d2))
   go_roundw
   case rel=>exact⟨j+1,H-x,A9,c9,rfl,AF,by rw[DW (AA:j+1<=kk)],AA,LH (λ_=>fp.out),LH (λh=>AA),ca,b7,b2⟩
   simp[intOf] <;> omega
  obtain rfl:j=kk:=AA
  have a8:Hid (H=q*Zx (Zv G) I (E-j)+L):=LH (by have:=cd.out;omega);have HX:Hid (H<x):=LH (by have h1:=fo.out;have P:=a8.out;omega);clear bf ct hx d9 M;go_wp2_with (first
   | (go_at_call 166
      (with_reducible refine CP.out.mono ?_);rintro e W2⟨bb,au,A8,n8,c8,d8,rfl,bg⟩;have av:=O.out.bk.keep au;have b6:=LH (O.out.off bb au);have bn:=LH (HN.out.kept av);have b1:=LH (bl.out.trans (Zu.of_int av));have CO:=LH (Zu6 R T H A8 n8 c8 d8 x W2 bn.out bq.out bg);clear bb au bg av)
   | (go_at_call 108
      (with_reducible refine CO.out.mono ?_);rintro e W3⟨ah,be⟩;obtain rfl:e = .returned (.tuple #[.slice R (limbs H).length T,.bool false]):=by
       rcases be with ⟨P,rfl⟩ | ⟨P,A9,c9,rfl,h3⟩
       ·rfl
       have:=HX.out;omega
      have b7:=LH (b6.out.below ah);have ca:=LH (bn.out.below ah);have b2:=LH (b1.out.trans (Zu.of_below ah));clear ah be))
  go_roundw
  case rel=>exact⟨j+1,H,R,T,rfl,AF,by rw[BR (AA:¬j+1<=j)],AA,LH (λh=>AA),LH (λ_=>a8.out),ca,b7,b2⟩
  simp[intOf] <;> omega
 obtain rfl:j=kk+1:=AA
 obtain rfl:=dd.out rfl;clear hj fw Hj dd;generalize bf:q*Zx (Zv G) I (E-kk)+L=H at *;have a8:=LH bf;clear bf;have g1:IntKind.i64.wrap ((kk:Int)+1-1)=(kk:Int):=by rw[Cc _ AA];omega
 obtain⟨F,a9⟩:∃F,Hid (Zx (Zv G) I (E-kk)=F):=⟨_,LH rfl⟩;have c2:Hid (F<big):=LH (by rw[<-a9.out];exact HF.out);have c0:Hid (0<F):=LH (by rw[<-a9.out];have:=df.out;omega);have cp:H=q*F+L:=by rw[<-a9.out];exact a8.out.symm
 have co:L<F:=by rw[<-a9.out];exact df.out
 have fk:Hid (H / F=q):=LH (by rw[cp,Ef,Nat.mul_add_div c0.out,Nat.div_eq_of_lt co,DO]);have fl:Hid (H % F=L):=LH (by rw[cp,Ef,Nat.mul_add_mod,Ee co]);have bq:Hid (H<big):=LH (by have h1:=cd.out;have P:=de.out;have h3:=a0.out;have h4:=a8.out;omega);have K2:Hid (J1 I (E-kk)):=LH ⟨λx hx=>HK.out.sym x (.tail _ hx),AA,AA⟩;have H2:Hid (∀x∈I,G.has x=true):=LH λx hx=>Hh.out x (.tail _ hx);clear cp co;go_upto_region 8 with fail;generalize decide (kk+1<=kk)=di at *;generalize ((kk+1:Nat):Int)=f4 at *;refine Yi (Γ:=Unit) (λ_ b u X=>(Wd W k h G S X/\Off k.map wr X)/\Do b u 99 undef) (λX U=>Zf X U) () (λu=>(⟨(.pointer (some ⟨mk,0,none⟩) :: .slice (some ⟨ab,ao,none⟩) (I.length+1) Y :: .int .i64 (E:Int) :: .slice R (limbs H).length T::undef::undef::undef::undef::u8 :: .int .i64 (kk:Int) :: .bool di::u 17::u 18::u 19 :: .slice (some ⟨ab,ao,none⟩) (I.length+1) Y :: .int .i64 ((I.length:Int)+1) :: .bool true :: .bool di::u18::u19::u20::u21::u22::u23::u24::u25::u26::u27::u28::u29::u30::u31::u32 :: .int .i64 f4 :: .int .i64 (kk:Int)::u 13::u 0::u 1::u 2::u 3::u 4::u 5::u 6::u 7::u 8::u 9::u 10::u 11::u 12::u 14::u 15::u 16::u52::u53::u54::u55::u56::u57::u58::u59::u60::u61::u62::u63::u64::u65::u66::u67::u68::u69::u70::u71::u72::[]).toArray,[]⟩:Act)) [u36,u37,u38,u39,u40,u41,u42,u43,u44,u45,u46,u47,u48,u35,u49,u50,u51,u11,u12,u13] [λv X=>v = .slice R (limbs H).length T,λv X=>v = .pointer (some ⟨mk,0,none⟩),λv X=>v = .pointer (some ⟨mk,0,none⟩),λv X=>v = .pointer (some ⟨mk,0,none⟩),λv X=>v = .pointer (some ⟨k.c,0,none⟩),λv X=>v = .slice (some ⟨ab,ao,none⟩) (I.length+1) Y,λv X=>v = .slice At I.length (Y-1),λv X=>v = .int .i64 (E:Int),λv X=>v = .int .i64 (kk:Int),λv X=>v = .int .i64 ((E-kk:Nat):Int),λv X=>∃A1 n1 c1 d1,v = .agg #[.slice A1 n1 c1,.bool d1]/\Z1 X A1 n1 c1 d1 F,λv X=>∃f o,v = .slice f (limbs F).length o/\Zq .u32 X f (limbs F).length o (limbs F),λv X=>∃f o Ar cr z,v = .tuple #[.slice f (limbs q).length o,.slice Ar (limbs L).length cr,.int .i64 z]/\Zq .u32 X f (limbs q).length o (limbs q)/\Zq .u32 X Ar (limbs L).length cr (limbs L),λv X=>∃f o Ar cr z,v = .tuple #[.slice f (limbs q).length o,.slice Ar (limbs L).length cr,.int .i64 z]/\Zq .u32 X f (limbs q).length o (limbs q)/\Zq .u32 X Ar (limbs L).length cr (limbs L),λv X=>∃f o,v = .slice f (limbs q).length o/\Zq .u32 X f (limbs q).length o (limbs q),λv X=>∃f o,v = .slice f (limbs L).length o/\Zq .u32 X f (limbs L).length o (limbs L),λv X=>∃z:Int,v = .int .i64 z,λv X=>∃f o,v = .slice f (limbs q).length o/\Zq .u32 X f (limbs q).length o (limbs q),λv X=>∃f o,v = .slice f (limbs L).length o/\Zq .u32 X f (limbs L).length o (limbs L),λv X=>∃z:Int,v = .int .i64 z] (l:=[_,_,_,_,_,_,_,_,_,_,_,_,_,_,_,_,_,_,_,_]) AB AB rfl ⟨⟨O.out.bk.below (AL _ _).drew,Off.of_below (AL _ _).drew⟩,λ_=>rfl⟩ ⟨AI,AI,AI,AI,AI,AI,AI,AI,AI,AI,(λv X U ⟨A1,n1,c1,d1,e,h⟩ J=>⟨A1,n1,c1,d1,e,h.kept J⟩),(λv X U ⟨f,o,e,h⟩ J=>⟨f,o,e,h.kept J⟩),(λv X U ⟨f,o,Ar,cr,z,e,h1,P⟩ J=>⟨f,o,Ar,cr,z,e,h1.kept J,P.kept J⟩),(λv X U ⟨f,o,Ar,cr,z,e,h1,P⟩ J=>⟨f,o,Ar,cr,z,e,h1.kept J,P.kept J⟩),(λv X U ⟨f,o,e,h⟩ J=>⟨f,o,e,h.kept J⟩),(λv X U ⟨f,o,e,h⟩ J=>⟨f,o,e,h.kept J⟩),(λv X U h _=>h),(λv X U ⟨f,o,e,h⟩ J=>⟨f,o,e,h.kept J⟩),(λv X U ⟨f,o,e,h⟩ J=>⟨f,o,e,h.kept J⟩),(λv X U h _=>h),trivial⟩ ?_ ?_
 ·refine Zw.con (λQ g b u X D N a d K B=>?_) ?_
  ·have C:=λv=>a.2.other 0 v AC;have y:=a.1;clear d a D;go_simp;exact B _ () _ ⟨AJ _,λ_ _ _=>rfl⟩ ⟨y,C _⟩ rfl
  refine Zw.con (λQ g b u X D N a d K B=>?_) ?_
  ·have C:=λv=>a.2.other 1 v AC;have y:=a.1;clear d a D;go_simp;exact B _ () _ ⟨AJ _,λ_ _ _=>rfl⟩ ⟨y,C _⟩ rfl
  refine Zw.con (λQ g b u X D N a d K B=>?_) ?_
  ·have p1:u 1=_:=(d 1 rfl).2;have C:=λv=>a.2.other 2 v AC;have y:=a.1;clear d a D;rw[p1] at B⊢;go_simp;exact B _ () _ ⟨AJ _,λ_ _ _=>rfl⟩ ⟨y,C _⟩ rfl
  refine Zw.con (λQ g b u X D N a d K B=>?_) ?_
  ·have p2:u 2=_:=(d 2 rfl).2;have C:=λv=>a.2.other 3 v AC;have y:=a.1;clear d a D;rw[p2] at B⊢;go_simp;exact B _ () _ ⟨AJ _,λ_ _ _=>rfl⟩ ⟨y,C _⟩ rfl
  refine Zw.con (λQ g b u X D N a d K B=>?_) ?_
  ·have p3:u 3=_:=(d 3 rfl).2;have C:=λv=>a.2.other 4 v AC;have y:=a.1;have gX:=y.2.blk O.out.box (O.out.bk.not_map O.out.box);have y0:X.cell? ⟨mk,0,none⟩=some (.pointer (some ⟨k.c,0,none⟩)):=gX.cell 0;have yl:=gX.lt;clear gX;clear d a D;rw[p3] at B⊢;go_simp;exact B _ () _ ⟨AJ _,λ_ _ _=>rfl⟩ ⟨y,C _⟩ rfl
  refine Zw.con (λQ g b u X D N a d K B=>?_) ?_
  ·have C:=λv=>a.2.other 5 v AC;have y:=a.1;clear d a D;go_simp;exact B _ () _ ⟨AJ _,λ_ _ _=>rfl⟩ ⟨y,C _⟩ rfl
  refine Zw.con (λQ g b u X D N a d K B=>?_) ?_
  ·have p5:u 5=_:=(d 5 rfl).2;have C:=λv=>a.2.other 6 v AC;have y:=a.1;clear d a D;rw[p5] at B⊢;go_simp;exact B _ () _ ⟨AJ _,λ_ _ _=>rfl⟩ ⟨y,C _⟩ rfl
  refine Zw.con (λQ g b u X D N a d K B=>?_) ?_
  ·have C:=λv=>a.2.other 7 v AC;have y:=a.1;clear d a D;go_simp;exact B _ () _ ⟨AJ _,λ_ _ _=>rfl⟩ ⟨y,C _⟩ rfl
  refine Zw.con (λQ g b u X D N a d K B=>?_) ?_
  ·have C:=λv=>a.2.other 8 v AC;have y:=a.1;clear d a D;go_simp;exact B _ () _ ⟨AJ _,λ_ _ _=>rfl⟩ ⟨y,C _⟩ rfl
  refine Zw.con (λQ g b u X D N a d K B=>?_) ?_
  ·have p7:u 7=_:=(d 7 rfl).2;have p8:u 8=_:=(d 8 rfl).2;have C:=λv=>a.2.other 9 v AC;have y:=a.1;have hw:IntKind.i64.wrap ((E:Int)-(kk:Int))=((E-kk:Nat):Int):=by rw[Cc _ AA];omega
   clear d a D;generalize u 7=x7 at *;subst p7;generalize u 8=x8 at *;subst p8;go_simp;exact B _ () _ ⟨AJ _,λ_ _ _=>rfl⟩ ⟨y,C _⟩ (by first | rfl | rw[hw])
  refine Zw.con (λQ g b u X D N a d K B=>?_) ?_
  ·have p4:u 4=_:=(d 4 rfl).2;have p6:u 6=_:=(d 6 rfl).2;have p9:u 9=_:=(d 9 rfl).2;have C:=λv=>a.2.other 10 v AC;have y:=a.1;have CC:=Zzz HB.out K2.out H2.out S X At (Y-1) y.1 (λb J=>AK (O.out.lt b J) y.2.size) (bz.out.below y.1.base);clear d a D;rw[p4,p6,p9] at B⊢;go_simp;go_at_call 109;(with_reducible refine CC.mono ?_);rintro e U⟨ft,dp,A1,n1,c1,d1,rfl,hv⟩;rw[a9.out] at hv;go_simp;exact B _ () _ (y.1.keep dp) ⟨⟨ft,y.2.map_trans dp⟩,C _⟩ ⟨A1,n1,c1,d1,rfl,hv⟩
  refine Zw.con (λQ g b u X D N a d K B=>?_) ?_
  ·obtain⟨A1,n1,c1,d1,f6,hv⟩:=(d 10 rfl).2;have C:=λv=>a.2.other 11 v AC;have y:=a.1;have dn:Zq .u32 X A1 n1 c1 (limbs F):=by
    have h1:=hv.2;rwa [Z7 c2.out] at h1
   obtain rfl:=dn.len;clear d a D;generalize u 10=hz at *;subst f6;go_simp;exact B _ () _ ⟨AJ _,λ_ _ _=>rfl⟩ ⟨y,C _⟩ ⟨_,_,rfl,dn⟩
  refine Zw.con (λQ g b u X D N a d K B=>?_) ?_
  ·have p0:u 0=_:=(d 0 rfl).2;obtain⟨f,o,f7,hn⟩:=(d 11 rfl).2;have C:=λv=>a.2.other 12 v AC;have y:=a.1;have fu:=HN.out.kept (O.out.bk.keep y.2);have CC:=nat_quo R _ T (limbs H) f _ o (limbs F) X fu hn (Z9 _) (Z9 _);rw[Zv2 bq.out c2.out c0.out,fk.out,fl.out] at CC;unfold RetQuo at CC;clear d a D;rw[p0] at B⊢;generalize u 11=h0 at *;subst f7;go_simp;go_at_call 167;(with_reducible refine CC.mono ?_);rintro e U⟨f,o,Ar,cr,rfl,aw,ax,J⟩;go_simp;exact B _ () _ (.of_below J) ⟨⟨y.1.below J,y.2.map_trans (Off.of_below J)⟩,C _⟩ ⟨f,o,Ar,cr,_,rfl,aw,ax⟩
  refine Zw.con (λQ g b u X D N a d K B=>?_) ?_
  ·obtain⟨f,o,Ar,cr,z,f8,aw,ax⟩:=(d 12 rfl).2;have C:=λv=>a.2.other 13 v AC;have y:=a.1;clear d a D;generalize u 12=h5 at *;subst f8;go_simp;exact B _ () _ ⟨AJ _,λ_ _ _=>rfl⟩ ⟨y,C _⟩ ⟨f,o,Ar,cr,z,rfl,aw,ax⟩
  refine Zw.con (λQ g b u X D N a d K B=>?_) ?_
  ·obtain⟨f,o,Ar,cr,z,bh,aw,ax⟩:=(d 13 rfl).2;have C:=λv=>a.2.other 14 v AC;have y:=a.1;clear d a D;generalize u 13=ff at *;subst bh;go_simp;exact B _ () _ ⟨AJ _,λ_ _ _=>rfl⟩ ⟨y,C _⟩ ⟨_,_,rfl,aw⟩
  refine Zw.con (λQ g b u X D N a d K B=>?_) ?_
  ·obtain⟨f,o,Ar,cr,z,bh,aw,ax⟩:=(d 13 rfl).2;have C:=λv=>a.2.other 15 v AC;have y:=a.1;clear d a D;generalize u 13=ff at *;subst bh;go_simp;exact B _ () _ ⟨AJ _,λ_ _ _=>rfl⟩ ⟨y,C _⟩ ⟨_,_,rfl,ax⟩
  refine Zw.con (λQ g b u X D N a d K B=>?_) ?_
  ·obtain⟨f,o,Ar,cr,z,bh,aw,ax⟩:=(d 13 rfl).2;have C:=λv=>a.2.other 16 v AC;have y:=a.1;clear d a D;generalize u 13=ff at *;subst bh;go_simp;exact B _ () _ ⟨AJ _,λ_ _ _=>rfl⟩ ⟨y,C _⟩ ⟨_,rfl⟩
  refine Zw.con (λQ g b u X D N a d K B=>?_) ?_
  ·obtain⟨f,o,f9,hn⟩:=(d 14 rfl).2;have C:=λv=>a.2.other 17 v AC;have y:=a.1;clear d a D;generalize u 14=h6 at *;subst f9;go_simp;exact B _ () _ ⟨AJ _,λ_ _ _=>rfl⟩ ⟨y,C _⟩ ⟨_,_,rfl,hn⟩
  refine Zw.con (λQ g b u X D N a d K B=>?_) ?_
  ·obtain⟨f,o,ga,hn⟩:=(d 15 rfl).2;have C:=λv=>a.2.other 18 v AC;have y:=a.1;clear d a D;generalize u 15=h7 at *;subst ga;go_simp;exact B _ () _ ⟨AJ _,λ_ _ _=>rfl⟩ ⟨y,C _⟩ ⟨_,_,rfl,hn⟩
  refine Zw.con (λQ g b u X D N a d K B=>?_) ?_
  ·obtain⟨z,gb⟩:=(d 16 rfl).2;have C:=λv=>a.2.other 19 v AC;have y:=a.1;clear d a D;generalize u 16=h8 at *;subst gb;go_simp;exact B _ () _ ⟨AJ _,λ_ _ _=>rfl⟩ ⟨y,C _⟩ ⟨_,rfl⟩
  exact Zw.nil
 intro _ b9 u X9 fv ag d;obtain⟨ag,fx⟩:=ag;clear fv fx;obtain⟨f,o,fc,d3⟩:=d 17 AC;obtain⟨Ar,cr,fd,d4⟩:=d 18 AC;obtain⟨jj,fe⟩:=d 19 AC;clear d b9;rw[fc,fd,fe];clear fc fd fe;generalize u 0=w0 at *;generalize u 1=w1 at *;generalize u 2=w2 at *;generalize u 3=w3 at *;generalize u 4=w4 at *;generalize u 5=w5 at *;generalize u 6=w6 at *;generalize u 7=w7 at *;generalize u 8=w8 at *;generalize u 9=w9 at *;generalize u 10=g7 at *;generalize u 11=g8 at *;generalize u 12=g9 at *;generalize u 13=ha at *;generalize u 14=hc at *;generalize u 15=hd at *;generalize u 16=he at *;clear u;have c5:=LH (O.out.off ag.1 ag.2);have b4:=LH (bl.out.trans (Zu.of_int (O.out.bk.keep ag.2)));have fh:=LH d3;have c6:=LH d4;have e0:X9.cell? ⟨ab,ao,none⟩=some (.int .i64 s):=(ag.1.base.cell (p:=⟨ab,ao+0,none⟩) du).trans f3;have el:=AK du ag.1.base.size;have g4:=(HK.out.sym s (By ..)).1;have g5:=(HK.out.sym s (By ..)).2;have hw:IntKind.i64.wrap ((E:Int)-(kk:Int))=((E-kk:Nat):Int):=by rw[Cc _ AA];omega
 have gr:=cb;have c3:Hid (InG G I):=al.out.tail;have fz:kk<=10:=AA
 clear ag d3 d4 O HN bl;by_cases a3:s<0
 case neg =>
  obtain⟨rfl,rfl,rfl⟩:=fn.out AA;have cc:Hid (V++t2=cs++t):=LH (by have:=bp.out;rwa [DA] at this);have cf:Hid (t2.length<=m):=LH (by have:=ce.out;rwa [DA] at this);go_wp2_with fail;go_roundw
  case rel=>exact⟨I,At,Y-1,E-1,L,Ar,cr,t2,V,rfl,AF,rfl,cb,c3,HF,K2,H2,bz,c6,LH ⟨S,A,c,c5.out⟩,b4,cc,cf⟩
  simp[slLen]
 have g6:IntKind.i64.wrap (-1-s)=((Zp s:Nat):Int):=by
  rw[Cc _ AA];unfold Zp;omega
 have CT:=fi.out mk V s kk q t1 f o X9 (by have:=ce.out;rw[AV] at this;omega) a3 (al.out s (By ..) a3) (fm.out a3) fj.out fz fh.out ⟨S,A,c,c5.out⟩;have f2:V.length+(t1.length+t2.length)=cs.length+t.length:=by
  have:=congrArg List.length bp.out;simp only[AV] at this;exact this
 by_cases gy:V.length+t1.length<=300
 case pos =>
  have bw:Hid (Calls prog 49 #[.pointer (some ⟨mk,0,none⟩),.int .i64 (Zp s:Int),.int .i64 (kk:Int),.slice f (limbs q).length o] X9 λe w'=>e = .returned (.bool true)/\Zu X9 w'/\MkAt W k h G mk (V++t1) w'):=LH (CT.mono λe w' hr=>by
   obtain⟨h1,⟨_,P,h3⟩ | ⟨P,_,_⟩⟩:=hr
   ·exact⟨P,h1,h3⟩
   omega)
  have cc:Hid (V++t1++t2=cs++t):=LH (by rw[DX];exact bp.out);have cf:Hid (t2.length<=m):=LH (by have:=ce.out;rw[AV] at this;omega);clear CT f2;go_wp2_with (first
   | (go_at_call 49
      (with_reducible refine bw.out.mono ?_);rintro e W6⟨rfl,a2,bc⟩;have b8:=LH bc;have fg:=LH (c6.out.nkept a2);have b3:=LH (b4.out.trans a2);clear a2 bc))
  go_roundw
  case rel=>exact⟨I,At,Y-1,E-kk,L,Ar,cr,t2,V++t1,rfl,AF,rfl,cb,c3,HF,K2,H2,bz,fg,b8,b3,cc,cf⟩
  simp[slLen]
 have bw:Hid (Calls prog 49 #[.pointer (some ⟨mk,0,none⟩),.int .i64 (Zp s:Int),.int .i64 (kk:Int),.slice f (limbs q).length o] X9 λe w'=>e = .returned (.bool false)/\Zu X9 w'/\Below W W w'):=LH (CT.mono λe w' hr=>by
  obtain⟨h1,⟨P,_,_⟩ | ⟨_,P,h3⟩⟩:=hr
  ·omega
  exact⟨P,h1,h3⟩)
 clear CT;go_wp2_with (first
  | (go_at_call 49
     (with_reducible refine bw.out.mono ?_);rintro e W6⟨rfl,a2,bc⟩;have b8:=LH bc;have b3:=LH (b4.out.trans a2);clear a2 bc))
 go_ret;exact⟨b3.out,.inr ⟨AA,rfl,b8.out⟩⟩
theorem Zvi{b:World}{k:BkH}{h:GH}{G:Gr}(c:BkG b h G)(d:Xq G):∀m,TC b k h G m/\FC b k h G m
 | 0=>by
   have a:TC b k h G 0:=by
    intro mk j s n r t Ar cr w f h0 l a;obtain⟨i,x,q,o,_,_,_,_,rfl⟩:=a;rw[List.length_cons] at f;omega
   exact⟨a,Zw0 c d 0 a⟩
 | m+1=>by
   have g:=Zvi (k:=k) c d m;have a:=tr_mtree c d m g.2;exact⟨a,Zw0 c d (m+1) a⟩
