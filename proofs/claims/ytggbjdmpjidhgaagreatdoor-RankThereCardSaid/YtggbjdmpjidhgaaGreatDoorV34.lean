/- how many forests any symbols have: the program's Of, walked. -/
import Derived.Test.YtggbjdmpjidhgaaGreatDoorV29
import Derived.Test.YtggbjdmpjidhgaaGreatDoorV31
set_option linter.all false
set_option maxHeartbeats 1500000
set_option maxRecDepth 100000
namespace Go.Proofs.YtggbjdmpjidhgaaGreatDoor
open Go.RowKit Go.Proofs.Tryz
variable{k:BkH}{h:GH}{G:Gr}
theorem Zus(h:GH)(G:Gr)(n:Int)(w:World)(hg:Yf w h G)(z:∀t∈G.terms,t.name.size<=maxLen)(ak:Q2 w)(h1:h.n1<=100)(h2:h.n2<=100)(h3:h.n3<=100):
 Calls prog 19 #[GV h G.start,.int .i64 n] w (Xr w (Z2 G n)):=by
 obtain⟨a1,n1,c1,a2,n2,c2,a3,n3,c3⟩:=h;simp only[] at h1 h2 h3;have Hg:=LH hg;have N:=LH z;have az:=LH ak;have O:=Zy w (.cells #[.slice a1 n1 c1,.slice a2 n2 c2,.slice a3 n3 c3,.int .i64 G.start] 26);have U:=Y1.new w 26 ⟨a1,n1,c1,a2,n2,c2,a3,n3,c3⟩ G.start;clear hg z ak;go_enter func19,ntmps19;have⟨z5,z0,z1,z2,z3⟩:=U;simp only[] at z0 z1 z2 z3;go_upto_region 1 with fail;generalize w.alloc (.cells #[.slice a1 n1 c1,.slice a2 n2 c2,.slice a3 n3 c3,.int .i64 G.start] 26)=W0 at *;have b:=LH (J4 ⟨a1,n1,c1,a2,n2,c2,a3,n3,c3⟩ G W0 (Hg.out.below O) N.out (by simp only[];omega) (by simp only[];omega));have F:=LH O;have a0:=LH U;have k:(G.right=false\/n<0\/10<n)->Z2 G n=([],1):=λhh=>by unfold Z2;rw[if_pos hh]
 have M:Hid (∀w' g,Below w.heap.size w w'->Z2 G n=([],g)->Xr w (Z2 G n) (.returned (.tuple #[.slice none 0 0,.int .i64 (g:Int)])) w'):=LH λw' g hb he=>by rw[he];exact⟨none,0,rfl,Zq.nil _ _ _ _ AA,hb⟩
 clear O U;cases f:G.right
 case false =>
  have I:=LH (k (.inl f));rw[f] at b;clear k;go_wp2_with (go_at_call 56;(with_reducible refine b.out.mono ?_);rintro e w6⟨rfl,d⟩);go_ret2;exact M.out _ 1 (Zz F.out d) I.out
 rw[f] at b;by_cases V:0<=n/\n<=10
 case neg =>
  have I:=LH (k (by rcases (AA:n<0\/10<n) with h | h;exact .inr (.inl h);exact .inr (.inr h)));have l:(decide (0<=n)&&decide (n<=10))=false:=by rw[Bool.and_eq_false_iff,AY,AY];omega
  have a:=λX=>Ld n X;rw[l] at a;have E:=LH a;clear k l a V;go_wp2_with (first
   | (go_at_call 56;(with_reducible refine b.out.mono ?_);rintro e w6⟨rfl,d⟩)
   | (go_at_call 43;(with_reducible refine (E.out _).mono ?_);rintro e w7⟨rfl,rfl⟩))
  go_ret2;exact M.out _ 1 (Zz F.out d) I.out
 have be:¬n<0:=AA
 have bf:¬10<n:=AA
 have l:(decide (0<=n)&&decide (n<=10))=true:=by rw[AR,BB,BB];exact V
 have a:=λX=>Ld n X;rw[l] at a;have E:=LH a;clear l a V;have Hr:=LH f;have ap:Z2 G n=if Xp G=false then ([],0) else Wi (Zi G) [-1-(Zi G).start] n:=by
  unfold Z2;rw[if_neg];rintro (h | h | h)
  ·rw[f] at h;cases h
  ·exact be h
  exact bf h
 have L:=LH ap;clear k ap f;go_wp2_with (first
  | (go_at_call 56
     (with_reducible refine b.out.mono ?_);rintro e W1⟨rfl,S⟩;obtain⟨y5,Y,Z,y2,y3⟩:=a0.out.below S;simp only[] at Y Z y2 y3)
  | (go_at_call 43;(with_reducible refine (E.out _).mono ?_);rintro e w7⟨rfl,rfl⟩))
 have P:=Zz F.out S;clear b z0 z1 z2 z3 z5 S;have r:=Zuf ⟨a1,n1,c1,a2,n2,c2,a3,n3,c3⟩ G W1 (Hg.out.below P) N.out h1 h2 h3;unfold Dh at r;(with_reducible refine r.mono ?_);rintro e W3⟨T,⟨ar,g,bc,rfl⟩ | ⟨m,h',Ak,nk,ck,rfl,an,m1,m2,m3⟩⟩
 ·have j:=Zz P T;have bq:(g != 0)=true:=by rw[BN];exact bc
  have J:Hid (Z2 G n=([],0)):=LH (by rw[L.out,if_pos ar]);clear r ar Y Z y2 y3 y5;go_wp2_with fail;go_ret2;exact M.out _ 0 (j.trans ((Zy W3 _).mono j.size)) J.out
 have j:=Zz P T;have W:G.right=true/\(Zt G).getD G.start.toNat false=true:=by unfold Xp at m;rw[AR] at m;exact m
 have ai:=Ju W.1 W.2;have J:Hid (Z2 G n=Wi (Zi G) [-1-(Zi G).start] n):=LH (by rw[L.out,if_neg (by rw[m];simp)]);obtain⟨o,A,u,p,B,v,q,C,x⟩:=h';have a5:Hid (∀t∈(Zi G).terms,t.name.size<=maxLen):=LH (by rw[Db];exact N.out);generalize Zi G=H at *;obtain⟨bu,bv,bw⟩:=Zsk ai;clear r Y Z y2 y3 y5 m W ai L;simp only[] at m1 m2 m3;have R:=Zy W3 (.cells #[.slice o A u,.slice p B v,.slice q C x,.int .i64 H.start] 26);have al:=Y1.new W3 26 ⟨o,A,u,p,B,v,q,C,x⟩ H.start;have ah:=Zz j R;have ao:=an.below R;go_upto_region 4 with fail;generalize W3.alloc (.cells #[.slice o A u,.slice p B v,.slice q C x,.int .i64 H.start] 26)=c at *;generalize W3.heap.size=gH at *;have a4:=LH ao;have ad:=LH ah;have⟨x5,x0,x1,x2,x3⟩:=al;simp only[] at x0 x1 x2 x3;have br:IntKind.i64.wrap (-1-H.start)=-1-H.start:=BT _ AA;have y:=Zy c (.cells #[.int .i64 (-1-H.start)] 3);have hL:Za .i64 (c.alloc (.cells #[.int .i64 (-1-H.start)] 3)) (some ⟨c.heap.size,0,none⟩) 1 1 [-1-H.start]:=N6 c 3 (ints .i64 [-1-H.start]) 1 _ rfl rfl AC;have D:=LH (tr_cOf ⟨o,A,u,p,B,v,q,C,x⟩ H (some ⟨c.heap.size,0,none⟩) 1 [-1-H.start] n (c.alloc (.cells #[.int .i64 (-1-H.start)] 3)) (a4.out.below y) a5.out (az.out.below (Zz ad.out y)) (by simp only[];omega) (by simp only[];omega) (by simp only[];omega) hL (λs z=>by rw[BV.1 z];unfold U3;omega));have aw:=LH (Zz ad.out y);simp only[AW,DS,BH] at D;clear hL y ao ah R an j T al;go_wp2_with fail;(with_reducible refine D.out.mono ?_);rintro e W6⟨A6,c6,rfl,aq,d⟩;have ay:=LH aq;have ax:=LH (Zz aw.out d);clear aq d D;generalize Wi H [-1-H.start] n=bt at *;go_wp2_with fail;go_ret2;rw[J.out];exact⟨A6,c6,rfl,ay.out,ax.out⟩
theorem tr_ttree{W0:World}(hB:BkG W0 h G)(hP:Xq G)(m:Nat)(HF:FT W0 k h G m):TT W0 k h G (m+1):=by
 intro B s n r t z w gd h0 hl hT dl hn f1;obtain⟨D,d,q,t1,ax,dx,hU,dt,rfl⟩:=hT;have ci:Z0 (Zv G) G.rules (Zp s) (D+1) n<=Zv G s n:=by
  rw[Uu hP h0 hl];exact Kj _ _ _ _ _
 have hq:q<Zx (Zv G) d.right n:=hU.lt hP (InG.at hP.fits ax);rw[Y3 _ ax,if_pos dx] at ci;have g7:D<G.rules.length:=(AN.1 ax).1;have dw:d.left=(Zp s:Int):=by
  have:=(hP.fits.left d (AL ax)).1;omega
 have c1:Hid (∀(j:Nat) (x:Rul),G.rules[j]? = some x->J1 x.right n/\(∀s∈x.right,G.has s=true)/\0<=x.left):=LH λj x hx=>by
  have h1:=Bg hP.fits (AL hx) hn;exact⟨h1.1,h1.2,(hP.fits.left x (AL hx)).1⟩
 have c2:Hid (∀(j:Nat) (x:Rul),G.rules[j]? = some x->Z0 (Zv G) G.rules (Zp s) (j+1) n=Z0 (Zv G) G.rules (Zp s) j n+(if x.left.toNat=Zp s then Zx (Zv G) x.right n else 0)):=LH λj x hx=>Y3 _ hx _ _;have fj:Hid (∀j,j<=D->Z0 (Zv G) G.rules (Zp s) j n<=Z0 (Zv G) G.rules (Zp s) D n):=LH λj hj=>Vf _ _ _ _ hj;have d8:Hid (InG G d.right):=LH (InG.at hP.fits ax);obtain⟨S,A,c,U⟩:=f1;obtain⟨Z,hZ⟩:∃Z,t1.map (λi:Nat=>(i:Int))++z=Z:=⟨_,rfl⟩;have U:Cc W0 k h G B ((D:Int)::Z) S A c w:=by rw[<-hZ];exact U
 obtain⟨a1,n1,d1,a2,n2,d2,a3,n3,d3⟩:=h;obtain⟨gc,gt⟩:=k;have hd:n3=G.rules.length:=hB.at_.rules.len.symm;have f4:=hB.at_.rules.cap;have hg:=hP.fits.n3.2;obtain⟨J,L,fu,am,ds⟩:=hB.at_.rules.2.2.2 (by show 0<n3;omega);obtain rfl:a3=some ⟨J,L,none⟩:=fu;obtain⟨ab,ao,i1,rfl,g4,c0,du⟩:=U.row.get (j:=0) AE;obtain rfl:(D:Int)=i1:=by
  have:=c0.out;simpa using this
 have f5:=U.row.cap;rw[AW] at f5;obtain⟨At,ft⟩:∃At:Option Addr,(if c=1 then some (⟨ab,ao,none⟩:Addr) else some ⟨ab,ao+1,none⟩)=At:=⟨_,rfl⟩;have dg:=U.next ft;have ct:=LH ds;have c7:=LH dw;clear dw;have HB:=LH hB;have d6:=LH HF;have HU:=LH hU;have c6:=LH ax;have cz:=LH dl;have bw:=LH dg;have c4:=LH ci;have fn:=LH dt;have Hq:=LH hq;have HZ:=LH hZ;have g0:w.cell? ⟨B,0,none⟩=some (.pointer (some ⟨gc,0,none⟩)):=U.box.cell 0;have g2:w.cell? ⟨B,1,none⟩=some (.slice (some ⟨ab,ao,none⟩) (Z.length+1) c):=U.box.cell 1;have g3:=U.box.frozen 1;have g1:=U.box.lt;have e0:w.cell? ⟨ab,ao,none⟩=some (.int .i64 (D:Int)):=du;have hf:(1:Int)<=(Z.length:Int)+1:=AA
 have g6:(1:Int)<=(c:Int):=AA
 clear hB hP HF hU ax dx dl U dg ci dt hq h0 hl hZ ds c0 du;go_enter func73,ntmps73;go_upto_region 3 with fail;generalize w.setCell ⟨B,1,none⟩ (.slice At Z.length (c-1))=W1 at *;clear g0 g1 g2 g3 e0;have R:=bw.out.1;have cn:=LH bw.out.2;have fe:=LH R;clear bw;have g0:W1.cell? ⟨B,0,none⟩=some (.pointer (some ⟨gc,0,none⟩)):=R.box.cell 0;have g1:=R.box.lt;have b2:W1.cell? ⟨gc,2,none⟩=some (.slice (some ⟨J,L,none⟩) n3 d3):=R.bk.box.cell 2;have b4:=R.bk.box.lt;obtain⟨T,V,q0,q1,q2,de⟩:=ct.out D d c6.out;have e0:=(R.bk.base.cell (p:=⟨J,L+D*3,none⟩) am).trans q0;have e1:=(R.bk.base.cell (p:=⟨J,L+D*3+1,none⟩) am).trans q1;have e2:=(R.bk.base.cell (p:=⟨J,L+D*3+2,none⟩) am).trans q2;have cf:=AJ am R.bk.base.size;have d9:=LH de;have ag:=Zy W1 (.cells #[.int .i64 d.left,.slice T d.right.length V,.int .i64 d.prec] 52);have Y:=Blk.new W1 52 #[.int .i64 d.left,.slice T d.right.length V,.int .i64 d.prec];have cp:=LH (R.below ag);have co:=LH (cn.out.trans (.of_below ag));clear R q0 q1 q2 de ag fe cn;go_upto_region 4 with fail;clear g0 g1 b2 b4 e0 e1 e2 cf;generalize W1.alloc (.cells #[.int .i64 d.left,.slice T d.right.length V,.int .i64 d.prec] 52)=W2 at *;generalize W1.heap.size=W at *;have bh:=LH Y;have y1:W2.cell? ⟨W,1,none⟩=some (.slice T d.right.length V):=Y.cell 1;have yl:=Y.lt;have bb:=c1.out D d c6.out;have CF:=LH (d6.out B d.right n q t1 z T V W2 (by rw[AW] at gd;omega) HU.out d8.out (by have h1:=c4.out;have h2:=cz.out;omega) bb.1 bb.2.1 d9.out ⟨S,At,c-1,by rw[HZ.out];exact cp.out⟩);clear Y bb;go_upto_region 5 with (first
  | (go_at_call 123
     (with_reducible refine CF.out.mono ?_);rintro e W3⟨A3,c3,rfl,dp,dj,cg⟩;have cr:=LH dp;have cu:=LH dj;have fb:=LH (co.out.trans cg);have bi:Hid (Blk W3 W 52 #[.int .i64 d.left,.slice T d.right.length V,.int .i64 d.prec]):=LH ((cg.2 W bh.out.lt ⟨0,.i64,d.left,bh.out.cell 0⟩).trans bh.out);clear dp dj cg))
 obtain⟨S5,A5,c5,T5⟩:=cu.out;have g0:W3.cell? ⟨B,0,none⟩=some (.pointer (some ⟨gc,0,none⟩)):=T5.box.cell 0;have g1:=T5.box.lt;have b2:W3.cell? ⟨gc,2,none⟩=some (.slice (some ⟨J,L,none⟩) n3 d3):=T5.bk.box.cell 2;have b4:=T5.bk.box.lt;have cw:=LH T5;have g8:(D:Int)<=(d3:Int):=by have:=f4.1;omega
 have ha:(0:Int)<=(D:Int):=AA
 clear T5 cu CF bh co cp y1 yl;go_upto_region 6 with fail;go_loopw [6,53] (λv i wr=>∃(j:Nat) (Av:Option Addr) (cv:Nat) (S A:_) (c:Nat),i = .int .i64 (j:Int)/\j<=D/\v = .slice Av (limbs (q+Z0 (Zv G) G.rules (Zp s) j n)).length cv/\Hid (Zq .u32 wr Av (limbs (q+Z0 (Zv G) G.rules (Zp s) j n)).length cv (limbs (q+Z0 (Zv G) G.rules (Zp s) j n)))/\Hid (Cc W0 ⟨gc,gt⟩ ⟨a1,n1,d1,a2,n2,d2,some ⟨J,L,none⟩,n3,d3⟩ G B z S A c wr)/\Hid (Zf W3 wr)) (λ_ i _=>D-(intOf i).toNat)
 case atStart=>exact⟨0,A3,c3,S5,A5,c5,rfl,AU _,by rw[Qb,DJ],LH (by rw[Qb,DJ];exact cr.out),cw,LH ⟨AI _,λ_ _ _=>rfl⟩⟩
 clear cr cw g0 g1 b2 b4;obtain⟨j,Av,cv,S',A',c',rfl,hj,rfl,HN,HM,a7⟩:=hrel;obtain⟨v,hv⟩:∃v,q+Z0 (Zv G) G.rules (Zp s) j n=v:=⟨_,rfl⟩;rw[hv] at HN ⊢;have Hv:=LH hv;clear hv;have M:=HM.out;have X5:=(a7.out.2 W bi.out.lt ⟨0,.i64,d.left,bi.out.cell 0⟩).trans bi.out;have f0:wr.cell? ⟨W,0,none⟩=some (.int .i64 d.left):=Blk.cell (cs:=#[.int .i64 d.left,.slice T d.right.length V,.int .i64 d.prec]) X5 0;have fl:=AJ bi.out.lt a7.out.1;by_cases hc:j<D
 case neg =>
  obtain rfl:j=D:=AA
  have bu:=LH (fb.out.trans a7.out);have Hr:Hid (v=r):=LH (by have h1:=Hv.out;have h2:=fn.out;omega);clear M X5;go_wp2_with fail;go_ret2;have hr:=Hr.out;subst hr;exact⟨Av,cv,rfl,HN.out,⟨S',A',c',HM.out⟩,bu.out⟩
 obtain⟨y,hy⟩:∃y,G.rules[j]? = some y:=⟨_,AM AA⟩;obtain⟨Ay,cy,q0,q1,q2,df⟩:=ct.out j y hy;have e0:=(M.bk.base.cell (p:=⟨J,L+j*3,none⟩) am).trans q0;have e1:=(M.bk.base.cell (p:=⟨J,L+j*3+1,none⟩) am).trans q1;have e2:=(M.bk.base.cell (p:=⟨J,L+j*3+2,none⟩) am).trans q2;have cf:=AJ am M.bk.base.size;have fa:=LH df;have Hy:=LH hy;have ag:=Zy wr (.cells #[.int .i64 y.left,.slice Ay y.right.length cy,.int .i64 y.prec] 52);have Y:=Blk.new wr 52 #[.int .i64 y.left,.slice Ay y.right.length cy,.int .i64 y.prec];have dk:Blk wr W 52 #[.int .i64 d.left,.slice T d.right.length V,.int .i64 d.prec]:=X5;have cd:=dk.ext ag;have P:=LH (M.below ag);have bt:=LH (a7.out.trans (.of_below ag));have bx:=LH (HN.out.below ag);clear M X5 dk q0 q1 q2 df hy ag HM HN a7;go_upto_region 8 with fail;clear e0 e1 e2 cf f0 fl;generalize wr.alloc (.cells #[.int .i64 y.left,.slice Ay y.right.length cy,.int .i64 y.prec] 52)=W4 at *;generalize wr.heap.size=g9 at *;have z0:W4.cell? ⟨g9,0,none⟩=some (.int .i64 y.left):=Y.cell 0;have z1:W4.cell? ⟨g9,1,none⟩=some (.slice Ay y.right.length cy):=Y.cell 1;have zl:=Y.lt;have f0:W4.cell? ⟨W,0,none⟩=some (.int .i64 d.left):=cd.cell 0;have fl:=cd.lt;have bz:=LH Y;clear Y cd;have bn:=c1.out j y Hy.out;have fc:=LH bn.1;have fi:=LH bn.2.1;have he:=bn.2.2;clear bn;by_cases bp:y.left=d.left
 case neg =>
  have f9:(y.left==d.left)=false:=by rw[AP];exact bp
  have ay:Hid (q+Z0 (Zv G) G.rules (Zp s) (j+1) n=v):=LH (by
   have h1:=c7.out;rw[c2.out j y Hy.out,if_neg AA];exact Hv.out)
  clear bp;go_wp2_with fail;go_roundw
  case rel=>exact⟨j+1,Av,cv,S',A',c',AF,AA,by rw[ay.out],LH (by rw[ay.out];exact bx.out),P,bt⟩
  simp[intOf] <;> omega
 have f9:(y.left==d.left)=true:=by rw[BP];exact bp
 obtain⟨x,c8⟩:∃x,Hid (Zx (Zv G) y.right n=x):=⟨_,LH rfl⟩;have gb:Z0 (Zv G) G.rules (Zp s) (j+1) n=Z0 (Zv G) G.rules (Zp s) j n+x:=by
  have h1:=c7.out;rw[c2.out j y Hy.out,if_pos AA,c8.out]
 have ay:Hid (q+Z0 (Zv G) G.rules (Zp s) (j+1) n=v+x):=LH (by have:=Hv.out;omega);have dv:v+x<big:=by
  have h1:=ay.out;have h2:=fj.out (j+1) AA;have h3:=c4.out;have h4:=Hq.out;have h5:=cz.out;omega
 have fo:=LH dv;have d7:Hid (x<big):=LH AA;clear bp gb dv;go_upto_region 9 with fail;generalize v=vv at *;refine Yi (Γ:=Unit) (λ_ b u X=>(Wd W0 ⟨gc,gt⟩ ⟨a1,n1,d1,a2,n2,d2,some ⟨J,L,none⟩,n3,d3⟩ G S' X/\Off (BkH.map ⟨gc,gt⟩) W4 X)/\Do b u 11 (.slice Av (limbs vv).length cv)) (λX X'=>Zf X X') () (λu=>(⟨(.pointer (some ⟨B,0,none⟩)::undef :: .slice none 0 0 :: .int .i64 0 :: .int .i64 (D:Int) :: .pointer (some ⟨W,0,none⟩)::u 11 :: .int .i64 (n:Int)::undef :: .pointer (some ⟨g9,0,none⟩) :: .pointer (some ⟨B,0,none⟩) :: .pointer (some ⟨B,0,none⟩) :: .pointer (some ⟨B,1,none⟩) :: .slice (some ⟨ab,ao,none⟩) (Z.length+1) c :: .pointer (some ⟨ab,ao,none⟩) :: .int .i64 (D:Int) :: .pointer (some ⟨B,0,none⟩) :: .pointer (some ⟨B,0,none⟩) :: .pointer (some ⟨B,0,none⟩) :: .pointer (some ⟨B,1,none⟩) :: .slice (some ⟨ab,ao,none⟩) (Z.length+1) c :: .slice At Z.length (c-1) :: .pointer (some ⟨B,0,none⟩) :: .pointer (some ⟨B,1,none⟩) :: .pointer (some ⟨B,0,none⟩) :: .pointer (some ⟨B,0,none⟩) :: .pointer (some ⟨B,0,none⟩) :: .pointer (some ⟨gc,0,none⟩) :: .pointer (some ⟨gc,0,none⟩) :: .pointer (some ⟨gc,0,none⟩) :: .pointer (some ⟨gc,2,none⟩) :: .slice (some ⟨J,L,none⟩) G.rules.length d3 :: .int .i64 (D:Int) :: .pointer (some ⟨J,L+D*3,none⟩) :: .agg #[.int .i64 d.left,.slice T d.right.length V,.int .i64 d.prec] :: .tuple #[.slice A3 (limbs q).length c3,.int .i64 (n:Int)] :: .pointer (some ⟨B,0,none⟩) :: .pointer (some ⟨W,1,none⟩) :: .slice T d.right.length V :: .tuple #[.slice A3 (limbs q).length c3,.int .i64 (n:Int)] :: .slice A3 (limbs q).length c3 :: .int .i64 (n:Int) :: .pointer (some ⟨B,0,none⟩) :: .pointer (some ⟨B,0,none⟩) :: .pointer (some ⟨B,0,none⟩) :: .pointer (some ⟨gc,0,none⟩) :: .pointer (some ⟨gc,0,none⟩) :: .pointer (some ⟨gc,0,none⟩) :: .pointer (some ⟨gc,2,none⟩) :: .slice (some ⟨J,L,none⟩) G.rules.length d3 :: .int .i64 (D:Int) :: .slice (some ⟨J,L,none⟩) D d3 :: .int .i64 (D:Int) :: .int .i64 (j:Int) :: .bool true :: .pointer (some ⟨J,L+j*3,none⟩) :: .agg #[.int .i64 y.left,.slice Ay y.right.length cy,.int .i64 y.prec] :: .pointer (some ⟨g9,0,none⟩) :: .int .i64 y.left :: .pointer (some ⟨W,0,none⟩) :: .int .i64 d.left :: .bool true::u 0::u 1::u 2::u 3::u 4::u 5::u 6::u 7::u 8::u 9::u 10::u73::undef::undef::[]).toArray,[]⟩:Act)) [u62,u63,u64,u65,u66,u67,u68,u69,u70,u71,u72,.slice Av (limbs vv).length cv] [λv X=>v = .slice Av (limbs vv).length cv,λv X=>v = .pointer (some ⟨B,0,none⟩),λv X=>v = .pointer (some ⟨B,0,none⟩),λv X=>v = .pointer (some ⟨B,0,none⟩),λv X=>v = .pointer (some ⟨gc,0,none⟩),λv X=>v = .pointer (some ⟨g9,1,none⟩),λv X=>v = .slice Ay y.right.length cy,λv X=>v = .int .i64 (n:Int),λv X=>∃A1 ap aj av,v = .agg #[.slice A1 ap aj,.bool av]/\Z1 X A1 ap aj av x,λv X=>∃H I,v = .slice H (limbs (x)).length I/\Zq .u32 X H (limbs (x)).length I (limbs (x)),λv X=>∃H I,v = .slice H (limbs (vv+x)).length I/\Zq .u32 X H (limbs (vv+x)).length I (limbs (vv+x)),λv X=>∃H I,v = .slice H (limbs (vv+x)).length I/\Zq .u32 X H (limbs (vv+x)).length I (limbs (vv+x))] (l:=[_,_,_,_,_,_,_,_,_,_,_,_]) AB AB rfl ⟨⟨P.out.bk.below (AK _ _).drew,Off.of_below (AK _ _).drew⟩,λ_=>rfl⟩ ⟨λ_ _ _ h _=>h,λ_ _ _ h _=>h,λ_ _ _ h _=>h,λ_ _ _ h _=>h,λ_ _ _ h _=>h,λ_ _ _ h _=>h,λ_ _ _ h _=>h,λ_ _ _ h _=>h,(λv X X' ⟨A1,ap,aj,av,e,h⟩ N=>⟨A1,ap,aj,av,e,h.kept N⟩),(λv X X' ⟨H,I,e,h⟩ N=>⟨H,I,e,h.kept N⟩),(λv X X' ⟨H,I,e,h⟩ N=>⟨H,I,e,h.kept N⟩),(λv X X' ⟨H,I,e,h⟩ N=>⟨H,I,e,h.kept N⟩),trivial⟩ ?_ ?_
 ·refine Zw.cons rfl (λ_ _=>rfl) (λQ g b u X C O a f K E=>?_) ?_
  ·have f3:b 11=false:=AZ.2 λh=>by
    have h0:=C 11 _ rfl h 10 rfl;have h1:=C 10 _ rfl h0 0 rfl;exact absurd (O.symm.trans h1) AC
   have bb:u 11=_:=a.2 f3;have F:=λv=>a.2.other 0 v AC;have o:=a.1;clear f a C;generalize u 11=xk at *;subst bb;go_simp;exact E _ () _ ⟨AI _,λ_ _ _=>rfl⟩ ⟨o,F _⟩ rfl
  refine Zw.cons rfl (λ_ _=>rfl) (λQ g b u X C O a f K E=>?_) ?_
  ·have F:=λv=>a.2.other 1 v AC;have o:=a.1;clear f a C;go_simp;exact E _ () _ ⟨AI _,λ_ _ _=>rfl⟩ ⟨o,F _⟩ rfl
  refine Zw.cons rfl (λ_ _=>rfl) (λQ g b u X C O a f K E=>?_) ?_
  ·have p1:u 1=_:=(f 1 rfl).2;have F:=λv=>a.2.other 2 v AC;have o:=a.1;clear f a C;generalize u 1=x1 at *;subst p1;go_simp;exact E _ () _ ⟨AI _,λ_ _ _=>rfl⟩ ⟨o,F _⟩ rfl
  refine Zw.cons rfl (λ_ _=>rfl) (λQ g b u X C O a f K E=>?_) ?_
  ·have p2:u 2=_:=(f 2 rfl).2;have F:=λv=>a.2.other 3 v AC;have o:=a.1;clear f a C;generalize u 2=x2 at *;subst p2;go_simp;exact E _ () _ ⟨AI _,λ_ _ _=>rfl⟩ ⟨o,F _⟩ rfl
  refine Zw.cons rfl (λ_ _=>rfl) (λQ g b u X C O a f K E=>?_) ?_
  ·have p3:u 3=_:=(f 3 rfl).2;have F:=λv=>a.2.other 4 v AC;have o:=a.1;have gX:=o.2.blk P.out.box (P.out.bk.not_map P.out.box);have y0:X.cell? ⟨B,0,none⟩=some (.pointer (some ⟨gc,0,none⟩)):=gX.cell 0;have yl:=gX.lt;clear gX;clear f a C;generalize u 3=x3 at *;subst p3;go_simp;exact E _ () _ ⟨AI _,λ_ _ _=>rfl⟩ ⟨o,F _⟩ rfl
  refine Zw.cons rfl (λ_ _=>rfl) (λQ g b u X C O a f K E=>?_) ?_
  ·have F:=λv=>a.2.other 5 v AC;have o:=a.1;clear f a C;go_simp;exact E _ () _ ⟨AI _,λ_ _ _=>rfl⟩ ⟨o,F _⟩ rfl
  refine Zw.cons rfl (λ_ _=>rfl) (λQ g b u X C O a f K E=>?_) ?_
  ·have p5:u 5=_:=(f 5 rfl).2;have F:=λv=>a.2.other 6 v AC;have o:=a.1;have gX:=o.2.blk bz.out (P.out.bk.not_map bz.out);have y0:X.cell? ⟨g9,1,none⟩=some (.slice Ay y.right.length cy):=gX.cell 1;have yl:=gX.lt;clear gX;clear f a C;generalize u 5=x5 at *;subst p5;go_simp;exact E _ () _ ⟨AI _,λ_ _ _=>rfl⟩ ⟨o,F _⟩ rfl
  refine Zw.cons rfl (λ_ _=>rfl) (λQ g b u X C O a f K E=>?_) ?_
  ·have F:=λv=>a.2.other 7 v AC;have o:=a.1;clear f a C;go_simp;exact E _ () _ ⟨AI _,λ_ _ _=>rfl⟩ ⟨o,F _⟩ rfl
  refine Zw.cons rfl (λ_ _=>rfl) (λQ g b u X C O a f K E=>?_) ?_
  ·have p4:u 4=_:=(f 4 rfl).2;have p6:u 6=_:=(f 6 rfl).2;have p7:u 7=_:=(f 7 rfl).2;have F:=λv=>a.2.other 8 v AC;have o:=a.1;have CC:=Zzz HB.out fc.out fi.out S' X Ay cy o.1 (λb N=>AJ (P.out.lt b N) o.2.size) (fa.out.below o.1.base);clear f a C;generalize u 4=x4 at *;subst p4;generalize u 6=x6 at *;subst p6;generalize u 7=x7 at *;subst p7;go_simp;go_at_call 125;(with_reducible refine CC.mono ?_);rintro e X'⟨fx,di,A1,ap,aj,av,rfl,hv⟩;rw[c8.out] at hv;go_simp;exact E _ () _ (o.1.keep di) ⟨⟨fx,o.2.map_trans di⟩,F _⟩ ⟨A1,ap,aj,av,rfl,hv⟩
  refine Zw.cons rfl (λ_ _=>rfl) (λQ g b u X C O a f K E=>?_) ?_
  ·obtain⟨A1,ap,aj,av,p8,hv⟩:=(f 8 rfl).2;have F:=λv=>a.2.other 9 v AC;have o:=a.1;have dh:Zq .u32 X A1 ap aj (limbs x):=by
    have h1:=hv.2;rwa [Z7 d7.out] at h1
   obtain rfl:=dh.len;clear f a C;generalize u 8=x8 at *;subst p8;go_simp;exact E _ () _ ⟨AI _,λ_ _ _=>rfl⟩ ⟨o,F _⟩ ⟨_,_,rfl,dh⟩
  refine Zw.cons rfl (λ_ _=>rfl) (λQ g b u X C O a f K E=>?_) ?_
  ·have p0:u 0=_:=(f 0 rfl).2;obtain⟨H,I,p9,ch⟩:=(f 9 rfl).2;have F:=λv=>a.2.other 10 v AC;have o:=a.1;have fy:=bx.out.kept (P.out.bk.keep o.2);have CC:=Ztm Av cv vv H I x X fy ch fo.out;clear f a C;generalize u 0=d at *;subst p0;generalize u 9=x9 at *;subst p9;go_simp;go_at_call 124;(with_reducible refine CC.mono ?_);rintro e X'⟨A9,c9,rfl,f8,N⟩;go_simp;exact E _ () _ (.of_below N) ⟨⟨o.1.below N,o.2.map_trans (Off.of_below N)⟩,F _⟩ ⟨A9,c9,rfl,f8⟩
  refine Zw.cons rfl (λ_ _=>rfl) (λQ g b u X C O a f K E=>?_) ?_
  ·obtain⟨H,I,gg,ch⟩:=(f 10 rfl).2;have F:=λv=>a.2.done 11 v;have o:=a.1;clear f a C;generalize u 10=h6 at *;subst gg;go_simp;exact E _ () _ ⟨AI _,λ_ _ _=>rfl⟩ ⟨o,F _⟩ ⟨_,_,rfl,ch⟩
  exact Zw.nil
 intro _ b9 u X9 f2 a6 f;obtain⟨a6,f6⟩:=a6;clear f2 f6;obtain⟨H,I,dy,dq⟩:=f 11 AC;clear f b9;rw[dy];clear dy;generalize u 0=w0 at *;generalize u 1=w1 at *;generalize u 2=w2 at *;generalize u 3=w3 at *;generalize u 4=w4 at *;generalize u 5=w5 at *;generalize u 6=w6 at *;generalize u 7=w7 at *;generalize u 8=w8 at *;generalize u 9=w9 at *;generalize u 10=hh at *;clear u;have fd:=LH (P.out.off a6.1 a6.2);have bu:=LH (bt.out.trans (P.out.bk.keep a6.2));have ff:=LH dq;clear z0 z1 zl f0 fl a6 dq P bt bx bz;go_wp2_with fail;go_roundw
 case rel=>exact⟨j+1,H,I,S',A',c',AF,AA,by rw[ay.out],LH (by rw[ay.out];exact ff.out),fd,bu⟩
 simp[intOf] <;> omega
theorem Zwz{N:World}(hB:BkG N h G)(hP:Xq G)(m:Nat)(HT:TT N k h G m):FT N k h G m:=by
 intro I l
 induction l with
 | nil =>
   intro n r t z Al O w dc hU ai a3 f hh hl a0;cases hU;have dw:=LH a0;clear ai a3 f hh hl a0;go_enter func123,ntmps123;go_wp2_with fail;go_ret2;exact⟨none,0,by rw[Va];rfl,by rw[Va];exact Zq.nil _ _ _ _ AA,dw.out,⟨AI _,λ_ _ _=>rfl⟩⟩
 | cons s E ih =>
   intro n r t z Al O w dc hU ai a3 f hh hl a0;obtain⟨kk,q,U,t1,t2,fn,da,bs,hq,cw,rfl,c2,c0⟩:=hU.parts hP ai;obtain⟨cu,hF,c7⟩:=Zxk fn hq bs a3;have cy:=hU.lt hP ai;obtain⟨V,Y,s',rfl,cx,cf,db⟩:=hl.get (j:=0) AE;obtain rfl:s=s':=by
    have:=cf.out;simpa using this
   have fo:=hl.cap;have fp:=f.len;have gh:=f.n;have az:=hl.tail1;rw[show (s::E).length-1=E.length from rfl] at az;obtain⟨At,fd⟩:∃At:Option Addr,(if O=1 then some (⟨V,Y,none⟩:Addr) else some ⟨V,Y+1,none⟩)=At:=⟨_,rfl⟩;rw[fd] at az;have a1:TlAt N k h G I (t1.map (λi:Nat=>(i:Int))++(t2.map (λi:Nat=>(i:Int))++z)) w:=by
    rw[<-DQ,<-DI];exact a0
   rw[AS] at dc;simp only[AW] at fp fo ⊢;have gc:(1:Int)<=(O:Int):=AA
   have gg:(1:Int)<=(E.length:Int)+1:=AA
   have gf:((E.length:Int)+1==0)=false:=by rw[AP];omega
   have K2:Hid (J1 E (n-kk)):=LH ⟨λx hx=>f.sym x (.tail _ hx),AA,AA⟩;have H2:Hid (∀x∈E,G.has x=true):=LH λx hx=>hh x (.tail _ hx);have gj:=(f.sym s (AX ..)).1;have gk:=(f.sym s (AX ..)).2;have CF:Hid (∀W,TlAt N k h G I (t2.map (λi:Nat=>(i:Int))++z) W->Calls prog 123 #[.pointer (some ⟨I,0,none⟩),.slice At E.length (O-1)] W (TlRet N k h G I z (n-kk) U W)):=LH λW hW=>ih (n-kk) U t2 z At (O-1) W AA cw ai.tail hF K2.out H2.out az hW;have CT:Hid (s<0->Calls prog 73 #[.pointer (some ⟨I,0,none⟩)] w (TlRet N k h G I (t2.map (λi:Nat=>(i:Int))++z) kk q w)):=LH λhs=>HT I s kk q t1 _ w AA hs (ai s (AX ..) hs) (c0 hs) cu AA a1;have b8:Hid (0<=s->q=0/\kk=1/\TlAt N k h G I (t2.map (λi:Nat=>(i:Int))++z) w):=LH λhs=>by
    obtain⟨e1,e2,e3⟩:=c2 hs;subst e1;exact⟨e2,e3,a1⟩
   have dx:=LH a1;have HB:=LH hB;have HL:=LH hl;have di:=LH az;have HK:=LH f;have Hh:=LH hh;have ce:=LH da;have d2:=LH bs;have HF:=LH hF;have f9:=LH c7;have cd:=LH cy;have cc:=LH a3;have bp:Below N.heap.size N w:=by
    obtain⟨S,A,c,M⟩:=a1;exact M.bk.base
   have e0:w.cell? ⟨V,Y,none⟩=some (.int .i64 s):=(bp.cell (p:=⟨V,Y+0,none⟩) cx).trans db;have el:=AJ cx bp.size;have gi:IntKind.i64.wrap ((kk:Int)+((n-kk:Nat):Int))=(n:Int):=by rw[BT _ AA];omega
   clear hB hP HT ih hU ai a3 f hh hl a0 a1 da bs hq cw c2 c0 cu hF c7 cy az db cf bp;go_enter func123,ntmps123;go_upto_if 20 with fail
   go_cut [6,7] (λv6 v7 wx=>∃(A6:Option Addr) (c6:Nat),v6 = .slice A6 (limbs q).length c6/\v7 = .int .i64 (kk:Int)/\Hid (Zq .u32 wx A6 (limbs q).length c6 (limbs q))/\Hid (TlAt N k h G I (t2.map (λi:Nat=>(i:Int))++z) wx)/\Hid (Zf w wx))
   case first =>
    by_cases hs:s<0
    case pos =>
     have CT:=LH (CT.out hs);go_wp2_with (first
      | (go_at_call 73
         (with_reducible refine CT.out.mono ?_);rintro e W2⟨A6,c6,rfl,fq,bb,fl⟩))
     go_meet
     exact⟨A6,c6,rfl,rfl,LH fq,LH bb,LH fl⟩
    obtain⟨rfl,rfl,bb⟩:=b8.out AA;have a8:=LH bb;clear bb;go_wp2_with fail;go_meet
    exact⟨none,0,by rw[Va];rfl,rfl,LH (by rw[Va];exact Zq.nil _ _ _ _ AA),a8,LH ⟨AI _,λ_ _ _=>rfl⟩⟩
   obtain⟨A6,c6,rfl,rfl,b5,a8,b3⟩:=hcut;have bx:=LH (CF.out wc a8.out);clear CF CT b8 dx a8 e0 el;go_upto_region 8 with (first
    | (go_at_call 123
       (with_reducible refine bx.out.mono ?_);rintro e W3⟨A3,c3,rfl,cz,ct,bq⟩;have b4:=LH cz;have ca:=LH ct;have b6:=LH (b5.out.kept bq);have b2:=LH (b3.out.trans bq);clear cz ct bq))
   clear bx b5 b3;go_upto_region 10 with fail;obtain⟨S3,A5,c5,T3⟩:=ca.out;have cb:=LH T3;clear T3 ca;go_loopw [8,37] (λv i wr=>∃(j:Nat) (Av:Option Addr) (cv:Nat),i = .int .i64 (j:Int)/\j<=kk/\v = .slice Av (limbs (U+Yv (Zv G) s E n j)).length cv/\Hid (Zq .u32 wr Av (limbs (U+Yv (Zv G) s E n j)).length cv (limbs (U+Yv (Zv G) s E n j)))/\Hid (Cc N k h G I z S3 A5 c5 wr)/\Hid (Zf W3 wr)) (λ_ i _=>kk-(intOf i).toNat)
   case atStart=>exact⟨0,A3,c3,rfl,AU _,by rw[Ug,DJ],LH (by rw[Ug,DJ];exact b4.out),cb,LH ⟨AI _,λ_ _ _=>rfl⟩⟩
   clear b4 cb;obtain⟨j,Av,cv,rfl,hj,rfl,HN,J,a7⟩:=hrel;obtain⟨v,hv⟩:∃v,U+Yv (Zv G) s E n j=v:=⟨_,rfl⟩;rw[hv] at HN ⊢;have Hv:=LH hv;clear hv;have g0:wr.cell? ⟨I,0,none⟩=some (.pointer (some ⟨k.c,0,none⟩)):=J.out.box.cell 0;have gl:=J.out.box.lt;by_cases ge:j<kk
   case pos =>
    obtain⟨x,hx⟩:∃x,Zv G s j*Zx (Zv G) E (n-j)=x:=⟨_,rfl⟩;have bh:Hid (U+Yv (Zv G) s E n (j+1)=v+x):=LH (by
     rw[Xy,hx];have:=Hv.out;omega)
    have cg:Hid (v+x<big):=LH (by
     have h1:=bh.out;have h2:=Wz (Zv G) s E n (show j+1<=kk by omega);have h3:=ce.out;have h4:=cd.out;have h5:=cc.out;omega)
    have dy:Hid (x<big):=LH (by have:=cg.out;omega);have CP:Calls prog 176 #[.pointer (some ⟨k.c,0,none⟩),.slice (some ⟨V,Y,none⟩) (E.length+1) O,.int .i64 (j:Int),.int .i64 (n:Int)] wr (Zuw N k h G S3 wr x):=by
     have h1:=tr_pair HB.out (s:=s) (l:=E) (kk:=j) (n:=n) HK.out AA Hh.out S3 wr (some ⟨V,Y,none⟩) O J.out.bk J.out.lt HL.out;rw[fsingle,hx] at h1;exact h1
    have CP:=LH CP;clear hx;go_wp2_with (first
     | (go_at_call 176
        (with_reducible refine CP.out.mono ?_);rintro e W4⟨cp,bn,A8,n8,c8,d8,rfl,dd⟩;have bm:Zq .u32 W4 A8 n8 c8 (limbs x):=by
         have h1:=dd.2;rwa [Z7 dy.out] at h1
        obtain rfl:=bm.len;have br:=J.out.bk.keep bn;have dr:=LH (J.out.off cp bn);have dl:=LH (a7.out.trans br);have CO:=LH (Ztm Av cv v A8 c8 x W4 (HN.out.kept br) bm cg.out);clear cp bn dd br bm)
     | (refine wpl_span rfl _ rfl A8 _ c8 d8 rfl ?_)
     | (go_at_call 124
        (with_reducible refine CO.out.mono ?_);rintro e W5⟨A9,c9,rfl,P,au⟩;have ds:=LH (dr.out.below au);have dm:=LH (dl.out.trans (.of_below au));have du:=LH P;clear au P))
    go_roundw
    case rel=>exact⟨j+1,A9,c9,AF,AA,by rw[bh.out],LH (by rw[bh.out];exact du.out),ds,dm⟩
    simp[intOf] <;> omega
   obtain rfl:j=kk:=AA
   obtain⟨F,ba⟩:∃F,Hid (Zx (Zv G) E (n-j)=F):=⟨_,LH rfl⟩;have b1:Hid (F<big):=LH (by rw[<-ba.out];exact HF.out);have a9:Hid (v+q*F=r):=LH (by
    rw[<-ba.out];have h1:=Hv.out;have h2:=ce.out;omega)
   have bg:Hid (r<big):=LH (by have h1:=cd.out;have h2:=cc.out;omega);have d0:Hid (q<big):=LH (by
    have h1:=a9.out;have h2:=bg.out;have h3:0<F:=by rw[<-ba.out];have:=d2.out;omega
    have h4:q<=q*F:=Nat.le_mul_of_pos_right _ h3;omega)
   have HQ:=LH (b6.out.kept a7.out);have dn:=LH (b2.out.trans a7.out);clear b6 b2 a7;have d1:Hid (q*F<big):=LH (by have h1:=a9.out;have h2:=bg.out;omega);go_upto_region 14 with fail;refine Yi (Γ:=Unit) (λ_ b u X=>(Wd N k h G S3 X/\Off k.map wr X)/\Do b u 99 undef) (λX R=>Zf X R) () (λu=>(⟨(.pointer (some ⟨I,0,none⟩) :: .slice (some ⟨V,Y,none⟩) (E.length+1) O::undef::undef :: .slice none 0 0 :: .int .i64 0 :: .slice A6 (limbs q).length c6 :: .int .i64 (j:Int) :: .slice Av (limbs v).length cv :: .int .i64 ((n-j:Nat):Int) :: .int .i64 (n:Int)::u11::u 14::u 15::u14::u15::u16::u17::u18::u19::u20::u21::u22::u23::u24::u25 :: .tuple #[.slice A3 (limbs U).length c3,.int .i64 ((n-j:Nat):Int)] :: .pointer (some ⟨I,0,none⟩) :: .slice (some ⟨V,Y,none⟩) (E.length+1) O :: .slice At E.length (O-1) :: .tuple #[.slice A3 (limbs U).length c3,.int .i64 ((n-j:Nat):Int)] :: .slice A3 (limbs U).length c3 :: .int .i64 ((n-j:Nat):Int) :: .int .i64 (j:Int) :: .int .i64 ((n-j:Nat):Int) :: .int .i64 (n:Int) :: .int .i64 (j:Int) :: .int .i64 (j:Int) :: .bool false::u39::u40::u41::u42::u43::u44::u45::u46::u47::u48::u49::u50::u51::u 11::u 0::u 1::u 2::u 3::u 4::u 5::u 6::u 7::u 8::u 9::u 10::u 12::u 13::u66::u67::u68::u69::[]).toArray,[]⟩:Act)) [u53,u54,u55,u56,u57,u58,u59,u60,u61,u62,u63,u52,u64,u65,undef,undef] [λv X=>v = .slice A6 (limbs q).length c6,λv X=>v = .pointer (some ⟨I,0,none⟩),λv X=>v = .pointer (some ⟨I,0,none⟩),λv X=>v = .pointer (some ⟨I,0,none⟩),λv X=>v = .pointer (some ⟨k.c,0,none⟩),λv X=>v = .slice (some ⟨V,Y,none⟩) (E.length+1) O,λv X=>v = .slice At E.length (O-1),λv X=>v = .int .i64 ((n-j:Nat):Int),λv X=>∃Z ag ad ah,v = .agg #[.slice Z ag ad,.bool ah]/\Z1 X Z ag ad ah F,λv X=>∃y B,v = .slice y (limbs (F)).length B/\Zq .u32 X y (limbs (F)).length B (limbs (F)),λv X=>∃y B T,v = .tuple #[.slice y (limbs (q*F)).length B,.int .i64 T]/\Zq .u32 X y (limbs (q*F)).length B (limbs (q*F)),λv X=>∃y B T,v = .tuple #[.slice y (limbs (q*F)).length B,.int .i64 T]/\Zq .u32 X y (limbs (q*F)).length B (limbs (q*F)),λv X=>∃y B,v = .slice y (limbs (q*F)).length B/\Zq .u32 X y (limbs (q*F)).length B (limbs (q*F)),λv X=>∃z9:Int,v = .int .i64 z9,λv X=>∃y B,v = .slice y (limbs (q*F)).length B/\Zq .u32 X y (limbs (q*F)).length B (limbs (q*F)),λv X=>∃z9:Int,v = .int .i64 z9] (l:=[_,_,_,_,_,_,_,_,_,_,_,_,_,_,_,_]) AB AB rfl ⟨⟨J.out.bk.below (AK _ _).drew,Off.of_below (AK _ _).drew⟩,λ_=>rfl⟩ ⟨λ_ _ _ h _=>h,λ_ _ _ h _=>h,λ_ _ _ h _=>h,λ_ _ _ h _=>h,λ_ _ _ h _=>h,λ_ _ _ h _=>h,λ_ _ _ h _=>h,λ_ _ _ h _=>h,(λv X R ⟨Z,ag,ad,ah,e,h⟩ H=>⟨Z,ag,ad,ah,e,h.kept H⟩),(λv X R ⟨y,B,e,h⟩ H=>⟨y,B,e,h.kept H⟩),(λv X R ⟨y,B,T,e,h⟩ H=>⟨y,B,T,e,h.kept H⟩),(λv X R ⟨y,B,T,e,h⟩ H=>⟨y,B,T,e,h.kept H⟩),(λv X R ⟨y,B,e,h⟩ H=>⟨y,B,e,h.kept H⟩),(λv X R h _=>h),(λv X R ⟨y,B,e,h⟩ H=>⟨y,B,e,h.kept H⟩),(λv X R h _=>h),trivial⟩ ?_ ?_
   ·refine Zw.cons rfl (λ_ _=>rfl) (λQ g b u X D L a d K f=>?_) ?_
    ·have C:=λv=>a.2.other 0 v AC;have o:=a.1;clear d a D;go_simp;exact f _ () _ ⟨AI _,λ_ _ _=>rfl⟩ ⟨o,C _⟩ rfl
    refine Zw.cons rfl (λ_ _=>rfl) (λQ g b u X D L a d K f=>?_) ?_
    ·have C:=λv=>a.2.other 1 v AC;have o:=a.1;clear d a D;go_simp;exact f _ () _ ⟨AI _,λ_ _ _=>rfl⟩ ⟨o,C _⟩ rfl
    refine Zw.cons rfl (λ_ _=>rfl) (λQ g b u X D L a d K f=>?_) ?_
    ·have p1:u 1=_:=(d 1 rfl).2;have C:=λv=>a.2.other 2 v AC;have o:=a.1;clear d a D;generalize u 1=x1 at *;subst p1;go_simp;exact f _ () _ ⟨AI _,λ_ _ _=>rfl⟩ ⟨o,C _⟩ rfl
    refine Zw.cons rfl (λ_ _=>rfl) (λQ g b u X D L a d K f=>?_) ?_
    ·have p2:u 2=_:=(d 2 rfl).2;have C:=λv=>a.2.other 3 v AC;have o:=a.1;clear d a D;generalize u 2=x2 at *;subst p2;go_simp;exact f _ () _ ⟨AI _,λ_ _ _=>rfl⟩ ⟨o,C _⟩ rfl
    refine Zw.cons rfl (λ_ _=>rfl) (λQ g b u X D L a d K f=>?_) ?_
    ·have p3:u 3=_:=(d 3 rfl).2;have C:=λv=>a.2.other 4 v AC;have o:=a.1;have gX:=o.2.blk J.out.box (J.out.bk.not_map J.out.box);have y0:X.cell? ⟨I,0,none⟩=some (.pointer (some ⟨k.c,0,none⟩)):=gX.cell 0;have yl:=gX.lt;clear gX;clear d a D;generalize u 3=x3 at *;subst p3;go_simp;exact f _ () _ ⟨AI _,λ_ _ _=>rfl⟩ ⟨o,C _⟩ rfl
    refine Zw.cons rfl (λ_ _=>rfl) (λQ g b u X D L a d K f=>?_) ?_
    ·have C:=λv=>a.2.other 5 v AC;have o:=a.1;clear d a D;go_simp;exact f _ () _ ⟨AI _,λ_ _ _=>rfl⟩ ⟨o,C _⟩ rfl
    refine Zw.cons rfl (λ_ _=>rfl) (λQ g b u X D L a d K f=>?_) ?_
    ·have p5:u 5=_:=(d 5 rfl).2;have C:=λv=>a.2.other 6 v AC;have o:=a.1;clear d a D;generalize u 5=x5 at *;subst p5;go_simp;exact f _ () _ ⟨AI _,λ_ _ _=>rfl⟩ ⟨o,C _⟩ rfl
    refine Zw.cons rfl (λ_ _=>rfl) (λQ g b u X D L a d K f=>?_) ?_
    ·have C:=λv=>a.2.other 7 v AC;have o:=a.1;clear d a D;go_simp;exact f _ () _ ⟨AI _,λ_ _ _=>rfl⟩ ⟨o,C _⟩ rfl
    refine Zw.cons rfl (λ_ _=>rfl) (λQ g b u X D L a d K f=>?_) ?_
    ·have p4:u 4=_:=(d 4 rfl).2;have p6:u 6=_:=(d 6 rfl).2;have p7:u 7=_:=(d 7 rfl).2;have C:=λv=>a.2.other 8 v AC;have o:=a.1;have CC:=Zzz HB.out K2.out H2.out S3 X At (O-1) o.1 (λb H=>AJ (J.out.lt b H) o.2.size) (di.out.below o.1.base);clear d a D;generalize u 4=x4 at *;subst p4;generalize u 6=x6 at *;subst p6;generalize u 7=x7 at *;subst p7;go_simp;go_at_call 125;(with_reducible refine CC.mono ?_);rintro e R⟨fh,cs,Z,ag,ad,ah,rfl,hv⟩;rw[ba.out] at hv;go_simp;exact f _ () _ (o.1.keep cs) ⟨⟨fh,o.2.map_trans cs⟩,C _⟩ ⟨Z,ag,ad,ah,rfl,hv⟩
    refine Zw.cons rfl (λ_ _=>rfl) (λQ g b u X D L a d K f=>?_) ?_
    ·obtain⟨Z,ag,ad,ah,p8,hv⟩:=(d 8 rfl).2;have C:=λv=>a.2.other 9 v AC;have o:=a.1;have cr:Zq .u32 X Z ag ad (limbs F):=by
      have h1:=hv.2;rwa [Z7 b1.out] at h1
     obtain rfl:=cr.len;clear d a D;generalize u 8=x8 at *;subst p8;go_simp;exact f _ () _ ⟨AI _,λ_ _ _=>rfl⟩ ⟨o,C _⟩ ⟨_,_,rfl,cr⟩
    refine Zw.cons rfl (λ_ _=>rfl) (λQ g b u X D L a d K f=>?_) ?_
    ·have p0:u 0=_:=(d 0 rfl).2;obtain⟨y,B,p9,P⟩:=(d 9 rfl).2;have C:=λv=>a.2.other 10 v AC;have o:=a.1;have fi:=HQ.out.kept (J.out.bk.keep o.2);have CC:=F2 A6 _ c6 (limbs q) y _ B (limbs F) X fi P (Z9 _) (Z9 _);rw[Nw q F d0.out b1.out,Km d1.out] at CC;clear d a D;generalize u 0=x0 at *;subst p0;generalize u 9=x9 at *;subst p9;go_simp;go_at_call 177;(with_reducible refine CC.mono ?_);rintro e R⟨A9,c9,rfl,fr,H⟩;go_simp;exact f _ () _ (.of_below H) ⟨⟨o.1.below H,o.2.map_trans (Off.of_below H)⟩,C _⟩ ⟨A9,c9,_,rfl,fr⟩
    refine Zw.cons rfl (λ_ _=>rfl) (λQ g b u X D L a d K f=>?_) ?_
    ·obtain⟨y,B,T,fu,P⟩:=(d 10 rfl).2;have C:=λv=>a.2.other 11 v AC;have o:=a.1;clear d a D;generalize u 10=g2 at *;subst fu;go_simp;exact f _ () _ ⟨AI _,λ_ _ _=>rfl⟩ ⟨o,C _⟩ ⟨_,_,_,rfl,P⟩
    refine Zw.cons rfl (λ_ _=>rfl) (λQ g b u X D L a d K f=>?_) ?_
    ·obtain⟨y,B,T,bt,P⟩:=(d 11 rfl).2;have C:=λv=>a.2.other 12 v AC;have o:=a.1;clear d a D;generalize u 11=f8 at *;subst bt;go_simp;exact f _ () _ ⟨AI _,λ_ _ _=>rfl⟩ ⟨o,C _⟩ ⟨_,_,rfl,P⟩
    refine Zw.cons rfl (λ_ _=>rfl) (λQ g b u X D L a d K f=>?_) ?_
    ·obtain⟨y,B,T,bt,P⟩:=(d 11 rfl).2;have C:=λv=>a.2.other 13 v AC;have o:=a.1;clear d a D;generalize u 11=f8 at *;subst bt;go_simp;exact f _ () _ ⟨AI _,λ_ _ _=>rfl⟩ ⟨o,C _⟩ ⟨_,rfl⟩
    refine Zw.cons rfl (λ_ _=>rfl) (λQ g b u X D L a d K f=>?_) ?_
    ·obtain⟨y,B,fv,P⟩:=(d 12 rfl).2;have C:=λv=>a.2.other 14 v AC;have o:=a.1;clear d a D;generalize u 12=g3 at *;subst fv;go_simp;exact f _ () _ ⟨AI _,λ_ _ _=>rfl⟩ ⟨o,C _⟩ ⟨_,_,rfl,P⟩
    refine Zw.cons rfl (λ_ _=>rfl) (λQ g b u X D L a d K f=>?_) ?_
    ·obtain⟨z9,fw⟩:=(d 13 rfl).2;have C:=λv=>a.2.other 15 v AC;have o:=a.1;clear d a D;generalize u 13=g4 at *;subst fw;go_simp;exact f _ () _ ⟨AI _,λ_ _ _=>rfl⟩ ⟨o,C _⟩ ⟨_,rfl⟩
    exact Zw.nil
   intro _ b9 u X9 fk aj d;obtain⟨aj,fm⟩:=aj;clear fk fm;obtain⟨y,B,df,c1⟩:=d 14 AC;obtain⟨hg,dg⟩:=d 15 AC;clear d b9;rw[df,dg];clear df dg;generalize u 0=w0 at *;generalize u 1=w1 at *;generalize u 2=w2 at *;generalize u 3=w3 at *;generalize u 4=w4 at *;generalize u 5=w5 at *;generalize u 6=w6 at *;generalize u 7=w7 at *;generalize u 8=w8 at *;generalize u 9=w9 at *;generalize u 10=gm at *;generalize u 11=gn at *;generalize u 12=gp at *;generalize u 13=gq at *;clear u;have dt:=LH (J.out.off aj.1 aj.2);have dp:=LH (dn.out.trans (J.out.bk.keep aj.2));have CO:=Ztm Av cv v y B (q*F) X9 (HN.out.kept (J.out.bk.keep aj.2)) c1 (by have h1:=a9.out;have h2:=bg.out;omega);rw[a9.out] at CO;have CO:=LH CO;clear aj c1 g0 gl;go_wp2_with (first
    | (go_at_call 124
       (with_reducible refine CO.out.mono ?_);rintro e W5⟨A9,c9,rfl,P,au⟩))
   go_ret2;exact⟨A9,c9,rfl,P,⟨S3,A5,c5,dt.out.below au⟩,dp.out.trans (.of_below au)⟩
theorem Zwb{b:World}{k:BkH}{h:GH}{G:Gr}(c:BkG b h G)(d:Xq G):∀m,TT b k h G m/\FT b k h G m
 | 0=>by
   have a:TT b k h G 0:=by
    intro o s n r t z w f h0 j a;obtain⟨i,x,q,l,_,_,_,_,rfl⟩:=a;rw[List.length_cons] at f;omega
   exact⟨a,Zwz c d 0 a⟩
 | m+1=>by
   have g:=Zwb (k:=k) c d m;have a:=tr_ttree c d m g.2;exact⟨a,Zwz c d (m+1) a⟩
end Go.Proofs.YtggbjdmpjidhgaaGreatDoor
