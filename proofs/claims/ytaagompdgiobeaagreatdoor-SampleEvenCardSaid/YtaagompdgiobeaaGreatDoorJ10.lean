/- the reading of a grammar, its counts, and what is drawn: lemmas -/
import Derived.Test.YtaagompdgiobeaaGreatDoorJ09
set_option linter.all false
set_option maxHeartbeats 1500000
set_option maxRecDepth 100000
namespace Go.Proofs.YtaagompdgiobeaaGreatDoor
open Go.RowKit Go.Proofs.Tryz
open Go.Value renaming slice→K,slice→aK,int→aI,bool→aB,pointer→aP,string→aS,agg→aG open Go.IntKind renaming i64→aJ open Go.Obj renaming cells→aC open Go.Ending renaming returned→aR open List renaming length→Q,length→aQ open Option renaming none→aN
section
variable{tab:Nat->Nat->Nat}{d:Option Addr}
def rf_Of22(h:GH)(G:Gr)(Al:Option Addr)(J:Nat)(l:List Int)(n:Int)(w:World)(A:Yf w h G)(h1:h.n1<=100)(h2:h.n2<=100)(h3:h.n3<=100)(T:Za .i64 w Al (Q l) J l)(hi:∀s∈l,U3 s):
 Calls prog 28 #[GV h G.zt,K Al (Q l) J,aI aJ n] w (Xr w (Wi G l n)):=by
 obtain⟨a1,n1,c1,a2,n2,c2,a3,n3,c3⟩:=h;have e1:(Q G.T)=n1:=A.T.len;have e2:(Q G.O)=n2:=A.O.len;simp only[] at h1 h2 h3;have b2:=T.cap;have z:=LH A;have Hl:=LH T;have Hi:=LH hi;have L:=Zy w (aC #[K a1 n1 c1,K a2 n2 c2,K a3 n3 c3,aI aJ G.zt] 26);have S:=Y1.new w 26 ⟨a1,n1,c1,a2,n2,c2,a3,n3,c3⟩ G.zt;clear A T hi;go_enter func28,ntmps28;have⟨z5,z0,z1,z2,z3⟩:=S;simp only[] at z0 z1 z2 z3;go_upto_region 1 with fail;generalize w.alloc (aC #[K a1 n1 c1,K a2 n2 c2,K a3 n3 c3,aI aJ G.zt] 26)=W0 at *;have g:=LH (rf_Is ⟨a1,n1,c1,a2,n2,c2,a3,n3,c3⟩ G W0 (z.out.below L) h1 h2 h3);have r:=LH L;have a8:=LH S;have c:(Q9 G=false\/6<(Q l)\/n<0\/10<n\/(∃s∈l,G.has s=false))->Wi G l n=([],1):=λd=>by unfold Wi;rw[if_pos d]
 have t:Hid (∀w',Below w w w'->Wi G l n=([],1)->Xr w (Wi G l n) (aR (.tuple #[K aN 0 0,aI aJ 1])) w'):=LH λw' hb he=>by rw[he];exact⟨aN,0,rfl,Zq.nil _ _ _ _ AA,hb⟩
 clear L S;cases v:Q9 G
 case false =>
  have f:=LH (c (.inl v));rw[v] at g;clear c;go_wp2_with (go_at_call 59;(with_reducible refine g.out.mono ?_);rintro e V⟨rfl,b⟩);go_ret2;exact t.out _ (Zz r.out b) f.out
 rw[v] at g;by_cases bq:6<(Q l)
 case pos =>
  have f:=LH (c (.inr (.inl bq)));have i1:(6:Int)<((Q l):Int):=AA
  clear c;go_wp2_with (go_at_call 59;(with_reducible refine g.out.mono ?_);rintro e V⟨rfl,b⟩);go_ret2;exact t.out _ (Zz r.out b) f.out
 have i1:¬((6:Int)<((Q l):Int)):=AA
 by_cases ar:n<0
 case pos =>
  have f:=LH (c (.inr (.inr (.inl ar))));clear c;go_wp2_with (go_at_call 59;(with_reducible refine g.out.mono ?_);rintro e V⟨rfl,b⟩);go_ret2;exact t.out _ (Zz r.out b) f.out
 by_cases au:10<n
 case pos =>
  have f:=LH (c (.inr (.inr (.inr (.inl au)))));clear c;go_wp2_with (go_at_call 59;(with_reducible refine g.out.mono ?_);rintro e V⟨rfl,b⟩);go_ret2;exact t.out _ (Zz r.out b) f.out
 obtain⟨m,rfl⟩:∃m:Nat,n=(m:Int):=⟨n.toNat,AA⟩;have hm:m<=10:=AA
 have i2:¬((m:Int)<0):=AA
 have i3:¬(10<(m:Int)):=AA
 have a7:=LH λs (a:s∈l) (d:G.has s=false)=>c (.inr (.inr (.inr (.inr ⟨s,a,d⟩))));have Hr:=LH v;clear c ar au v;go_wp2_with (go_at_call 59;(with_reducible refine g.out.mono ?_);rintro e W1⟨rfl,P⟩);have y:=LH (Zz r.out P);have ab:=LH (a8.out.below P);clear P g z0 z1 z2 z3 z5 i1 i2 i3;go_wp2_with fail;go_loopw [8] (λi wr=>∃q:Nat,q<=(Q l)/\i = aI aJ (q:Int)/\Hid (∀j,j<q->∀s,l[j]? = some s->G.has s=true)/\Hid (Below W1 W1 wr)) (λi _=>(Q l)-(intOf i).toNat)
 case atStart=>exact⟨0,AV _,rfl,LH λj u=>absurd u (Nat.not_lt_zero j),LH (AP _ _)⟩
 obtain⟨q,hq,rfl,I,k⟩:=hrel;have⟨y5,y0,y1,y2,y3⟩:=ab.out.below k.out;simp only[] at y0 y1 y2 y3;by_cases br:q<(Q l)
 case pos =>
  obtain⟨lb,lo,E,rfl,b3,ag,b0⟩:=(Hl.out.below (Zz y.out k.out)).get br;have B:=AM ag.out;have bc:=Yt wr;have CH:=LH λx:Ext wr=>rf_has ⟨a1,n1,c1,a2,n2,c2,a3,n3,c3⟩ G E (bl wr x) ((z.out.below (Zz y.out k.out)).below (Zr wr x)) (Hi.out E B) (by simp only[];omega) (by simp only[];omega);cases d:G.has E
  case false =>
   have f:=LH (a7.out E B d);rw[d] at CH;clear B d;go_wp2_with fail;refine Zs AB AB ?_;repeat (go_big_quiet_step ((go_at_call 60;with_reducible exact Ve (CH.out _))))
   refine BJ ?_;rintro _⟨x,rfl⟩;go_wp2_with fail;go_ret2;exact t.out _ (Zz (Zz y.out k.out) (Zr wr x)) f.out
  have be:Hid (∀j,j<q+1->∀s,l[j]? = some s->G.has s=true):=LH λj u s a=>by
   rcases (AA:j<q\/j=q) with h | rfl
   ·exact I.out j h s a
   rw[ag.out] at a;rw[<-BM a];exact d
  rw[d] at CH;clear B d;go_wp2_with fail;refine Zs AB AB ?_;repeat (go_big_quiet_step ((go_at_call 60;with_reducible exact Ve (CH.out _))))
  refine BJ ?_;rintro _⟨x,rfl⟩;go_wp2_with fail;go_roundw
  case rel=>exact⟨q+1,AA,AF,be,LH (k.out.trans ((Zr wr x).mono k.out.size))⟩
  simp[intOf];omega
 obtain rfl:q=(Q l):=AA
 have O:∀s∈l,G.has s=true:=λs a=>by
  obtain⟨j,u⟩:=BQ a;exact I.out j (AN.1 u).1 s u
 have o:Wi G l (m:Int)=if Vh G≠0 then ([],10) else Xm (Zx (Zv G) l m):=by
  unfold Wi;rw[if_neg]
  ·rfl
  rintro (h | h | h | h | ⟨s,a,h⟩)
  ·rw[Hr.out] at h;cases h
  ·omega
  ·omega
  ·omega
  rw[O s a] at h;cases h
 have Y:=LH (Zz y.out k.out);have aa:=LH O;have ae:=LH o;clear I O o;go_wp2_with fail;(with_reducible refine (Zvc ⟨a1,n1,c1,a2,n2,c2,a3,n3,c3⟩ G wr (z.out.below Y.out) (by simp only[];omega) (by simp only[];omega) (by simp only[];omega)).mono ?_);rintro e W3⟨R,rfl⟩;have F:=LH (Zz Y.out R);have a9:=LH ((ab.out.below k.out).below R);have b4:=Ztq G;have o:=ae.out;clear y0 y1 y2 y3 y5 R ae;by_cases p:Vh G=0
 case neg =>
  have H:=LH o;have i4:(((Vh G:Nat):Int) != 0)=true:=by rw[BK];omega
  have Hc:=LH p;clear o p;go_wp2_with fail;go_ret2;rw[H.out,if_pos Hc.out];exact⟨aN,0,rfl,Zq.nil _ _ _ _ AA,F.out⟩
 have i4:(((Vh G:Nat):Int) != 0)=false:=by rw[p];rfl
 rw[if_neg (by rw[p];simp)] at o;obtain⟨C,aq⟩:=Zzn.1 Hr.out;have D:G.rt=true/\(Zt G).getD G.zt.toNat false=true:=by unfold Xp at C;rw[AS] at C;exact C
 obtain⟨M,ao,hO⟩:=U7 D.1 D.2 aq p;have aw:(N5 G).1=(Y4 (Yz G) (Qm G) (Q G.O) (Q G.O)).1:=by unfold N5;rw[D.1,ao];rfl
 have H:=LH o;have HP:=LH M;have X:=LH (Ztz ⟨a1,n1,c1,a2,n2,c2,a3,n3,c3⟩ G m W3 (z.out.below F.out) (by simp only[];omega) (by simp only[];omega) (by simp only[];omega) M (by rw[aw];exact hO) AA);clear o C aq D M ao hO aw p;generalize Vh G=cy at *;have⟨y5,y0,y1,y2,y3⟩:=a9.out;simp only[] at y0 y1 y2 y3;go_wp2_with fail;(with_reducible refine X.out.mono ?_);rintro e W4⟨am,A4,c4,tab,rfl,N,ax⟩;have Z:=LH (Zz F.out am);rw[e2] at N;have an:∀s∈l,-(n2:Int)<=s/\s<=1000:=λs a=>by
  have:=H7 (aa.out s a);rw[e1,e2] at this;omega
 have ap:=told_forest ax (l:=l) (λs a h0=>by
  have:=H7 (aa.out s a);unfold Zp;omega) (AJ m)
 have W:=LH (Kd A4 (m+1) c4 n2 tab Al J l m W4 N (Ek m) AA AA (Hl.out.below Z.out) AA an);have bb:=LH ap;clear X am N ax an ap y0 y1 y2 y3 y5;go_wp2_with fail;(with_reducible refine W.out.mono ?_);rintro e W5⟨bo,A5,k5,c5,b5,rfl,U⟩;have a4:=LH (Zz Z.out bo);rw[bb.out] at U;go_wp2_with fail;(with_reducible refine (rf_told A5 k5 c5 b5 _ W5 U).mono ?_);rintro e W6⟨A6,c6,rfl,av,b⟩;have a6:=LH av;have a5:=LH (Zz a4.out b);clear U av b W;generalize Xm (Zx (Zv G) l m)=b9 at *;go_wp2_with fail;go_ret2;rw[H.out];exact⟨A6,c6,rfl,a6.out,a5.out⟩
def Lj(h:GH)(G:Gr)(n:Int)(w:World)(hg:Yf w h G)(h1:h.n1<=100)(W:h.n2<=100)(X:h.n3<=100):
 Calls prog 15 #[GV h G.zt,aI aJ n] w (Xr w (Z2 G n)):=by
 obtain⟨a1,n1,c1,a2,n2,c2,a3,n3,c3⟩:=h;simp only[] at h1 W X;have V:=LH hg;have F:=Zy w (aC #[K a1 n1 c1,K a2 n2 c2,K a3 n3 c3,aI aJ G.zt] 26);have N:=Y1.new w 26 ⟨a1,n1,c1,a2,n2,c2,a3,n3,c3⟩ G.zt;clear hg;go_enter func15,ntmps15;have⟨z5,z0,z1,z2,z3⟩:=N;simp only[] at z0 z1 z2 z3;go_upto_region 1 with fail;generalize w.alloc (aC #[K a1 n1 c1,K a2 n2 c2,K a3 n3 c3,aI aJ G.zt] 26)=W0 at *;have b:=LH (Jr ⟨a1,n1,c1,a2,n2,c2,a3,n3,c3⟩ G W0 (V.out.below F) (by simp only[];omega) (by simp only[];omega) (by simp only[];omega));have o:=LH F;have au:=LH N;have c:(G.rt=false\/n<0\/10<n)->Z2 G n=([],1):=λhh=>by unfold Z2;rw[if_pos hh]
 have p:Hid (∀w' k,Below w.heap.size w w'->Z2 G n=([],k)->Xr w (Z2 G n) (aR (.tuple #[K aN 0 0,aI aJ (k:Int)])) w'):=LH λw' k hb he=>by rw[he];exact⟨aN,0,rfl,Zq.nil _ _ _ _ AA,hb⟩
 clear F N;cases f:G.rt
 case false =>
  have g:=LH (c (.inl f));rw[f] at b;clear c;go_wp2_with (go_at_call 26;(with_reducible refine b.out.mono ?_);rintro e w6⟨rfl,a⟩);go_ret2;exact p.out _ 1 (Zz o.out a) g.out
 rw[f] at b;by_cases ah:n<0
 case pos =>
  have g:=LH (c (.inr (.inl ah)));clear c;go_wp2_with (go_at_call 26;(with_reducible refine b.out.mono ?_);rintro e w6⟨rfl,a⟩);go_ret2;exact p.out _ 1 (Zz o.out a) g.out
 by_cases ai:10<n
 case pos =>
  have g:=LH (c (.inr (.inr ai)));clear c;go_wp2_with (go_at_call 26;(with_reducible refine b.out.mono ?_);rintro e w6⟨rfl,a⟩);go_ret2;exact p.out _ 1 (Zz o.out a) g.out
 have Hr:=LH f;have ag:Z2 G n=if Xp G=false then ([],0) else Wi (Zi G) [-1-(Zi G).zt] n:=by
  unfold Z2;rw[if_neg];rintro (h | h | h)
  ·rw[f] at h;cases h
  ·exact ah h
  exact ai h
 have E:=LH ag;clear c ag f;go_wp2_with (
  go_at_call 26;(with_reducible refine b.out.mono ?_);rintro e W1⟨rfl,L⟩;obtain⟨y5,R,S,T,U⟩:=au.out.below L;simp only[] at R S T U)
 have I:=Zz o.out L;clear b z0 z1 z2 z3 z5 L;have u:=Zuv ⟨a1,n1,c1,a2,n2,c2,a3,n3,c3⟩ G W1 (V.out.below I) h1 W X;unfold Dh at u;(with_reducible refine u.mono ?_);rintro e j⟨M,⟨ak,k,a5,rfl⟩ | ⟨m,h',Ak,nk,ck,rfl,ae,m1,m2,m3⟩⟩
 ·have l:=Zz I M;have bg:(k != 0)=true:=by rw[BK];exact a5
  have D:Hid (Z2 G n=([],0)):=LH (by rw[E.out,if_pos ak]);clear u ak R S T U y5;go_wp2_with fail;go_ret2;exact p.out _ 0 (l.trans ((Zy j _).mono l.size)) D.out
 have l:=Zz I M;have P:G.rt=true/\(Zt G).getD G.zt.toNat false=true:=by unfold Xp at m;rw[AS] at m;exact m
 have Z:=Ju P.1 P.2;have D:Hid (Z2 G n=Wi (Zi G) [-1-(Zi G).zt] n):=LH (by rw[E.out,if_neg (by rw[m];simp)]);obtain⟨q,z,v,r,A,x,t,B,y⟩:=h';generalize Zi G=H at *;obtain⟨bk,bl,bm⟩:=Zsk Z;clear u R S T U y5 m P Z E;simp only[] at m1 m2 m3;have J:=Zy j (aC #[K q z v,K r A x,K t B y,aI aJ H.zt] 26);have ab:=Y1.new j 26 ⟨q,z,v,r,A,x,t,B,y⟩ H.zt;have Y:=Zz l J;have af:=ae.below J;go_upto_region 4 with fail;generalize j.alloc (aC #[K q z v,K r A x,K t B y,aI aJ H.zt] 26)=d at *;generalize j.heap.size=gH at *;have av:=LH af;have ao:=LH Y;have⟨x5,x0,x1,x2,x3⟩:=ab;simp only[] at x0 x1 x2 x3;have bh:IntKind.i64.wrap (-1-H.zt)=-1-H.zt:=BZ _ AA;have O:=Zy d (aC #[aI aJ (-1-H.zt)] 3);have hL:Za .i64 (d.alloc (aC #[aI aJ (-1-H.zt)] 3)) (some ⟨d.heap.size,0,aN⟩) 1 1 [-1-H.zt]:=N6 d 3 (ints .i64 [-1-H.zt]) 1 _ rfl rfl AC;have C:=LH (rf_Of22 ⟨q,z,v,r,A,x,t,B,y⟩ H (some ⟨d.heap.size,0,aN⟩) 1 [-1-H.zt] n (d.alloc (aC #[aI aJ (-1-H.zt)] 3)) (av.out.below O) (by simp only[];omega) (by simp only[];omega) (by simp only[];omega) hL (λs hs=>by rw[BO.1 hs];unfold U3;omega));have ap:=LH (Zz ao.out O);simp only[AY,DE,BF] at C;clear hL O af Y J ae l M ab;go_wp2_with fail;(with_reducible refine C.out.mono ?_);rintro e W6⟨A6,c6,rfl,aj,a⟩;have ar:=LH aj;have aq:=LH (Zz ap.out a);clear aj a C;generalize Wi H [-1-H.zt] n=bj at *;go_wp2_with fail;go_ret2;rw[D.out];exact⟨A6,c6,rfl,ar.out,aq.out⟩
theorem rf_frank{W0:World}{h:GH}{G:Gr}{At:Option Addr}{nt ct:Nat}(hT:TbG W0 h G At nt ct tab)(hP:Xq G)(m:Nat)(HF:RFC W0 h G At nt ct m):RTC W0 h G At nt ct (m+1):=by
 intro s n r u z Az cz w ge h0 hl hU f6 hn hz am;obtain⟨J,H,q,u1,a6,gh,hU,gc,rfl⟩:=hU;have hq:q<Zx (Zv G) H.rt n:=hU.lt hP (InG.at hP.fits a6);have dz:Z0 (Zv G) G.U (Zp s) (J+1) n<=Zv G s n:=by
  rw[Uu hP h0 hl];exact Kj _ _ _ _ _
 rw[Y3 _ a6,if_pos gh] at dz;have je:J<G.U.length:=(AN.1 a6).1;have gf:H.L=(Zp s:Int):=by
  have:=(hP.fits.L H (AM a6)).1;omega
 have fp:=LH gf;have jh:n<=10:=by have:=hT.nt;omega
 have fl:Hid (∀(j:Nat) (x:Rul),G.U[j]? = some x->J1 x.rt n/\(∀s∈x.rt,G.has s=true)/\0<=x.L):=LH λj x hx=>by
  have h1:=Bg hP.fits (AM hx) jh;exact⟨h1.1,h1.2,(hP.fits.L x (AM hx)).1⟩
 have fn:Hid (∀(j:Nat) (x:Rul),G.U[j]? = some x->Z0 (Zv G) G.U (Zp s) (j+1) n=Z0 (Zv G) G.U (Zp s) j n+(if x.L.toNat=Zp s then Zx (Zv G) x.rt n else 0)):=LH λj x hx=>Y3 _ hx _ _;have hm:Hid (∀j,j<=J->Z0 (Zv G) G.U (Zp s) j n<=Z0 (Zv G) G.U (Zp s) J n):=LH λj hj=>Vf _ _ _ _ hj;have g1:Hid (InG G H.rt):=InG.at hP.fits a6;obtain⟨T,cs⟩:∃T:List Int,u1.map (λi:Nat=>(i:Int))++z=T:=⟨_,rfl⟩;have dq:u1.length+z.length=T.length:=by rw[<-cs];simp
 have kv:u1.length<=T.length:=AA
 have fw:(J::u1).length+z.length=T.length+1:=by rw[AY];omega
 rw[CU,DL,cs] at hz;rw[fw] at hz ⊢;obtain⟨a1,n1,c1,a2,n2,c2,a3,n3,c3⟩:=h;have ga:n3=G.U.length:=hT.at_.U.len.symm;have jf:J<n3:=AA
 have lp:n3<=40:=by have:=hP.fits.n3.2;omega
 have kd:=LH ga;have kk:=hT.at_.U.cap;have kr:=hP.fits.n2.2;have kl:=hP.fits.n1;have kt:=hT.tabm.1;have ku:=hT.tabm.2.1;have ks:=hT.nt;have kj:=hz.cap;obtain⟨V,W,s',rfl,b1,fm,da⟩:=hz.get (j:=0) AE;obtain rfl:(J:Int)=s':=by have:=fm.out;simpa using this
 rw[DN] at da;have cu:=hz.tail1;rw[Nat.add_sub_cancel] at cu;obtain⟨A2,jb⟩:∃A2:Option Addr,(if cz=1 then some (⟨V,W,none⟩:Addr) else some ⟨V,W+1,none⟩)=A2:=⟨_,rfl⟩;rw[jb] at cu;obtain⟨A,B,x,Ax,cx,ds,cw,Hx,q0,q1,q2,f1⟩:=hT.at_.U.get (j:=J) jf;have ds:a3=some ⟨A,B,none⟩:=ds;subst ds;obtain rfl:H=x:=by
  have e:=a6.symm.trans Hx.out;injection e
 have HB:=LH hT;have HU:=LH hU;have h6:=LH a6;have fg:=LH f6;have fo:=LH dz;have hu:=LH gc;have Hq:=LH hq;have fe:=LH am;have g2:=LH f1;have hy:=LH ge;have d3:Hid (∀X,Below W0 W0 X->Calls prog 64 #[.agg #[.slice a1 n1 c1,.slice a2 n2 c2,.slice (some ⟨A,B,none⟩) n3 c3,.int .i64 G.zt],.slice At nt ct,.slice Ax H.rt.length cx,.slice A2 T.length (cz-1)] X (Zv7 u1.length n q X)):=LH λX D=>by
  have hk:=fl.out J H h6.out;have h1:=HF H.rt n q u1 z Ax cx A2 (cz-1) X (by have:=hy.out;rw[AY] at this;omega) HU.out g1.out (by have h1:=fo.out;have h2:=fg.out;omega) hk.1.len hn hk.2.1 g2.out (by rw[cs,dq];exact cu) D;rw[dq] at h1;exact h1
 have fy:=Zy w (.cells #[.slice a1 n1 c1,.slice a2 n2 c2,.slice (some ⟨A,B,none⟩) n3 c3,.int .i64 G.zt] 26);have f7:=Y1.new w 26 ⟨a1,n1,c1,a2,n2,c2,some ⟨A,B,none⟩,n3,c3⟩ G.zt;have cv:=Zy (w.alloc (.cells #[.slice a1 n1 c1,.slice a2 n2 c2,.slice (some ⟨A,B,none⟩) n3 c3,.int .i64 G.zt] 26)) (.cells #[.int .i64 0,.int .i64 0,.slice none 0 0] 67);have hO:=Blk.new (w.alloc (.cells #[.slice a1 n1 c1,.slice a2 n2 c2,.slice (some ⟨A,B,none⟩) n3 c3,.int .i64 G.zt] 26)) 67 #[.int .i64 0,.int .i64 0,.slice none 0 0];have p5:=Zl w (.cells #[.slice a1 n1 c1,.slice a2 n2 c2,.slice (some ⟨A,B,none⟩) n3 c3,.int .i64 G.zt] 26);rw[p5] at hO;have fz:=Zz fy cv;have fb:=LH hO;have gz:=LH ((Blk.new w 26 #[.slice a1 n1 c1,.slice a2 n2 c2,.slice (some ⟨A,B,none⟩) n3 c3,.int .i64 G.zt]).ext cv);have de:=LH fz;have dj:=LH (f7.below cv);have jk:=am.size;clear gf hT hP HF hU a6 gh f6 dz gc hq h0 hl ga je cs dq fw hz am cu f1 ge fm fy f7 cv hO p5 fz;go_enter func29,ntmps29;go_upto_region 1 with fail;generalize (w.alloc (.cells #[.slice a1 n1 c1,.slice a2 n2 c2,.slice (some ⟨A,B,none⟩) n3 c3,.int .i64 G.zt] 26)).alloc (.cells #[.int .i64 0,.int .i64 0,.slice none 0 0] 67)=W1 at *;have⟨S,y0,y1,U,y3⟩:=dj.out;simp only[] at y0 y1 U y3;have a0:Below W0 W0 W1:=fe.out.trans (de.out.mono jk);have s0:=(a0.cell (p:=⟨V,W,none⟩) b1).trans da;have sl:=AK b1 a0.size;have e0:=(a0.cell (p:=⟨A,B+J*3,none⟩) cw).trans q0;have e1:=(a0.cell (p:=⟨A,B+J*3+1,none⟩) cw).trans q1;have e2:=(a0.cell (p:=⟨A,B+J*3+2,none⟩) cw).trans q2;have el:=AK cw a0.size;have hg:=LH a0;clear a0;refine Yi (Γ:=Unit) (λ_ b u X=>VMs W1 [(⟨7,8,6,60,#[.int .i64 0,.slice none 0 0,.int .i64 0]⟩:Qr)] b u X) (λX I=>Zu X I) () (λu=>(⟨(GV ⟨a1,n1,c1,a2,n2,c2,some ⟨A,B,none⟩,n3,c3⟩ G.zt :: .slice At nt ct :: .slice (some ⟨V,W,none⟩) (T.length+1) cz :: .pointer (some ⟨w,0,none⟩)::undef::undef :: .pointer (some ⟨w+1,0,none⟩)::u 7::undef::undef::u 0::u 1::u 2::u 3::u 4::u 5::u 6::undef::undef::undef::undef::undef::undef::undef::undef::undef::undef::undef::undef::undef::undef::undef::undef::undef::undef::undef::undef::undef::undef::undef::undef::undef::undef::undef::undef::undef::undef::undef::undef::undef::undef::undef::undef::undef::undef::undef::undef::undef::undef::undef::[]).toArray,[]⟩:Act)) [undef,undef,undef,undef,undef,undef,undef,undef,undef] [λv X=>v = .pointer (some ⟨w,2,none⟩),λv X=>v = .slice (some ⟨A,B,none⟩) n3 c3,λv X=>v = .slice (some ⟨V,W,none⟩) (T.length+1) cz,λv X=>v = .pointer (some ⟨V,W,none⟩),λv X=>v = .int .i64 (J:Int),λv X=>v = .pointer (some ⟨A,B+J*3,none⟩),λv X=>v = .agg #[.int .i64 H.L,.slice Ax H.rt.length cx,.int .i64 H.P],λv X=>True,λv X=>True] (l:=[_,_,_,_,_,_,_,_,_]) AB AB rfl (VMs.zt _ _ _) ⟨AI,AI,AI,AI,AI,AI,AI,AI,AI,trivial⟩ ?_ ?_
 ·refine Zw.v0 ?_;refine Zw.vf (λQ g b u X K d C a f k=>?_) ?_
  ·have p0:u 0=_:=f 0 rfl;have t:=a.below;have v0:=(t.cell (p:=⟨w,2,none⟩) S).trans U;have vl:=AK S t.size;clear f a d;generalize u 0=H at *;subst p0;go_simp;exact k
  refine Zw.v0 ?_;refine Zw.vf (λQ g b u X K d C a f k=>?_) ?_
  ·have p2:u 2=_:=f 2 rfl;clear f a d;generalize u 2=x2 at *;subst p2;go_simp;exact k
  refine Zw.vf (λQ g b u X K d C a f k=>?_) ?_
  ·have p3:u 3=_:=f 3 rfl;have t:=a.below;have v0:=(t.cell (p:=⟨V,W,none⟩) sl).trans s0;have vl:=AK sl t.size;clear f a d;generalize u 3=x3 at *;subst p3;go_simp;exact k
  refine Zw.vf (λQ g b u X K d C a f k=>?_) ?_
  ·have p1:u 1=_:=f 1 rfl;have p4:u 4=_:=f 4 rfl;clear f a d;generalize u 1=x1 at *;subst p1;generalize u 4=x4 at *;subst p4;go_simp;exact k
  refine Zw.con (λQ g b u X d C a c K k=>?_) ?_
  ·have p5:u 5=_:=(c 5 rfl).2;have bi:b 8=false:=d.no C AB;have N:=λI (D:Below X X I) v=>a.call D 6 bi rfl v;have t:=a.below;have v0:=(t.cell (p:=⟨A,B+J*3,none⟩) el).trans e0;have v1:=(t.cell (p:=⟨A,B+J*3+1,none⟩) el).trans e1;have v2:=(t.cell (p:=⟨A,B+J*3+2,none⟩) el).trans e2;have vl:=AK el t.size;clear c a d;rw[p5] at k⊢;go_simp;exact k _ () _ (Zu.refl _) (N _ (AP _ _) _) rfl
  refine Zw.con (λQ g b u X d C a c K k=>?_) ?_
  ·have bi:b 8=false:=d.no C AB;have N:=a.made (p:=(⟨7,8,6,60,#[.int .i64 0,.slice none 0 0,.int .i64 0]⟩:Qr)) AE bi (λp c=>by simp only[BY,DZ,or_false] at c;rcases c with rfl <;> exact⟨AE,AC,AC⟩);clear c a d;go_simp;exact k _ () _ (.of_below (Zy _ _)) N trivial
  refine Zw.con (λQ g b u X d C a c K k=>?_) ?_
  ·have p6:u 6=_:=(c 6 rfl).2;obtain⟨gB,e7,R,N,b8⟩:=a.put3 (p:=(⟨7,8,6,60,#[.int .i64 0,.slice none 0 0,.int .i64 0]⟩:Qr)) AE (c 7 rfl).1 C (λp c=>by simp only[BY,DZ,or_false] at c;rcases c with rfl <;> exact⟨AE,AC,AC,AE⟩) rfl nofun nofun nofun p6
   clear c a d;generalize u 7=x7 at *;subst e7;generalize u 6=x6 at *;subst p6;have y0:=R.cell 0;have j7:=R.frozen 0;have y1:=R.cell 1;have j8:=R.frozen 1;have U:=R.cell 2;have j9:=R.frozen 2;have yl:=R.lt;clear R;go_simp;exact k undef () _ b8 (N undef) trivial
  exact Zw.nil
 intro _ b9 u X9 al ak c;obtain⟨g7,vs,p7,f8,f4,p6⟩:=ak.fin (p:=⟨7,8,6,60,#[.int .i64 0,.slice none 0 0,.int .i64 0]⟩) AE (al 7 AC) (al 8 AC);have q6:u 6=_:=c 6 AC;obtain rfl:vs=#[.int .i64 H.L,.slice Ax H.rt.length cx,.int .i64 H.P]:=by
  rw[p6] at q6;injection q6
 have cj:u 7=_:=p7;have aa:=ak.below;have gw:=LH (Zz de.out aa);have ck:=LH (Zz hg.out aa);have fj:=LH (dj.out.below aa);have dg:=LH (fb.out.ext aa);have d6:=LH (gz.out.ext aa);have b4:=LH f4;have km:w.heap.size<=g7:=BC de.out.size f8;clear c al ak p6 q6 aa f4 b9 f8;rw[cj];clear p7 cj y0 y1 U y3 S s0 sl e0 e1 e2 el fb dj;generalize u 0=w0 at *;generalize u 1=w1 at *;generalize u 2=w2 at *;generalize u 3=w3 at *;generalize u 4=w4 at *;generalize u 5=w5 at *;generalize u 6=w6 at *;clear u;generalize X9=W2 at *;have⟨S,y0,y1,U,y3⟩:=fj.out;simp only[] at y0 y1 U y3;have s0:=(ck.out.cell (p:=⟨V,W,none⟩) b1).trans da;have sl:=AK b1 ck.out.size;have ft:W2.cell? ⟨g7,1,none⟩=some (.slice Ax H.rt.length cx):=b4.out.cell 1;have b7:=b4.out.lt;have CF:Hid (∀X,Below W2 W2 X->Calls prog 64 #[.agg #[.slice a1 n1 c1,.slice a2 n2 c2,.slice (some ⟨A,B,none⟩) n3 c3,.int .i64 G.zt],.slice At nt ct,.slice Ax H.rt.length cx,.slice A2 T.length (cz-1)] X λe w'=>Below X X w'/\∃O P,e = .returned (.agg #[.int .i64 (u1.length:Int),.int .i64 (n:Int),.slice O (Zq3 q).length P])/\Zq .u32 w' O (Zq3 q).length P (Zq3 q)):=LH λX D=>(d3.out X (Zz ck.out D)).mono λe w' h=>h;clear d3;go_upto_region 2 with fail;refine Yi (Γ:=Unit) (λ_ b u X=>VMs W2 [(⟨7,8,6,67,#[.int .i64 0,.int .i64 0,.slice none 0 0]⟩:Qr)] b u X) (λX I=>Zu X I) () (λu=>(⟨(GV ⟨a1,n1,c1,a2,n2,c2,some ⟨A,B,none⟩,n3,c3⟩ G.zt :: .slice At nt ct :: .slice (some ⟨V,W,none⟩) (T.length+1) cz :: .pointer (some ⟨w,0,none⟩)::undef::undef :: .pointer (some ⟨w+1,0,none⟩) :: .pointer (some ⟨g7,0,none⟩)::u 7::undef::w0::w1::w2::w3::w4::w5::w6::u 0::u 1::u 2::u 3::u 4::u 5::u 6::undef::undef::undef::undef::undef::undef::undef::undef::undef::undef::undef::undef::undef::undef::undef::undef::undef::undef::undef::undef::undef::undef::undef::undef::undef::undef::undef::undef::undef::undef::undef::undef::undef::undef::undef::undef::[]).toArray,[]⟩:Act)) [undef,undef,undef,undef,undef,undef,undef,undef,undef] [λv X=>v = .agg #[.slice a1 n1 c1,.slice a2 n2 c2,.slice (some ⟨A,B,none⟩) n3 c3,.int .i64 G.zt],λv X=>v = .slice At nt ct,λv X=>v = .pointer (some ⟨g7,1,none⟩),λv X=>v = .slice Ax H.rt.length cx,λv X=>v = .slice (some ⟨V,W,none⟩) (T.length+1) cz,λv X=>v = .slice A2 T.length (cz-1),λv X=>∃O P,v = .agg #[.int .i64 (u1.length:Int),.int .i64 (n:Int),.slice O (Zq3 q).length P]/\Zq .u32 X O (Zq3 q).length P (Zq3 q),λv X=>True,λv X=>True] (l:=[_,_,_,_,_,_,_,_,_]) AB AB rfl (VMs.zt _ _ _) ⟨AI,AI,AI,AI,AI,AI,(λv X I ⟨O,P,e,h⟩ D=>⟨O,P,e,h.nkept D⟩),AI,AI,trivial⟩ ?_ ?_
 ·refine Zw.vf (λQ g b u X K d C a f k=>?_) ?_
  ·have t:=a.below;have v0:=(t.cell (p:=⟨w,0,none⟩) S).trans y0;have v1:=(t.cell (p:=⟨w,1,none⟩) S).trans y1;have v2:=(t.cell (p:=⟨w,2,none⟩) S).trans U;have v3:=(t.cell (p:=⟨w,3,none⟩) S).trans y3;have vl:=AK S t.size;clear f a d;go_simp;exact k
  refine Zw.v0 ?_;refine Zw.v0 ?_;refine Zw.vf (λQ g b u X K d C a f k=>?_) ?_
  ·have p2:u 2=_:=f 2 rfl;have t:=a.below;have v0:=(t.cell (p:=⟨g7,1,none⟩) b7).trans ft;have vl:=AK b7 t.size;clear f a d;generalize u 2=x2 at *;subst p2;go_simp;exact k
  refine Zw.v0 ?_;refine Zw.vf (λQ g b u X K d C a f k=>?_) ?_
  ·have p4:u 4=_:=f 4 rfl;have t:=a.below;have kp:(1:Int)<=(T.length:Int)+1:=AA
   clear f a d;generalize u 4=x4 at *;subst p4;go_simp;exact k
  refine Zw.con (λQ g b u X d C a c K k=>?_) ?_
  ·have p0:u 0=_:=(c 0 rfl).2;have p1:u 1=_:=(c 1 rfl).2;have p3:u 3=_:=(c 3 rfl).2;have p5:u 5=_:=(c 5 rfl).2;have bi:b 8=false:=d.no C AB;have N:=λI (D:Below X X I) v=>a.call D 6 bi rfl v;have t:=a.below;have CC:=CF.out X t;clear c a d;rw[p0,p1] at k⊢;rw[p3,p5] at k⊢;go_simp;go_at_call 64;(with_reducible refine CC.mono ?_);rintro e I⟨D,O,P,rfl,hv⟩;go_simp;exact k _ () _ (.of_below D) (N _ D _) ⟨O,P,rfl,hv⟩
  refine Zw.con (λQ g b u X d C a c K k=>?_) ?_
  ·have bi:b 8=false:=d.no C AB;have N:=a.made (p:=(⟨7,8,6,67,#[.int .i64 0,.int .i64 0,.slice none 0 0]⟩:Qr)) AE bi (λp c=>by simp only[BY,DZ,or_false] at c;rcases c with rfl <;> exact⟨AE,AC,AC⟩);clear c a d;go_simp;exact k _ () _ (.of_below (Zy _ _)) N trivial
  refine Zw.con (λQ g b u X d C a c K k=>?_) ?_
  ·obtain⟨O,P,p6,hv⟩:=(c 6 rfl).2;obtain⟨gB,e7,R,N,b8⟩:=a.put3 (p:=(⟨7,8,6,67,#[.int .i64 0,.int .i64 0,.slice none 0 0]⟩:Qr)) AE (c 7 rfl).1 C (λp c=>by simp only[BY,DZ,or_false] at c;rcases c with rfl <;> exact⟨AE,AC,AC,AE⟩) rfl nofun nofun nofun p6
   clear c a d;generalize u 7=x7 at *;subst e7;generalize u 6=x6 at *;subst p6;have y0:=R.cell 0;have j7:=R.frozen 0;have y1:=R.cell 1;have j8:=R.frozen 1;have U:=R.cell 2;have j9:=R.frozen 2;have yl:=R.lt;clear R;go_simp;exact k undef () _ b8 (N undef) trivial
  exact Zw.nil
 intro _ b9 u X9 al ak c;obtain⟨E,vs,p7,ko,f5,p6⟩:=ak.fin (p:=⟨7,8,6,67,#[.int .i64 0,.int .i64 0,.slice none 0 0]⟩) AE (al 7 AC) (al 8 AC);obtain⟨O,P,q6,hv⟩:=c 6 AC;obtain rfl:vs=#[.int .i64 (u1.length:Int),.int .i64 (n:Int),.slice O (Zq3 q).length P]:=by
  rw[p6] at q6;injection q6
 have cj:u 7=_:=p7;have aa:=ak.below;have d4:=LH (Zz gw.out aa);have hh:=LH (Zz ck.out aa);have g6:=LH (dg.out.ext aa);have g0:=LH (d6.out.ext aa);have hd:=LH (b4.out.ext aa);have b5:=LH f5;have HV:=LH hv;have ki:=dg.out.lt;have kn:=b4.out.lt;have kw:u1.length<=9223372036854775806:=AA
 clear c al ak p6 q6 aa f5 b9 hv;rw[cj];clear p7 cj y0 y1 U y3 S s0 sl ft b7 dg d6 fj b4 CF;generalize u 0=m0 at *;generalize u 1=m1 at *;generalize u 2=m2 at *;generalize u 3=m3 at *;generalize u 4=m4 at *;generalize u 5=m5 at *;generalize u 6=m6 at *;clear u;generalize X9=W3 at *;have c0:W3.cell? ⟨E,0,none⟩=some (.int .i64 (u1.length:Int)):=b5.out.cell 0;have f0:=b5.out.frozen 0;have cl:=b5.out.lt;have fd:Hid (Blk (W3.setCell ⟨E,0,none⟩ (.int .i64 ((u1.length:Int)+1))) E 67 #[.int .i64 ((u1.length:Int)+1),.int .i64 (n:Int),.slice O (Zq3 q).length P]):=LH (b5.out.set 0 (.int .i64 ((u1.length:Int)+1)));have dy:=Off.of_set W3 E 0 (.int .i64 ((u1.length:Int)+1));have ff:Hid (Below E W3 (W3.setCell ⟨E,0,none⟩ (.int .i64 ((u1.length:Int)+1)))):=LH (dy.is_below (DS cl) λq hq=>by rw[hq];exact AJ _);have fc:Hid (Zq .u32 (W3.setCell ⟨E,0,none⟩ (.int .i64 ((u1.length:Int)+1))) O (Zq3 q).length P (Zq3 q)):=LH (HV.out.nkept (Zu.of_off dy λp c o z hc=>by
  rw[c,b5.out.cell o] at hc;rcases o with _ | _ | _ | o <;> cases hc))
 clear dy;go_upto_region 4 with fail;clear c0 f0 cl;generalize W3.setCell ⟨E,0,none⟩ (.int .i64 ((u1.length:Int)+1))=W4 at *;go_wp2_with fail;go_loopw [9] (λi wr=>∃(j F:Nat) (A5:Option Addr) (c5:Nat),i = .int .i64 (j:Int)/\j<=J/\Hid (F=Z0 (Zv G) G.U (Zp s) j n+q)/\Hid (Zq .u32 wr A5 (Zq3 F).length c5 (Zq3 F))/\Hid (Blk wr E 67 #[.int .i64 ((u1.length:Int)+1),.int .i64 (n:Int),.slice A5 (Zq3 F).length c5])/\Hid (Below E W3 wr)) (λi _=>J-(intOf i).toNat)
 case atStart=>exact⟨0,q,O,P,rfl,AV _,LH (by rw[Qb];omega),fc,fd,ff⟩
 obtain⟨j,F,A5,c5,rfl,hj,cn,HN,HX,bu⟩:=hrel;have kx:=d4.out.size;have dh:=LH (hd.out.below bu.out AA);have df:=LH (g0.out.below bu.out AA);have an:=LH (g6.out.below bu.out AA);have c4:Below W0 W0 wr:=hh.out.trans (bu.out.mono (by have:=fe.out.size;omega));have cm:=LH c4;have s0:=(c4.cell (p:=⟨V,W,none⟩) b1).trans da;have sl:=AK b1 c4.size;clear c4 fd fc ff;have j5:wr.cell? ⟨E,0,none⟩=some (.int .i64 ((u1.length:Int)+1)):=HX.out.cell 0;have x1:wr.cell? ⟨E,1,none⟩=some (.int .i64 (n:Int)):=HX.out.cell 1;have x2:wr.cell? ⟨E,2,none⟩=some (.slice A5 (Zq3 F).length c5):=HX.out.cell 2;have xl:=HX.out.lt;by_cases jg:j<J
 case neg =>
  obtain rfl:j=J:=AA
  have o0:wr.cell? ⟨w+1,0,none⟩=some (.int .i64 0):=an.out.cell 0;have o1:wr.cell? ⟨w+1,1,none⟩=some (.int .i64 0):=an.out.cell 1;have o2:wr.cell? ⟨w+1,2,none⟩=some (.slice none 0 0):=an.out.cell 2;have lu:=an.out.frozen 0;have lv:=an.out.frozen 1;have lw:=an.out.frozen 2;have ol:=an.out.lt;have fh:Hid (Below w w wr):=d4.out.trans (bu.out.mono AA);have hf:=LH (((an.out.set 0 (.int .i64 ((u1.length:Int)+1))).set 1 (.int .i64 (n:Int))).set 2 (.slice A5 (Zq3 F).length c5));have ho:=((Off.of_set wr (w.heap.size+1) 0 (.int .i64 ((u1.length:Int)+1))).trans (Off.of_set _ (w.heap.size+1) 1 (.int .i64 (n:Int))) λ_ _ h=>h).trans (Off.of_set _ (w.heap.size+1) 2 (.slice A5 (Zq3 F).length c5)) λ_ _ h=>h;have g5:=LH (HN.out.nkept (Zu.of_off ho λp c o z hc=>by
   rw[c,an.out.cell o] at hc;rcases o with _ | _ | _ | o <;> cases hc))
  have gy:=LH (fh.out.trans (ho.is_below fh.out.size λp c=>by rw[c];exact DO _));obtain rfl:F=r:=by
   have h1:=cn.out;have h2:=hu.out;omega
  clear ho jg hj;go_wp2_with fail;refine AW (AX (p:=6) AB _ _ (w.heap.size+1) 67 #[.int .i64 ((u1.length:Int)+1),.int .i64 (n:Int),.slice A5 (Zq3 F).length c5] (0,0) _ rfl hf.out underlying67 rfl AB) rfl ?_;exact⟨gy.out,A5,c5,rfl,g5.out⟩
 obtain⟨fs,gj,y,Ay,cy,eA,cd,Hy,gk,d0,j2,f2⟩:=HB.out.at_.U.get (j:=j) (by show j<n3;omega);have eA:(some ⟨A,B,none⟩:Option Addr)=some ⟨fs,gj,none⟩:=eA;obtain⟨rfl,rfl⟩:A=fs/\B=gj:=by
  injection eA with eA;injection eA with e1 e2 _;exact⟨e1,e2⟩
 have e0:=(cm.out.cell (p:=⟨A,B+j*3,none⟩) cd).trans gk;have e1:=(cm.out.cell (p:=⟨A,B+j*3+1,none⟩) cd).trans d0;have el:=AK cd cm.out.size;have U:wr.cell? ⟨w,2,none⟩=some (.slice (some ⟨A,B,none⟩) n3 c3):=df.out.cell 2;have S:=df.out.lt;have ja:wr.cell? ⟨g7,0,none⟩=some (.int .i64 H.L):=dh.out.cell 0;have b7:=dh.out.lt;have g3:=LH f2;have hk:=fl.out j y Hy.out;have hi:=LH hk.1;have fk:=LH hk.2.1;have ky:=hk.2.2;have kq:j<n3:=AA
 have ht:=LH d0;clear hk gk d0 j2 f2 eA;obtain⟨dm,cc⟩:∃dm,(y.L==H.L)=dm:=⟨_,rfl⟩;have bc:=Yt wr;go_upto_region 7 with fail;refine Zs AB AB ?_;repeat (go_big_quiet_step (fail))
 refine BJ ?_;rintro _⟨v,rfl⟩;have bg:=Zr wr v;have bd:=LH (HX.out.ext bg);have kc:=LH (dh.out.ext bg);have d7:=LH (df.out.ext bg);have fa:=LH (HN.out.below bg);have fi:=LH (bu.out.trans (bg.mono (DS HX.out.lt)));have di:=LH (Zz cm.out bg);clear s0 sl e0 e1 el j5 x1 x2 xl U S ja b7 bc bg;generalize bl wr v=WV at *;cases dm
 case false =>
  have ji:¬y.L=H.L:=λe=>by rw[e] at cc;simp at cc
  have dk:Hid (F=Z0 (Zv G) G.U (Zp s) (j+1) n+q):=LH (by
   rw[fn.out j y Hy.out,if_neg (by have:=fp.out;omega)];exact cn.out)
  clear cc ji;go_wp2_with fail;go_roundw
  case rel=>exact⟨j+1,F,A5,c5,AF,AA,dk,fa,bd,fi⟩
  simp[intOf] <;> omega
 have jl:y.L=H.L:=by simpa using cc
 obtain⟨M,fq⟩:∃M,Hid (Zx (Zv G) y.rt n=M):=⟨_,LH rfl⟩;have jj:Z0 (Zv G) G.U (Zp s) (j+1) n=Z0 (Zv G) G.U (Zp s) j n+M:=by
  rw[fn.out j y Hy.out,if_pos (by have:=fp.out;omega),fq.out]
 have gd:F+M<big:=by
  have h1:=cn.out;have h2:=hm.out (j+1) AA;have h3:=fo.out;have h4:=fg.out;have h5:=Hq.out;omega
 have hw:=LH gd;have h7:Hid (M<big):=LH AA;have dk:Hid (F+M=Z0 (Zv G) G.U (Zp s) (j+1) n+q):=LH (by
  have h1:=cn.out;omega)
 have CF:Hid (∀X,Below WV WV X->Calls prog 63 #[.slice At nt ct,.slice Ay y.rt.length cy,.int .i64 (n:Int)] X λe w'=>Below X X w'/\∃O gi P d1,e = .returned (.agg #[.slice O gi P,.bool d1])/\Z1 w' O gi P d1 M):=LH λX D=>by
  have am:=Zz di.out D;have h1:=Kd At nt ct G.O.length tab Ay cy y.rt n X (HB.out.tabm.below am) hn AA AA (g3.out.below am) (by have:=hi.out.len;omega) (λs L=>by have:=H7 (fk.out s L);omega);rw[HB.out.forest fk.out hn,fq.out] at h1;exact h1.mono λe w' h=>h
 have e1:=(di.out.cell (p:=⟨A,B+j*3+1,none⟩) cd).trans ht.out;have el:=AK cd di.out.size;have x1:WV.cell? ⟨E,1,none⟩=some (.int .i64 (n:Int)):=bd.out.cell 1;have x2:WV.cell? ⟨E,2,none⟩=some (.slice A5 (Zq3 F).length c5):=bd.out.cell 2;have xl:=bd.out.lt;have U:WV.cell? ⟨w,2,none⟩=some (.slice (some ⟨A,B,none⟩) n3 c3):=d7.out.cell 2;have S:=d7.out.lt;clear cc jl jj gd;go_upto_region 8 with fail;refine Yi (Γ:=Unit) (λ_ b u X=>SMs WV E 2 15 13 b u X) (λX I=>Zu X I) () (λu=>(⟨(GV ⟨a1,n1,c1,a2,n2,c2,some ⟨A,B,none⟩,n3,c3⟩ G.zt :: .slice At nt ct :: .slice (some ⟨V,W,none⟩) (T.length+1) cz :: .pointer (some ⟨w,0,none⟩)::undef::undef :: .pointer (some ⟨w+1,0,none⟩) :: .pointer (some ⟨g7,0,none⟩) :: .pointer (some ⟨E,0,none⟩) :: .int .i64 (j:Int)::w0::w1::w2::w3::w4::w5::w6::m0::m1::m2::m3::m4::m5::m6 :: .pointer (some ⟨E,0,none⟩) :: .int .i64 (u1.length:Int) :: .int .i64 ((u1.length:Int)+1) :: .pointer (some ⟨E,0,none⟩) :: .int .i64 (j:Int) :: .slice (some ⟨V,W,none⟩) (T.length+1) cz :: .pointer (some ⟨V,W,none⟩) :: .int .i64 (J:Int) :: .bool true::u33::u34 :: .pointer (some ⟨w,2,none⟩) :: .slice (some ⟨A,B,none⟩) n3 c3 :: .int .i64 (j:Int) :: .pointer (some ⟨A,B+j*3,none⟩) :: .pointer (some ⟨A,B+j*3,none⟩) :: .int .i64 y.L :: .pointer (some ⟨g7,0,none⟩) :: .int .i64 H.L :: .bool true::u 0::u 1::u 2::u 3::u 4::u 5::u 6::u 7::u 8::u 9::u 10::u 11::u 12::u 13::u 14::undef::[]).toArray,[]⟩:Act)) [u44,u45,u46,u47,u48,u49,u50,u51,u52,u53,u54,u55,u56,u57,u58,undef] [λv X=>v = .pointer (some ⟨E,2,none⟩),λv X=>v = .slice A5 (Zq3 F).length c5,λv X=>v = .slice At nt ct,λv X=>v = .pointer (some ⟨w,2,none⟩),λv X=>v = .slice (some ⟨A,B,none⟩) n3 c3,λv X=>v = .int .i64 (j:Int),λv X=>v = .pointer (some ⟨A,B+j*3,none⟩),λv X=>v = .pointer (some ⟨A,B+j*3+1,none⟩),λv X=>v = .slice Ay y.rt.length cy,λv X=>v = .pointer (some ⟨E,1,none⟩),λv X=>v = .int .i64 (n:Int),λv X=>∃A8 n8 c8 d8,v = .agg #[.slice A8 n8 c8,.bool d8]/\Z1 X A8 n8 c8 d8 M,λv X=>∃Y Z,v = .slice Y (Zq3 (M)).length Z/\Zq .u32 X Y (Zq3 (M)).length Z (Zq3 (M)),λv X=>∃Y Z,v = .slice Y (Zq3 (F+M)).length Z/\Zq .u32 X Y (Zq3 (F+M)).length Z (Zq3 (F+M)),λv X=>v = .pointer (some ⟨E,2,none⟩),λv X=>True] (l:=[_,_,_,_,_,_,_,_,_,_,_,_,_,_,_,_]) AB AB rfl (SMs.zt _ _ _ _ _ _) ⟨AI,AI,AI,AI,AI,AI,AI,AI,AI,AI,AI,(λv X I ⟨A8,n8,c8,d8,e,h⟩ D=>⟨A8,n8,c8,d8,e,h.nkept D⟩),(λv X I ⟨Y,Z,e,h⟩ D=>⟨Y,Z,e,h.nkept D⟩),(λv X I ⟨Y,Z,e,h⟩ D=>⟨Y,Z,e,h.nkept D⟩),AI,AI,trivial⟩ ?_ ?_
 ·refine Zw.v0 ?_;refine Zw.vf (λQ g b u X K d C a f k=>?_) ?_
  ·have L:b 15=false:=d.no C AB;have p0:u 0=_:=f 0 rfl;have t:=a.below L;have v0:=(t.cell (p:=⟨E,2,none⟩) xl).trans x2;have vl:=AK xl t.size;clear f a d;generalize u 0=H at *;subst p0;go_simp;exact k
  refine Zw.v0 ?_;refine Zw.v0 ?_;refine Zw.vf (λQ g b u X K d C a f k=>?_) ?_
  ·have L:b 15=false:=d.no C AB;have p3:u 3=_:=f 3 rfl;have t:=a.below L;have v0:=(t.cell (p:=⟨w,2,none⟩) S).trans U;have vl:=AK S t.size;clear f a d;generalize u 3=x3 at *;subst p3;go_simp;exact k
  refine Zw.v0 ?_;refine Zw.vf (λQ g b u X K d C a f k=>?_) ?_
  ·have p4:u 4=_:=f 4 rfl;have p5:u 5=_:=f 5 rfl;clear f a d;generalize u 4=x4 at *;subst p4;generalize u 5=x5 at *;subst p5;go_simp;exact k
  refine Zw.v1 6 ?_;refine Zw.vf (λQ g b u X K d C a f k=>?_) ?_
  ·have L:b 15=false:=d.no C AB;have p7:u 7=_:=f 7 rfl;have t:=a.below L;have v0:=(t.cell (p:=⟨A,B+j*3+1,none⟩) el).trans e1;have vl:=AK el t.size;clear f a d;generalize u 7=x7 at *;subst p7;go_simp;exact k
  refine Zw.v0 ?_;refine Zw.vf (λQ g b u X K d C a f k=>?_) ?_
  ·have L:b 15=false:=d.no C AB;have p9:u 9=_:=f 9 rfl;have t:=a.below L;have v0:=(t.cell (p:=⟨E,1,none⟩) xl).trans x1;have vl:=AK xl t.size;clear f a d;generalize u 9=x9 at *;subst p9;go_simp;exact k
  refine Zw.con (λQ gg b u X d C a c K k=>?_) ?_
  ·have L:b 15=false:=d.no C AB;have p2:u 2=_:=(c 2 rfl).2;have p8:u 8=_:=(c 8 rfl).2;have jt:u 10=_:=(c 10 rfl).2;have t:=a.below L;have N:=λI (D:Below X X I) v=>a.idle L D 11 rfl v;have CC:=CF.out X t;clear c a d;rw[p2,p8,jt] at k⊢;go_simp;go_at_call 63;(with_reducible refine CC.mono ?_);rintro e I⟨D,A8,n8,c8,d8,rfl,hv⟩;go_simp;exact k _ () _ (.of_below D) (N _ D _) ⟨A8,n8,c8,d8,rfl,hv⟩
  refine Zw.con (λQ gg b u X d C a c K k=>?_) ?_
  ·have L:b 15=false:=d.no C AB;obtain⟨A8,n8,c8,d8,ju,hv⟩:=(c 11 rfl).2;have t:=a.below L;have N:=λI (D:Below X X I) v=>a.idle L D 12 rfl v;have f3:Zq .u32 X A8 n8 c8 (Zq3 M):=by
    have h1:=hv.2;rwa [Z7 h7.out] at h1
   obtain rfl:=f3.len;clear c a d;generalize u 11=l0 at *;subst ju;go_simp;exact k _ () _ (Zu.refl _) (N _ (AP _ _) _) ⟨_,_,rfl,f3⟩
  refine Zw.con (λQ gg b u X d C a c K k=>?_) ?_
  ·have L:b 15=false:=d.no C AB;have p1:u 1=_:=(c 1 rfl).2;obtain⟨Y,Z,jv,gb⟩:=(c 12 rfl).2;have t:=a.below L;have N:=λI (D:Below X X I) v=>a.idle L D 13 rfl v;have CC:=Zxi A5 c5 F Y Z M X (fa.out.below t) gb hw.out;clear c a d;rw[p1] at k⊢;generalize u 12=l1 at *;subst jv;go_simp;go_at_call 65;(with_reducible refine CC.mono ?_);rintro e I⟨A9,c9,rfl,c7,D⟩;go_simp;exact k _ () _ (.of_below D) (N _ D _) ⟨A9,c9,rfl,c7⟩
  refine Zw.v0 ?_;refine Zw.con (λQ gg b u X d C a c K k=>?_) ?_
  ·have L:b 15=false:=C;have jw:u 14=_:=(c 14 rfl).2;obtain⟨Y,Z,cf,gb⟩:=(c 13 rfl).2;have t:=a.below L;have N:=a.put L rfl undef;have cb:=bd.out.ext t;have v0:=cb.cell 2;have v1:=cb.frozen 2;have vl:=cb.lt;have b8:Zu X (X.setCell ⟨E,2,none⟩ (.slice Y (Zq3 (F+M)).length Z)):=Zu.of_off (Off.of_set X E 2 _) λq hq o z hc=>by
    rw[hq,cb.cell o] at hc;rcases o with _ | _ | _ | o <;> cases hc
   clear cb;rw[cf] at N;clear c a d;generalize u 14=l3 at *;subst jw;generalize u 13=l2 at *;subst cf;go_simp;exact k undef () _ b8 N trivial
  exact Zw.nil
 intro _ b9 u X9 al ak c;obtain⟨X0,am,eX⟩:=ak.done (al 15 AC);obtain⟨A9,c9,cf,c7⟩:=c 13 AC;rw[cf] at eX;have du:=bd.out.ext am;have he:Hid (Blk X9 E 67 #[.int .i64 ((u1.length:Int)+1),.int .i64 (n:Int),.slice A9 (Zq3 (F+M)).length c9]):=LH (by
  rw[eX];exact du.set 2 (.slice A9 (Zq3 (F+M)).length c9))
 have gx:Hid (Below E W3 X9):=LH (by
  rw[eX];have h1:=fi.out.trans (am.mono (DS bd.out.lt));exact h1.trans ((Off.of_set X0 E 2 (.slice A9 (Zq3 (F+M)).length c9)).is_below (DS du.lt) λq hq=>by rw[hq];exact AJ _))
 have g4:=LH c7;clear c al ak eX du am c7 b9 cf e1 el x1 x2 xl U S CF;generalize u 0=k0 at *;generalize u 1=k1 at *;generalize u 2=k2 at *;generalize u 3=k3 at *;generalize u 4=k4 at *;generalize u 5=k5 at *;generalize u 6=k6 at *;generalize u 7=k7 at *;generalize u 8=k8 at *;generalize u 9=k9 at *;generalize u 10=lb at *;generalize u 11=lc at *;generalize u 12=ld at *;generalize u 13=lf at *;generalize u 14=lg at *;clear u;go_wp2_with fail;go_roundw
 case rel=>exact⟨j+1,F+M,A9,c9,AF,AA,dk,g4,he,gx⟩
 simp[intOf] <;> omega
section
variable {W0:World} {h:GH} {G:Gr} {At:Option Addr} {nt ct wk:Nat} {cs:List Nat} {full:Bool} {A:Option Addr} {c:Nat} {W:World}
def Bp.push{j a:World}{f i:Nat}(M:Bp W0 h G At nt ct wk cs full A c W)(r:Below W W j)(p:M4 a W0 d ((Q cs)+1) f (cs.map (λi:Nat=>(i:Int))++[(i:Int)]))(t:j.grownBy a (K A (Q cs) c).ownBlock)(D:(Q cs)≠300):
 Blk a wk 87 #[K h.a1 h.n1 h.c1,K h.a2 h.n2 h.c2,K h.a3 h.n3 h.c3,aI aJ G.zt,K At nt ct,K A (Q cs) c,aB full]/\WkAt W0 h G At nt ct wk (cs++[i]) full (a.setCell ⟨wk,5,aN⟩ (K d ((Q cs)+1) f))/\Zu W (a.setCell ⟨wk,5,aN⟩ (K d ((Q cs)+1) f)):=by
 have g:=M.below r;have l:=Off.of_grown t;have u:Zu j a:=Zu.of_off l λq b=>g.row.no32 q b;have k:=l.blk g.box g.apart;have m:=Off.of_set a wk 5 (K d ((Q cs)+1) f);have y:∀o z,a.cell? ⟨wk,o,aN⟩≠some (aI .u32 z):=λo z s=>by
  rw[k.cell o] at s;rcases o with _ | _ | _ | _ | _ | _ | _ | o <;> cases s
 have x:Zu a (a.setCell ⟨wk,5,aN⟩ (K d ((Q cs)+1) f)):=Zu.of_off m λq b o z=>by rw[b];exact y o z
 have C:(K d ((Q cs)+1) f).ownBlock≠some wk:=λe=>by
  obtain⟨_,_,v,B⟩:=p.blk e;exact absurd (B.same_ty k) AC
 have n:=g.base.trans (l.is_below g.base.size λq b=>(g.row.blk b).1);refine⟨k,⟨d,f,n.trans (m.is_below n.size λq b=>by rw[b];exact M.low),?_,?_,M.low,?_⟩,((Zu.of_below r).trans u).trans x⟩
 ·rw[AU];exact k.set 5 _
 ·rw[AU,DI];exact p.off m λq b e=>C (by rw[b,e])
 have:=M.few;rw[AU,CW];omega
end
theorem rf_wtree{W0:World}{h:GH}{G:Gr}{At:Option Addr}{nt ct:Nat}(hT:TbG W0 h G At nt ct tab)(O:Xq G)(m:Nat)(HF:WFC W0 h G At nt ct m):WTC W0 h G At nt ct (m+1):=by
 intro a z s n r t Ar cr w f0 h0 hl hU c9 hn hr d;obtain⟨I,x0,q,t1,ad,ds,hU,dp,rfl⟩:=hU;have hq:q<Zx (Zv G) x0.rt n:=hU.lt O (InG.at O.fits ad);have b6:Z0 (Zv G) G.U (Zp s) (I+1) n<=Zv G s n:=by
  rw[Uu O h0 hl];exact Kj _ _ _ _ _
 rw[Y3 _ ad,if_pos ds] at b6;have fu:I<G.U.length:=(AN.1 ad).1;have f1:x0.L=(Zp s:Int):=by
  have:=(O.fits.L x0 (AM ad)).1;omega
 have fy:n<=10:=by have:=hT.nt;omega
 have fe:Hid (∀(j:Nat) (x:Rul),G.U[j]? = some x->J1 x.rt n/\(∀s∈x.rt,G.has s=true)/\0<=x.L):=LH λj x hx=>by
  have h1:=Bg O.fits (AM hx) fy;exact⟨h1.1,h1.2,(O.fits.L x (AM hx)).1⟩
 have cp:Hid (∀(j:Nat) (x:Rul),G.U[j]? = some x->Z0 (Zv G) G.U (Zp s) (j+1) n=Z0 (Zv G) G.U (Zp s) j n+(if x.L.toNat=Zp s then Zx (Zv G) x.rt n else 0)):=LH λj x hx=>Y3 _ hx _ _;have cn:Hid (∀j,j<=I->Z0 (Zv G) G.U (Zp s) j n<=Z0 (Zv G) G.U (Zp s) I n):=LH λj hj=>Vf _ _ _ _ hj;have d7:Hid (InG G x0.rt):=InG.at O.fits ad;obtain⟨A,c,U⟩:=d;obtain⟨a1,n1,c1,a2,n2,c2,a3,n3,c3⟩:=h;have de:n3=G.U.length:=hT.at_.U.len.symm;have gv:I<n3:=AA
 have g9:n3<=40:=by have:=O.fits.n3.2;omega
 have gi:=LH de;have gr:=hT.at_.U.cap;have gx:=O.fits.n2.2;have gt:=O.fits.n1;have g3:=hT.tabm.1;have g7:=hT.tabm.2.1;have gy:=hT.nt;have gz:=(show Za .i64 w A z.length c (z.map λi:Nat=>(i:Int)) from Yl U.row.1).cap;have gs:=U.few;have HB:=LH hT;have d6:=LH HF;have HU:=LH hU;have bs:=LH ad;have cm:=LH c9;have HR:=LH hr;have HM:=LH U;have cq:=LH b6;have ba:=LH dp;have Hq:=LH hq;have g0:w.cell? ⟨a,0,none⟩=some (.slice a1 n1 c1):=U.box.cell 0;have g2:w.cell? ⟨a,2,none⟩=some (.slice a3 n3 c3):=U.box.cell 2;have g5:w.cell? ⟨a,5,none⟩=some (.slice A z.length c):=U.box.cell 5;have g6:w.cell? ⟨a,6,none⟩=some (.bool false):=U.box.cell 6;have f6:=U.box.frozen 6;have R:=U.box.lt;clear hT O HF hU ad ds c9 hr U b6 dp hq h0 hl de fu;by_cases aw:z.length=300
 case pos =>
  have ft:((z.length:Int)==300)=true:=by rw[aw];rfl
  have bn:=LH aw;have av:=HM.out.fill;have ch:=LH av;have y6:(w.setCell ⟨a,6,none⟩ (.bool true)).cell? ⟨a,6,none⟩=some (.bool true):=av.1.box.cell 6;have y2:(w.setCell ⟨a,6,none⟩ (.bool true)).cell? ⟨a,2,none⟩=some (.slice a3 n3 c3):=av.1.box.cell 2;have yl:=av.1.box.lt;clear aw av;go_enter func37,ntmps37;go_wp2_with fail;go_loopw [8] (λi wr=>i = .int .i64 (0:Int)/\wr=w.setCell ⟨a,6,none⟩ (.bool true)) (λ_ _=>0)
  case atStart=>exact⟨rfl,rfl⟩
  obtain⟨rfl,rfl⟩:=hrel;go_wp2_with fail;refine bodyPost_end (results_none rfl _ _ _) rfl ?_;exact⟨rfl,ch.out.2,.inr ⟨by rw[bn.out,AY];omega,z,_,_,ch.out.1⟩⟩
 have ft:((z.length:Int)==300)=false:=by
  rw[AR];omega
 have bn:=LH aw;clear aw;go_enter func37,ntmps37;go_wp2_with fail;go_loopw [3,8] (λv i wr=>∃(j k:Nat) (W:Option Addr) (Y:Nat),i = .int .i64 (j:Int)/\j<=I/\v = .slice W (Zq3 k).length Y/\Hid (r=Z0 (Zv G) G.U (Zp s) j n+k)/\Hid (Zq .u32 wr W (Zq3 k).length Y (Zq3 k))/\Hid (Below w w wr)) (λ_ i _=>I+1-(intOf i).toNat)
 case atStart=>exact⟨0,r,Ar,cr,rfl,AV _,rfl,LH (by rw[Qb];omega),HR,LH (AP _ _)⟩
 obtain⟨j,k,W,Y,rfl,hj,rfl,ag,HN,bm⟩:=hrel;have bj:=LH (HM.out.below bm.out);clear g0 g2 g5 g6 f6 R HM HR;have M:=bj.out;obtain⟨D,F,x,Ax,cx,rfl,b1,Hx,q0,q1,q2,c0⟩:=HB.out.at_.U.get (j:=j) (by show j<n3;omega);have e0:=(M.base.cell (p:=⟨D,F+j*3,none⟩) b1).trans q0;have N:=(M.base.cell (p:=⟨D,F+j*3+1,none⟩) b1).trans q1;have au:=AK b1 M.base.size;have d8:=LH c0;have g0:wr.cell? ⟨a,0,none⟩=some (.slice a1 n1 c1):=M.box.cell 0;have g2:wr.cell? ⟨a,2,none⟩=some (.slice (some ⟨D,F,none⟩) n3 c3):=M.box.cell 2;have g4:wr.cell? ⟨a,4,none⟩=some (.slice At nt ct):=M.box.cell 4;have g5:wr.cell? ⟨a,5,none⟩=some (.slice A z.length c):=M.box.cell 5;have g6:wr.cell? ⟨a,6,none⟩=some (.bool false):=M.box.cell 6;have R:=M.box.lt;have bd:=fe.out j x Hx.out;have ci:=LH bd.1;have bo:=LH bd.2.1;have g8:=bd.2.2;have gw:j<n3:=AA
 clear M q0 q1 q2 c0 bd;by_cases ai:x.L=(Zp s:Int)
 case neg =>
  have dg:(x.L != (Zp s:Int))=true:=by simpa using ai
  have fv:j≠I:=by
   rintro rfl;have e:=Hx.out.symm.trans bs.out;injection e with e;subst e;exact ai f1
  have bp:Hid (r=Z0 (Zv G) G.U (Zp s) (j+1) n+k):=LH (by
   rw[cp.out j x Hx.out,if_neg AA];exact ag.out)
  clear ai;go_wp2_with fail;go_roundw
  case rel=>exact⟨j+1,k,W,Y,AF,AA,rfl,bp,HN,bm⟩
  simp[intOf] <;> omega
 have dg:(x.L != (Zp s:Int))=false:=by simpa using ai
 have fk:=LH ai;obtain⟨y,Hy⟩:∃y,Hid (Zx (Zv G) x.rt n=y):=⟨_,LH rfl⟩;have dq:k<big:=by
  have h1:=ag.out;have S:=ba.out;have h3:=cq.out;have h4:=cm.out;have h5:=Hq.out;have h6:=cn.out j hj;omega
 have br:=LH dq;clear ai dq;have CF:Hid (∀X,Below wr wr X->Calls prog 63 #[.slice At nt ct,.slice Ax x.rt.length cx,.int .i64 (n:Int)] X λe w'=>Below X X w'/\∃B J C H,e = .returned (.agg #[.slice B J C,.bool H])/\Z1 w' B J C H y):=LH λX P=>by
  have c7:=Zz bj.out.base P;have h1:=Kd At nt ct G.O.length tab Ax cx x.rt n X (HB.out.tabm.below c7) hn AA AA (d8.out.below c7) (by have:=ci.out.len;omega) (λs hs=>by have:=H7 (bo.out s hs);omega);rw[HB.out.forest bo.out hn,Hy.out] at h1;exact h1.mono λe w' h=>h
 go_upto_region 6 with fail;refine Yi (Γ:=Unit) (λ_ b u X=>VMs wr [(⟨15,16,14,110,#[.slice none 0 0,.bool false]⟩:Qr)] b u X) (λX X'=>Zu X X') () (λu=>(⟨(.pointer (some ⟨a,0,none⟩) :: .int .i64 ((Zp s:Nat):Int) :: .int .i64 (n:Int) :: .slice W (Zq3 k).length Y::undef::undef::undef::undef :: .int .i64 (j:Int)::u 15 :: .pointer (some ⟨a,0,none⟩) :: .pointer (some ⟨a,0,none⟩) :: .pointer (some ⟨a,5,none⟩) :: .slice A z.length c :: .int .i64 (z.length:Int) :: .bool false::undef::undef::undef :: .int .i64 (j:Int) :: .pointer (some ⟨a,0,none⟩) :: .pointer (some ⟨a,0,none⟩) :: .pointer (some ⟨a,0,none⟩) :: .pointer (some ⟨a,2,none⟩) :: .slice (some ⟨D,F,none⟩) n3 c3 :: .int .i64 (n3:Int) :: .bool true :: .bool true :: .pointer (some ⟨a,0,none⟩) :: .pointer (some ⟨a,0,none⟩) :: .pointer (some ⟨a,6,none⟩) :: .bool false :: .bool true :: .bool true::u34::u35 :: .pointer (some ⟨a,0,none⟩) :: .pointer (some ⟨a,0,none⟩) :: .pointer (some ⟨a,0,none⟩) :: .pointer (some ⟨a,2,none⟩) :: .slice (some ⟨D,F,none⟩) n3 c3 :: .int .i64 (j:Int) :: .pointer (some ⟨D,F+j*3,none⟩) :: .pointer (some ⟨D,F+j*3,none⟩) :: .int .i64 x.L :: .int .i64 ((Zp s:Nat):Int) :: .bool false::u 0::u 1::u 2::u 3::u 4::u 5::u 6::u 7::u 8::u 9::u 10::u 11::u 12::u 13::u 14::u62::u63::u64::u65::u66::u67::u68::u69::u70::u71::u72::u73::u74::u75::u76::u77::u78::u79::u80::u81::u82::u83::u84::u85::u86::u87::u88::u89::u90::u91::[]).toArray,[]⟩:Act)) [u47,u48,u49,u50,u51,u52,u53,u54,u55,u56,u57,u58,u59,u60,u61,u9,undef] [λv X=>v = .pointer (some ⟨a,0,none⟩),λv X=>v = .pointer (some ⟨a,0,none⟩),λv X=>v = .pointer (some ⟨a,4,none⟩),λv X=>v = .slice At nt ct,λv X=>v = .pointer (some ⟨a,0,none⟩),λv X=>v = .pointer (some ⟨a,0,none⟩),λv X=>v = .pointer (some ⟨a,0,none⟩),λv X=>v = .pointer (some ⟨a,2,none⟩),λv X=>v = .slice (some ⟨D,F,none⟩) n3 c3,λv X=>v = .int .i64 (j:Int),λv X=>v = .pointer (some ⟨D,F+j*3,none⟩),λv X=>v = .pointer (some ⟨D,F+j*3+1,none⟩),λv X=>v = .slice Ax x.rt.length cx,λv X=>v = .int .i64 (n:Int),λv X=>∃B J C H,v = .agg #[.slice B J C,.bool H]/\Z1 X B J C H y,λv X=>True,λv X=>True] (l:=[_,_,_,_,_,_,_,_,_,_,_,_,_,_,_,_,_]) AB AB rfl (VMs.zt _ _ _) ⟨AI,AI,AI,AI,AI,AI,AI,AI,AI,AI,AI,AI,AI,AI,(λv X X' ⟨B,J,C,H,e,h⟩ P=>⟨B,J,C,H,e,h.nkept P⟩),AI,AI,trivial⟩ ?_ ?_
 ·refine Zw.v0 ?_;refine Zw.v1 0 ?_;refine Zw.v1 1 ?_;refine Zw.vf (λQ g b u X K E Z d f L=>?_) ?_
  ·have p2:u 2=_:=f 2 rfl;have T:=d.below;have y0:=(T.cell (p:=⟨a,4,none⟩) R).trans g4;have yl:=AK R T.size;clear f d E;generalize u 2=x2 at *;subst p2;go_simp;exact L
  refine Zw.v0 ?_;refine Zw.v1 4 ?_;refine Zw.v1 5 ?_;refine Zw.v1 6 ?_;refine Zw.vf (λQ g b u X K E Z d f L=>?_) ?_
  ·have p7:u 7=_:=f 7 rfl;have T:=d.below;have y0:=(T.cell (p:=⟨a,2,none⟩) R).trans g2;have yl:=AK R T.size;clear f d E;generalize u 7=x7 at *;subst p7;go_simp;exact L
  refine Zw.v0 ?_;refine Zw.vf (λQ g b u X K E Z d f L=>?_) ?_
  ·have p8:u 8=_:=f 8 rfl;have p9:u 9=_:=f 9 rfl;clear f d E;generalize u 8=x8 at *;subst p8;generalize u 9=x9 at *;subst p9;go_simp;exact L
  refine Zw.v1 10 ?_;refine Zw.vf (λQ g b u X K E Z d f L=>?_) ?_
  ·have f2:u 11=_:=f 11 rfl;have T:=d.below;have y0:=(T.cell (p:=⟨D,F+j*3+1,none⟩) au).trans N;have yl:=AK au T.size;clear f d E;generalize u 11=hw at *;subst f2;go_simp;exact L
  refine Zw.v0 ?_;refine Zw.con (λQ g b u X E Z d o K L=>?_) ?_
  ·have p3:u 3=_:=(o 3 rfl).2;have f3:u 12=_:=(o 12 rfl).2;have f4:u 13=_:=(o 13 rfl).2;have b5:b 16=false:=E.no Z AB;have hI:=λX' (P:Below X X X') v=>d.call P 14 b5 rfl v;have T:=d.below;have CC:=CF.out X T;clear o d E;rw[p3,f3,f4] at L⊢;go_simp;go_at_call 63;(with_reducible refine CC.mono ?_);rintro e X'⟨P,B,J,C,H,rfl,hv⟩;go_simp;exact L _ () _ (.of_below P) (hI _ P _) ⟨B,J,C,H,rfl,hv⟩
  refine Zw.con (λQ g b u X E Z d o K L=>?_) ?_
  ·have b5:b 16=false:=E.no Z AB;have hI:=d.made (p:=(⟨15,16,14,110,#[.slice none 0 0,.bool false]⟩:Qr)) AE b5 (λp o=>by simp only[BY,DZ,or_false] at o;rcases o with rfl <;> exact⟨AE,AC,AC⟩);clear o d E;go_simp;exact L _ () _ (.of_below (Zy _ _)) hI trivial
  refine Zw.con (λQ g b u X E Z d o K L=>?_) ?_
  ·obtain⟨B,J,C,H,a4,hv⟩:=(o 14 rfl).2;obtain⟨gB,fo,ah,hI,fr⟩:=d.put2 (p:=(⟨15,16,14,110,#[.slice none 0 0,.bool false]⟩:Qr)) AE (o 15 rfl).1 Z (λp o=>by simp only[BY,DZ,or_false] at o;rcases o with rfl <;> exact⟨AE,AC,AC,AE⟩) rfl nofun nofun a4
   clear o d E;generalize u 15=h8 at *;subst fo;generalize u 14=h7 at *;subst a4;have y0:=ah.cell 0;have jh:=ah.frozen 0;have y1:=ah.cell 1;have ji:=ah.frozen 1;have yl:=ah.lt;clear ah;go_simp;exact L undef () _ fr (hI undef) trivial
  exact Zw.nil
 intro _ b9 u X9 b0 bz o;obtain⟨g1,vs,dv,gu,c4,a4⟩:=bz.fin (p:=⟨15,16,14,110,#[.slice none 0 0,.bool false]⟩) AE (b0 15 AC) (b0 16 AC);obtain⟨B,J,C,H,cb,hv⟩:=o 14 AC;obtain rfl:vs=#[.slice B J C,.bool H]:=by
  rw[a4] at cb;injection cb
 have dw:u 15=_:=dv;have bb:=bz.below;have cf:=LH (Zz bm.out bb);have d9:=LH (bj.out.below bb);have bl:=LH c4;have HV:=LH hv;have bk:=LH (HN.out.below bb);clear o b0 bz a4 cb bb c4 hv b9;rw[dw];clear dv dw g0 g2 g4 g5 g6 R e0 N au CF;generalize u 0=w0 at *;generalize u 1=w1 at *;generalize u 2=w2 at *;generalize u 3=w3 at *;generalize u 4=w4 at *;generalize u 5=w5 at *;generalize u 6=w6 at *;generalize u 7=w7 at *;generalize u 8=w8 at *;generalize u 9=w9 at *;generalize u 10=hc at *;generalize u 11=hd at *;generalize u 12=he at *;generalize u 13=hf at *;generalize u 14=hg at *;clear u;have z0:X9.cell? ⟨g1,0,none⟩=some (.slice B J C):=bl.out.cell 0;have z1:X9.cell? ⟨g1,1,none⟩=some (.bool H):=bl.out.cell 1;have zl:=bl.out.lt;have CH:=LH (rf_here W Y k B J C H y X9 bk.out br.out HV.out);have dr:Z0 (Zv G) G.U (Zp s) (j+1) n=Z0 (Zv G) G.U (Zp s) j n+y:=by
  rw[cp.out j x Hx.out,if_pos (by have:=fk.out;omega),Hy.out]
 have di:j=I->k<y:=by
  intro e;subst e;have N:=Hx.out.symm.trans bs.out;injection N with N;subst N;have h1:=ag.out;have S:=ba.out;have h3:=Hq.out;have h4:=Hy.out;omega
 have dd:j<I->y<=k:=by
  intro ax;have h1:=cn.out (j+1) AA;have S:=ag.out;have h3:=ba.out;omega
 have fi:=LH dr;have fg:=LH di;have ff:=LH dd;clear dr di dd dg;by_cases ax:k<y
 case neg =>
  rw[BV ax] at CH;have fv:j<I:=by
   rcases BD j I with h | h
   ·exact h
   have:=fg.out AA;omega
  have bp:Hid (r=Z0 (Zv G) G.U (Zp s) (j+1) n+(k-y)):=LH (by
   have h1:=fi.out;have S:=ag.out;omega)
  have dt:y<big:=by have:=br.out;omega
  obtain⟨b2,a0⟩:=HV.out;rw[Z7 dt] at b2 a0;have dh:=a0.len;simp only[] at b2 a0 dh;subst dh;have CL:Hid (∀X,Below X9 X9 X->Calls prog 79 #[.slice W (Zq3 k).length Y,.slice B (Zq3 y).length C] X λe w'=>∃A c,e = .returned (.slice A (Zq3 (k-y)).length c)/\Zq .u32 w' A (Zq3 (k-y)).length c (Zq3 (k-y))/\Below X X w'):=LH λX P=>rf_less W Y k B C y X (bk.out.below P) (a0.below P) br.out AA;clear ax a0 dt b2;go_wp2_with (first
   | (go_at_call 77
      (with_reducible refine CH.out.mono ?_);rintro e v1⟨rfl,V⟩;have jj:=(V.cell (p:=⟨g1,0,none⟩) zl).trans z0;have jk:=AK zl V.size;have d4:=LH (CL.out v1 V);have bh:=LH (Zz cf.out V);clear V)
   | (go_at_call 79
      (with_reducible refine d4.out.mono ?_);rintro e v2⟨A5,c5,rfl,df,c8⟩;have fb:=LH df;have d5:=LH (Zz bh.out c8);clear df c8))
  go_roundw
  case rel=>exact⟨j+1,k-y,A5,c5,AF,AA,rfl,bp,fb,d5⟩
  simp[intOf] <;> omega
 rw[DV ax] at CH;obtain rfl:j=I:=by
  rcases BD j I with h | h
  ·have:=ff.out h;omega
  omega
 obtain rfl:x=x0:=by
  have N:=Hx.out.symm.trans bs.out;injection N
 obtain rfl:k=q:=by
  have h1:=ag.out;have S:=ba.out;omega
 have fd:Hid ((prog.info? 3).map (λi=>(i.zero,i.size,i.bytes))=some (some (.int .i64 0),1,8)):=LH AB;have fx:z.length+1<=maxLen:=by unfold maxLen;omega
 clear ax;go_upto_region 8 with (first
  | (go_at_call 77
     (with_reducible refine CH.out.mono ?_);rintro e v1⟨rfl,V⟩;have af:=LH (d9.out.below V);have fa:=LH (bk.out.below V);have bh:=LH (Zz cf.out V);clear V))
 have g5:v1.cell? ⟨a,5,none⟩=some (.slice A z.length c):=af.out.box.cell 5;have g0:v1.cell? ⟨a,0,none⟩=some (.slice a1 n1 c1):=af.out.box.cell 0;have R:=af.out.box.lt;have au:W0.heap.size<=v1.heap.size:=af.out.base.size;clear z0 z1 zl CH;go_upto_region 9 with (first
  | (at_builtin;refine Nk rfl _ _ 30 rfl W0 8 underlying30 fd.out A z.length c (z.map λi:Nat=>(i:Int)) rfl af.out.row (j:Int) rfl fx AA au ?_;intro A5 c5 w5 dn db fs
     have ay:=af.out.push (i:=j) (Zy _ _) dn db bn.out;have p5:w5.cell? ⟨a,5,none⟩=some (.slice A z.length c):=ay.1.cell 5;have p2:=ay.1.frozen 5;have p3:=ay.1.lt;have HP:=LH ay.2;clear ay dn db fs))
 generalize w5.setCell ⟨a,5,none⟩ (.slice A5 (z.length+1) c5)=W6 at *;clear p5 p2 p3 g5 g0 R;obtain⟨A6,c6,M6⟩:=HP.out.1;have g2:W6.cell? ⟨a,2,none⟩=some (.slice (some ⟨D,F,none⟩) n3 c3):=M6.box.cell 2;have R:=M6.box.lt;obtain⟨cw,du,x',d0,fm,eA,da,fj,ga,dy,gc,_⟩:=HB.out.at_.U.get (j:=j) (by show j<n3;omega);have eA:(some ⟨D,F,none⟩:Option Addr)=some ⟨cw,du,none⟩:=eA;obtain⟨rfl,rfl⟩:D=cw/\F=du:=by
  injection eA with eA;injection eA with N e2 _;exact⟨N,e2⟩
 obtain rfl:x=x':=by
  have N:=Hx.out.symm.trans fj.out;injection N
 have q1:=(M6.base.cell (p:=⟨D,F+j*3+1,none⟩) da).trans dy;have gq:=AK da M6.base.size;have CF:=LH (d6.out a (z++[j]) x.rt n k t1 d0 fm W Y W6 (by rw[AY] at f0;omega) HU.out d7.out (by have h1:=cq.out;have S:=cm.out;omega) ci.out.len hn bo.out AH (fa.out.nkept HP.out.2) HP.out.1);clear M6 ga dy gc;go_wp2_with (first
  | (go_at_call 78
     (with_reducible refine CF.out.mono ?_);rintro e W7⟨rfl,fw,dj⟩;have fh:=LH dj;clear dj))
 refine AW (results_none rfl _ _ _) rfl ?_;refine⟨rfl,(Zu.of_below bh.out).trans (HP.out.2.trans fw),?_⟩;have dk:=fh.out;rw[AU,CW] at dk;rw[AY];rcases dk with ⟨h1,S⟩ | ⟨h1,S⟩
 ·rw[DW] at S;exact .inl ⟨AA,S⟩
 exact .inr ⟨AA,S⟩
end
def Zvi{b:World}{k:BkH}{h:GH}{G:Gr}(c:BkG b h G)(d:Xq G):∀m,TC b k h G m/\FC b k h G m
 | 0=>by
   have a:TC b k h G 0:=by
    intro mk j s n r t Ar cr w f h0 l a;obtain⟨i,x,q,o,_,_,_,_,rfl⟩:=a;rw[AY] at f;omega
   exact⟨a,Zw0 c d 0 a⟩
 | m+1=>by
   have g:=Zvi (k:=k) c d m;have a:=tr_mtree c d m g.2;exact⟨a,Zw0 c d (m+1) a⟩
def Ki(h:GH)(G:Gr)(n:Int)(A:Option Addr)(c:Nat)(d:List Nat)(w:World)(hg:Yf w h G)(hs:∀t∈G.T,t.name.size<=maxLen)(c8:Q2 w)(h1:h.n1<=100)(B:h.n2<=100)(U:h.n3<=100)(r:Zq .u32 w A (Q d) c d)(lr:Lim d):
 Calls prog 24 #[GV h G.zt,aI aJ n,K A (Q d) c] w (Qp G n d w):=by
 obtain⟨a1,n1,c1,a2,n2,c2,a3,n3,c3⟩:=h;simp only[] at h1 B U;have Hg:=LH hg;have Hs:=LH hs;have ci:=LH c8;have bp:=Zy w (aC #[K a1 n1 c1,K a2 n2 c2,K a3 n3 c3,aI aJ G.zt] 26);have bs:=Y1.new w 26 ⟨a1,n1,c1,a2,n2,c2,a3,n3,c3⟩ G.zt;have HR:=LH r;clear hg hs c8 r;go_enter func24,ntmps24;have⟨z5,z0,z1,z2,z3⟩:=bs;simp only[] at z0 z1 z2 z3;go_upto_region 1 with fail;generalize w.alloc (aC #[K a1 n1 c1,K a2 n2 c2,K a3 n3 c3,aI aJ G.zt] 26)=W0 at *;have N:=LH (J4 ⟨a1,n1,c1,a2,n2,c2,a3,n3,c3⟩ G W0 (Hg.below bp) Hs (by simp only[];omega) (by simp only[];omega));have Y:=LH bp;have cl:=LH bs;have cg:=LH lr;clear bp bs lr;cases r:G.rt
 case false =>
  have o:Hid (V9 G n d [] 1):=LH (.inl ⟨.inl r,rfl,rfl⟩);rw[r] at N;go_wp2_with (go_at_call 38;refine N.out.mono ?_;rintro e w6⟨rfl,m⟩);go_ret2;exact Qp.no (Zz Y m) o
 rw[r] at N;by_cases dg:n<0
 case pos =>
  have o:Hid (V9 G n d [] 1):=LH (.inl ⟨.inr (.inl dg),rfl,rfl⟩);go_wp2_with (go_at_call 38;refine N.out.mono ?_;rintro e w6⟨rfl,m⟩);go_ret2;exact Qp.no (Zz Y m) o
 by_cases dh:10<n
 case pos =>
  have o:Hid (V9 G n d [] 1):=LH (.inl ⟨.inr (.inr (.inl dh)),rfl,rfl⟩);go_wp2_with (go_at_call 38;refine N.out.mono ?_;rintro e w6⟨rfl,m⟩);go_ret2;exact Qp.no (Zz Y m) o
 have CR:Hid (∀X,Below W0 W0 X->Calls prog 42 #[K A (Q d) c] X λe w'=>e = aR (aB (Zm d))/\X=w'):=LH λX hX=>Zb _ _ _ _ _ ((HR.below Y).below hX);cases ag:Zm d
 case false =>
  have o:Hid (V9 G n d [] 1):=LH (.inl ⟨.inr (.inr (.inr ag)),rfl,rfl⟩);rw[ag] at CR;go_wp2_with (first
   | (go_at_call 38;refine N.out.mono ?_;rintro e w6⟨rfl,m⟩)
   | (go_at_call 42;refine (CR.out _ m).mono ?_;rintro e w7⟨rfl,rfl⟩))
  go_ret2;exact Qp.no (Zz Y m) o
 rw[ag] at CR;have aw:Hid (¬badU G n d):=LH (by
  rintro (h | h | h | h)
  ·rw[r] at h;cases h
  ·exact dg h
  ·exact dh h
  rw[ag] at h;cases h)
 have Hr:=LH r;have ct:=LH ag;clear r ag;go_upto_region 3 with (first
  | (go_at_call 38;refine N.out.mono ?_;rintro e w6⟨rfl,m⟩)
  | (go_at_call 42;refine (CR.out _ m).mono ?_;rintro e w7⟨rfl,rfl⟩))
 have a4:=Zz Y m;have CC:=Zus ⟨a1,n1,c1,a2,n2,c2,a3,n3,c3⟩ G n w6 (Hg.below a4) Hs (ci.below a4) h1 B U;obtain⟨y5,y0,y1,y2,P⟩:=cl.below m;simp only[] at y0 y1 y2 P;clear z0 z1 z2 z3 z5;have bu:=Kg G n;obtain⟨cn,bv⟩:∃cn,Z2 G n=cn:=⟨_,rfl⟩;obtain⟨s,er⟩:=cn;rw[bv] at CC bu;have CC:=LH CC;have z:=LH bv;have cm:=LH bu;have dy:=LH a4;clear bv bu N CR a4;go_upto_region 4 with (first
  | (go_at_call 22
     refine CC.out.mono ?_;rintro e W3⟨A3,fh,rfl,di,br⟩))
 have au:=LH (Zz dy br);have d4:=LH di;have d7:=LH ((cl.below m).below br);clear di br CC y0 y1 y2 P y5 m;by_cases a6:er=0
 case neg =>
  have gl:((er:Int) != 0)=true:=by rw[BK];omega
  have o:Hid (V9 G n d [] er):=LH (.inr (.inl ⟨aw,by rw[z];exact a6,rfl,by rw[z]⟩));clear a6;go_wp2_with fail;go_ret2;exact Qp.no au o
 subst a6;have dq:Zm s=true:=cm.2 rfl;have R:=Zym A (Q d) c d A3 (Q s) fh s W3 (HR.below au) d4 cg cm.1;have db:Vq d s=Vm (val d) (val s):=by
  unfold Vq;rw[ct,dq];rfl
 rw[db] at R;unfold Quiet at R;have R:=LH R;clear dq db;by_cases bx:val s<=val d
 case pos =>
  have hc:(0:Int)<=Vm (val d) (val s):=by
   have:=mt (Q5 (a:=val d) (b:=val s)).1 AA;omega
  have o:Hid (V9 G n d [] 11):=LH (.inr (.inr (.inl ⟨aw,by rw[z],by rw[z];exact bx,rfl,rfl⟩)));clear bx;go_wp2_with (first
   | (go_at_call 47
      refine R.out.mono ?_;rintro e W4⟨rfl,al⟩;have av:=LH (Zz au (al.below _))))
  go_ret2;exact Qp.no av o
 have hc:¬(0:Int)<=Vm (val d) (val s):=by
  have:=(Q5 (a:=val d) (b:=val s)).2 AA;omega
 have fq:=Bb Hr ⟨AA,AA⟩ (by rw[z]) (by rw[z];show 0<val s;omega);obtain⟨dl,c7,hP,dn,b7,_⟩:=fq;rw[z] at b7;have df:val d<Zv (Zi G) (-1-(Zi G).zt) n.toNat:=by
  have h9:val s=_:=b7;omega
 have fa:=LH df;have cs:Hid (val d<val s):=LH AA;have d6:=LH c7;have HP:=LH hP;have fe:=LH dn;have fb:=LH dl;clear df c7 hP dn b7 dl bx;go_upto_region 8 with (first
  | (go_at_call 47
     refine R.out.mono ?_;rintro e W4⟨rfl,al⟩;have av:=LH (Zz au (al.below _));obtain⟨y5,y0,y1,y2,P⟩:=d7.below (al.below _);simp only[] at y0 y1 y2 P))
 have cR:=Cz ⟨a1,n1,c1,a2,n2,c2,a3,n3,c3⟩ G W4 (Hg.below av) Hs h1 B U;have ce:=LH cR;clear cR R al;go_upto_region 9 with (first
  | (go_at_call 40
     refine ce.out.mono ?_;rintro e W5⟨da,⟨dj,er,a6,rfl⟩ | ⟨_,⟨F,C,J,H,D,L,I,E,M⟩,Ak,nk,ck,rfl,dc,m1,m2,m3,dd⟩⟩
     ·rw[fb] at dj;cases dj
     have cf:=LH (Zz av da);have cp:=LH dc;have cq:=LH dd;clear da dc dd))
 have m1:C<=24:=m1;have m2:D<=16:=m2;have m3:E<=40:=m3;have a5:=Zy W5 (aC #[K F C J,K H D L,K I E M,aI aJ (Zi G).zt] 26);have W:=Blk.new W5 26 #[K F C J,K H D L,K I E M,aI aJ (Zi G).zt];have T:=LH (Zz cf a5);have d8:=LH (cp.below a5);have bg:=LH (cq.below a5);clear cf cp cq a5 y0 y1 y2 P y5 ce;generalize W5.alloc (aC #[K F C J,K H D L,K I E M,aI aJ (Zi G).zt] 26)=l at *;generalize W5.heap.size=gH at *;have x0:=W.cell 0;have x1:=W.cell 1;have x2:=W.cell 2;have x3:=W.cell 3;have xl:=W.lt;have f9:=LH W;have CO:=LH (tr_open ⟨F,C,J,H,D,L,I,E,M⟩ (Zi G) l);clear W;go_upto_region 10 with (first
  | (go_at_call 48
     refine CO.out.mono ?_;rintro e u⟨gc,gt,rfl,hC,gi,gj⟩;have HC:=LH hC;clear hC))
 have gm:=HP.fits.st;have am:=Zy u (aC #[aP (some ⟨gc,0,aN⟩),K aN 0 0] 99);have bq:=Blk.new u 99 #[aP (some ⟨gc,0,aN⟩),K aN 0 0];have c5:Me l ⟨gc,gt⟩ ⟨F,C,J,H,D,L,I,E,M⟩ (Zi G) u [] (λq=>q=u.heap.size) aN 0 (u.alloc (aC #[aP (some ⟨gc,0,aN⟩),K aN 0 0] 99)) :=
  ⟨(HC.more am (AJ _)).less λb hb => .inr hb,bq,⟨BL _ _ _ _,λg hg=>by cases hg⟩,⟨rfl,λg hg=>by cases hg⟩,λq hq=>by subst hq;exact bq.lt,HC.base.size,AV _⟩
 have cz:BkG l ⟨F,C,J,H,D,L,I,E,M⟩ (Zi G):=⟨d6,d8,by rw[Db];exact Hs,ci.below T,by show C<=100;omega,by show D<=100;omega,by show E<=100;omega⟩;have a7:Zp (-1-(Zi G).zt)=(Zi G).zt.toNat:=by unfold Zp;omega
 obtain⟨t,ht⟩:=UnT.ex HP _ n.toNat (-1-(Zi G).zt) AA (by rw[a7];omega) rfl (val d) fa;have be:Hid (UnT (Zi G) (Zi G).zt.toNat n.toNat (val d) t):=LH (by rw[<-a7];exact ht);obtain⟨bm,ft⟩:=Ul d cg ct;have dz:=LH (Zz (T.trans (HC.base.mono T.size)) am);have CT:Calls prog 49 #[aP (some ⟨u,0,aN⟩),aI aJ (Zi G).zt,aI aJ n,K A (Q d) c] (u.alloc (aC #[aP (some ⟨gc,0,aN⟩),K aN 0 0] 99)) (MkRet l ⟨gc,gt⟩ ⟨F,C,J,H,D,L,I,E,M⟩ (Zi G) u [] t (u.alloc (aC #[aP (some ⟨gc,0,aN⟩),K aN 0 0] 99))):=by
  have h1:=(Zvi cz HP (Q t)).1 u [] (-1-(Zi G).zt) n.toNat (val d) t A c _ (AJ _) AA (by rw[a7];omega) ht fe AA (by rw[<-bm];exact HR.below dz) ⟨_,_,_,c5⟩;rw[<-bm,show ((Zp (-1-(Zi G).zt):Nat):Int)=(Zi G).zt by rw[a7];omega,show ((n.toNat:Nat):Int)=n by omega] at h1;exact h1
 have CT:=LH CT;have P:=(HC.base.cell (p:=⟨gH,3,aN⟩) xl).trans x3;have yl:=AK xl HC.base.size;have z3:=(am.cell (p:=⟨gH,3,aN⟩) yl).trans P;have zl:=AK yl am.size;clear x0 x1 x2 x3 xl P yl bq c5 cz ht am bm ft CO;generalize u.alloc (aC #[aP (some ⟨gc,0,aN⟩),K aN 0 0] 99)=W8 at *;generalize u.heap.size=mk at *;by_cases bw:(Q t)<=300
 case neg =>
  have a9:Hid (Calls prog 49 #[aP (some ⟨mk,0,aN⟩),aI aJ (Zi G).zt,aI aJ n,K A (Q d) c] W8 λe w'=>e = aR (aB false)/\Below l l w'):=LH (CT.mono λe w' r=>by
   obtain⟨h1,⟨B,_,_⟩ | ⟨_,B,U⟩⟩:=r
   ·rw[DE] at B;omega
   exact⟨B,U⟩)
  have o:Hid (V9 G n d [] 13):=LH (.inr (.inr (.inr ⟨aw,by rw[z],by rw[z];exact cs,t,be,.inl ⟨AA,rfl,rfl⟩⟩)));clear CT bw;go_wp2_with (first
   | (go_at_call 49
      refine a9.out.mono ?_;rintro e W9⟨rfl,V⟩))
  go_ret2;exact Qp.no (T.trans (V.mono T.size)) o
 have a9:Hid (Calls prog 49 #[aP (some ⟨mk,0,aN⟩),aI aJ (Zi G).zt,aI aJ n,K A (Q d) c] W8 λe w'=>e = aR (aB true)/\MkAt l ⟨gc,gt⟩ ⟨F,C,J,H,D,L,I,E,M⟩ (Zi G) mk t w'):=LH (CT.mono λe w' r=>by
  obtain⟨h1,⟨_,B,U⟩ | ⟨B,_,_⟩⟩:=r
  ·exact⟨B,U⟩
  rw[DE] at B;omega)
 have co:=LH bw;clear CT bw;go_upto_region 12 with (first
  | (go_at_call 49
     refine a9.out.mono ?_;rintro e W9⟨rfl,c4⟩;have ch:=LH c4;clear c4))
 obtain⟨S9,A9,c9,O⟩:=ch.out;have bz:=be.inside;have d9:=LH bz.2;have fr:0<(Q t):=List.length_pos_iff.2 bz.1;obtain⟨f,u9,rfl,fo,_,_,_,_⟩:=Gh O.row.1 fr;have ba:=LH O;have fp:mk≠f:=λe=>by
  obtain⟨_,_,v,hv⟩:=O.row.blk (g:=f) rfl;rw[<-e] at hv;exact absurd (hv.same_ty O.box) AC
 have Z:Hid (W9.ownsRow l 3 1 (K (some ⟨f,0,aN⟩) (Q t) c9) (Q t) (ints .i64 (Bc G t 0))):=O.row.1;have p1:=O.box.cell 1;have pl:=O.box.lt;clear O bz ch;go_upto_region 13 with fail;go_loopw [69] (λi wr=>∃j:Nat,i = aI aJ (j:Int)/\j<=(Q t)/\Hid (wr.ownsRow l 3 1 (K (some ⟨f,0,aN⟩) (Q t) c9) (Q t) (ints .i64 (Bc G t j)))/\Hid (Off (λq=>q=f) W9 wr)) (λi _=>(Q t)-(intOf i).toNat)
 case atStart=>exact⟨0,rfl,AV _,Z,LH (Off.refl _ _)⟩
 clear Z p1 pl;obtain⟨j,rfl,hj,Z,bh⟩:=hrel;have bt:=bh.blk ba.box fp;have p1:=bt.cell 1;have pl:=bt.lt;have V:Below l l wr:=ba.bk.base.trans (bh.is_below ba.bk.base.size λq hq=>by subst hq;exact fo);have cj:=LH V;clear bt;by_cases b0:j<(Q t)
 case neg =>
  obtain rfl:j=(Q t):=AA
  clear V;go_wp2_with fail;go_ret2;refine⟨T.trans (cj.mono T.size),t.map (Yr G),0,some ⟨f,0,aN⟩,c9,by rw[BI];rfl,?_,.inr (.inr (.inr ⟨aw,by rw[z],by rw[z];exact cs,t,be,.inr ⟨co,rfl,rfl⟩⟩))⟩;have h1:=Yl Z;have e:Bc G t (Q t)=(t.map (Yr G)).map λi:Nat=>(i:Int):=by unfold Bc;simp
  rw[BI];rw[e] at h1;exact h1
 obtain⟨x,hx⟩:∃x,t[j]? = some x:=⟨_,AL b0⟩;have fu:x<nk:=by
  have k:=d9 x (AM hx);rw[Fu] at k;have h5:=bg.len;unfold Z6 at h5;rw[BI] at h5;omega
 obtain⟨kb,ko,kv,rfl,de,cr,cy⟩:=bg.get fu;obtain rfl:((Yr G x:Nat):Int)=kv:=by
  have k:=cr.out;unfold Z6 at k;rw[BB] at k;unfold Yr;cases h5:(ksN G (Q G.U))[x]? with
  | none=>rw[h5] at k;cases k
  | some y =>
    rw[h5] at k;injection k with k;rw[<-k,AO,h5];rfl
 have k0:=(V.cell (p:=⟨kb,ko+x,aN⟩) de).trans cy;have kl:=AK de V.size;obtain⟨fj,v9,eg,_,bn,cu,r0,r1⟩:=Gh Z b0;obtain rfl:f=fj:=by
  injection eg with eg;injection eg
 have fs:v9 = aI aJ (x:Int):=by
  have k:=cu.out;simp only[ints] at k;rw[BB,rowU_at hx] at k;injection k with k;exact k.symm
 subst fs;have fd:Hid ((Bc G t j).set j ((Yr G x:Nat):Int)=Bc G t (j+1)):=rowU_set hx;have gg:=bg.cap;have gh:=co.out;clear hx cr cy cu eg;go_upto_region 15 with fail;have bc:=Yt wr;refine Yx 10 AB AB ?_;simp only[List.take_succ_cons,List.take_zero,List.drop_succ_cons,Ed];repeat (go_big_quiet_step (fail))
 refine BJ ?_;rintro _⟨y,rfl⟩;have an:=Zr wr y;have b5:=B7 Z an;have dk:Off (λq=>q=f) W9 (bl wr y):=bh.trans (Off.of_below (S:=λq=>q=f) an) λ_ _ h=>h;have s0:(bl wr y).cell? ⟨f,j,aN⟩=some (aI aJ (x:Int)):=(an.cell (p:=⟨f,j,aN⟩) bn).trans r0;have s1:(bl wr y).frozen? ⟨f,j,aN⟩=false:=by
  obtain⟨g8,v8,e8,_,_,_,_,h8⟩:=Gh b5 b0;injection e8 with e8;injection e8 with e8;subst e8;exact h8
 have sl:=AK bn an.size;have HF:Hid (((bl wr y).setCell ⟨f,j,aN⟩ (aI aJ ((Yr G x:Nat):Int))).ownsRow l 3 1 (K (some ⟨f,0,aN⟩) (Q t) c9) (Q t) (ints .i64 (Bc G t (j+1)))):=LH (by
  have k:=Lt b5 j (aI aJ ((Yr G x:Nat):Int));rw[<-fd];have e4:ints .i64 ((Bc G t j).set j ((Yr G x:Nat):Int))=(ints .i64 (Bc G t j)).set j (aI aJ ((Yr G x:Nat):Int)):=by simp[ints,List.map_set]
  rw[e4];exact k)
 have HO:Hid (Off (λq=>q=f) W9 ((bl wr y).setCell ⟨f,j,aN⟩ (aI aJ ((Yr G x:Nat):Int)))):=dk.trans (Off.of_set _ f j _) λ_ _ h=>h;clear b5 dk an bc r0 r1 bn k0 kl p1 pl V cj;generalize bl wr y=WZ at *;go_wp2_with fail;go_roundw
 case rel=>exact⟨j+1,AF,AA,HF,HO⟩
 simp[intOf] <;> omega
def Zri(h:GH)(G:Gr)(n:Int)(A:Option Addr)(m c:Nat)(b:List Nat)(w:World)(hg:Yf w h G)(hs:∀t∈G.T,t.name.size<=maxLen)(Z:Q2 w)(h1:h.n1<=100)(h2:h.n2<=100)(h3:h.n3<=100)(hw:Zq .u32 w A m c b)(lw:Lim b):
 Calls prog 9 #[GV h G.zt,aI aJ n,K A m c] w (Zrm G n b w):=by
 obtain⟨a1,n1,c1,a2,n2,c2,a3,n3,c3⟩:=h;simp only[] at h1 h2 h3;have T:=LH hg;have U:=LH hs;have R:=LH Z;have HW:=LH hw;have HL:=LH lw;have X:=Zy w (aC #[K a1 n1 c1,K a2 n2 c2,K a3 n3 c3,aI aJ G.zt] 26);have L:=Y1.new w 26 ⟨a1,n1,c1,a2,n2,c2,a3,n3,c3⟩ G.zt;go_enter func9,ntmps9;have⟨z5,z0,z1,z2,z3⟩:=L;simp only[] at z0 z1 z2 z3;go_upto_region 1 with fail;generalize w.alloc (aC #[K a1 n1 c1,K a2 n2 c2,K a3 n3 c3,aI aJ G.zt] 26)=W0 at *;have C:=LH X;have au:=LH L;have q:=Zus ⟨a1,n1,c1,a2,n2,c2,a3,n3,c3⟩ G n W0 (T.below C) U (R.below C) (by simp only[];omega) (by simp only[];omega) (by simp only[];omega);have M:=Kg G n;obtain⟨E,N⟩:∃E,Z2 G n=E:=⟨_,rfl⟩;obtain⟨j,g⟩:=E;rw[N] at q M;have q:=LH q;have a:=LH N;have S:=LH M;go_upto_region 2 with (go_at_call 22;refine q.out.mono ?_;rintro e W3⟨A3,az,rfl,ae,H⟩);have s:=LH (Zz C H);have ap:=LH ae;have x:=au.below H;by_cases d:g=0
 case neg =>
  have ag:((g:Int) != 0)=true:=by rw[BK];omega
  have f:Hid (L3 G n b [] 0 g):=LH (.inl ⟨by rw[a];exact d,rfl,rfl,by rw[a]⟩);go_wp2_with fail;go_ret3
  exact Zrm.no s f
 subst d;by_cases z:j=[]
 case pos =>
  subst z;have f:Hid (L3 G n b [] 0 9):=LH (.inr (.inl ⟨by rw[a],by rw[a],rfl,rfl,rfl⟩));go_wp2_with fail;go_ret3
  exact Zrm.no s f
 have a9:(((Q j):Int)==0)=false:=by
  rw[AR];have:(Q j)≠0:=λh=>z (List.length_eq_zero_iff.1 h);omega
 have W:=LH z;have l:=draw_below A3 (Q j) az j A m c b W3 ap (HW.below s) S.1 HL;unfold RetDraw at l;have y:Lim (X5 j b).1:=by
  rcases Zr0 j b S.1 with ⟨e,_,h⟩ | ⟨t,k,h,_⟩
  ·rw[h];exact Lim.nil
  rw[h];exact Z9 t
 obtain⟨D,J⟩:∃D,X5 j b=D:=⟨_,rfl⟩;obtain⟨xs,u,F⟩:=D;rw[J] at l y;simp only[] at l y;have l:=LH l;have r:=LH J;have av:=LH y;go_upto_region 7 with (go_at_call 23;refine l.out.mono ?_;rintro e W4⟨A4,c4,rfl,af,I⟩);have v:=LH (Zz s I);have aq:=LH af;have x:=x.below I;by_cases d:F=0
 case neg =>
  have ag:((F:Int) != 0)=true:=by rw[BK];omega
  have f:Hid (L3 G n b [] 0 F):=LH (.inr (.inr (.inl ⟨by rw[a],by rw[a];exact W,by rw[a];simp only[];rw[r];exact d,rfl,rfl,by rw[a];simp only[];rw[r]⟩)));go_wp2_with fail;go_ret3
  exact Zrm.no v f
 subst d;have⟨z5,z0,z1,z2,z3⟩:=x;simp only[] at z0 z1 z2 z3;have O:=LH (Ki ⟨a1,n1,c1,a2,n2,c2,a3,n3,c3⟩ G n A4 c4 xs W4 (T.below v) U (R.below v) (by simp only[];omega) (by simp only[];omega) (by simp only[];omega) aq av);go_upto_region 10 with (go_at_call 24;refine O.out.mono ?_;rintro e W5⟨ab,B,p,A5,c5,rfl,Y,hU⟩);have P:=LH (Zz v ab);have an:=LH Y;have V:Hid (∀k g o,((p≠0/\o=[]/\k=0/\g=p)\/(p=0/\o=B/\k=u/\g=0))->L3 G n b o k g):=LH λk g o hh =>
  .inr (.inr (.inr ⟨by rw[a],by rw[a];exact W,by rw[a];simp only[];rw[r],B,p,by rw[a];simp only[];rw[r];exact hU,by rw[a];simp only[];rw[r];exact hh⟩))
 by_cases d:p=0
 case neg =>
  have ag:((p:Int) != 0)=true:=by rw[BK];omega
  have f:Hid (L3 G n b [] 0 p):=V _ _ _ (.inl ⟨d,rfl,rfl,rfl⟩);go_wp2_with fail;go_ret3
  exact Zrm.no P f
 subst d;have f:Hid (L3 G n b B u 0):=V _ _ _ (.inr ⟨rfl,rfl,rfl,rfl⟩);go_wp2_with fail;go_ret3
 exact⟨P,B,u,0,A5,c5,rfl,an,f⟩
def Zqn(h:GH)(G:Gr)(n k:Int)(A:Option Addr)(m c:Nat)(b:List Nat)(w:World)(hg:Yf w h G)(hs:∀t∈G.T,t.name.size<=maxLen)(ai:Q2 w)(h1:h.n1<=100)(h2:h.n2<=100)(h3:h.n3<=100)(N:Zq .u32 w A m c b)(lw:Lim b):
 Calls prog 12 #[GV h G.zt,aI aJ n,aI aJ k,aK A m c] w (RetSom G n k b w):=by
 obtain⟨a1,n1,c1,a2,n2,c2,a3,n3,c3⟩:=h;simp only[] at h1 h2 h3;have am:=N.len;have b0:=N.cap;have Hg:=LH hg;have Hs:=LH hs;have a8:=LH ai;have HW:=LH N;have HL:=LH lw;have ae:=Zy w (aC #[aK a1 n1 c1,aK a2 n2 c2,aK a3 n3 c3,aI aJ G.zt] 26);have ak:=Y1.new w 26 ⟨a1,n1,c1,a2,n2,c2,a3,n3,c3⟩ G.zt;have bf:=LH am;go_enter func12,ntmps12;go_upto_region 1 with fail;generalize w.alloc (aC #[aK a1 n1 c1,aK a2 n2 c2,aK a3 n3 c3,aI aJ G.zt] 26)=y at *;have f:=LH ae;have ba:=LH ak;by_cases bp:k<0
 case pos =>
  have o:Hid (Zro G n k b [] 0 1):=LH (.inl ⟨.inl bp,rfl,rfl,rfl⟩);go_wp2_with fail;go_ret3
  exact⟨f,[],0,1,aN,0,rfl,Zrn.nil _,o⟩
 by_cases bq:500<k
 case pos =>
  have o:Hid (Zro G n k b [] 0 1):=LH (.inl ⟨.inr bq,rfl,rfl,rfl⟩);go_wp2_with fail;go_ret3
  exact⟨f,[],0,1,aN,0,rfl,Zrn.nil _,o⟩
 obtain⟨K,rfl⟩:∃K:Nat,k=(K:Int):=⟨k.toNat,AA⟩;have Hk:Hid (¬((K:Int)<0\/500<(K:Int))):=LH AA;have ad:=DH K;have bc:=LH Tryz.infoIntS;have bw:Hid (∃At q p,Zq .u32 y At q p b/\(aK A m c:Value) = aK At q p/\q=m-0):=LH ⟨A,m,c,HW.below f,rfl,rfl⟩;go_wp2_with fail;go_loopw [11,12,24] (λlv tv i wr=>∃(j:Nat) (l:List (List Nat)) (a q:Nat) (B:Option Addr) (D:Nat) (V:List Value) (At:Option Addr) (p:Nat),j<=K/\i = aI aJ (j:Int)/\lv = aK B j D/\tv = aK At q p/\Hid (Zrk wr y B j D V l)/\Hid (SomGo G n b j l a)/\Hid (a+q=m)/\Hid (Zq .u32 wr At q p (b.drop a))/\Hid (Below y y wr)) (λ_ _ i _=>K+1-(intOf i).toNat)
 case atStart=>exact⟨0,[],0,m,aN,0,[],A,c,AV _,rfl,rfl,rfl,LH (Zrk.zt _ _),LH .nil,LH (BF _),LH (HW.below f),LH (AP _ _)⟩
 obtain⟨j,l,a,q,B,D,V,At,p,hj,rfl,rfl,rfl,Y,H,I,Z,C⟩:=hrel;by_cases bn:j<K
 case neg =>
  obtain rfl:K=j:=AA
  have T:¬((K:Int)<(K:Int)):=AA
  have b3:wrap64 ((m:Int)-(q:Int))=(a:Int):=by have:=I.out;unfold wrap64;omega
  have o:Hid (Zro G n (K:Int) b l a 0):=LH (.inr (.inl ⟨Hk,by rw[ad];exact H,rfl⟩));have bg:=LH Y.read;have be:=LH H.len;have F:=LH (Zz f C);go_wp2_with fail;go_ret3
  have br:=be.out;subst br;exact⟨F,l,a,0,B,D,by first | rfl | (rw[show ((m:Int)-(q:Int))=(a:Int) by have:=I.out;omega];rfl),bg,o⟩
 have bz:((j:Nat):Int)<(K:Int):=AA
 have F:=LH (Zz f C);have⟨y5,y0,y1,y2,y3⟩:=ba.below C;simp only[] at y0 y1 y2 y3;have CD:=LH (Zri ⟨a1,n1,c1,a2,n2,c2,a3,n3,c3⟩ G n At q p (b.drop a) wr (Hg.below F) Hs (a8.below F) (by simp only[];omega) (by simp only[];omega) (by simp only[];omega) Z (λx hx=>HL x (List.mem_of_mem_drop hx)));go_upto_region 8 with (go_at_call 9;refine CD.out.mono ?_;rintro e r⟨L,d,u,J,s,z,rfl,af,ag⟩);have O:=LH (C.trans (L.mono C.size));have az:=LH (Y.below L);have a4:=LH (Z.below L);have aw:=LH af;have P:=LH ag;by_cases S:J=0
 case neg =>
  have b1:((J:Int) != 0)=true:=by rw[BK];omega
  have o:Hid (Zro G n (K:Int) b [] 0 J):=LH (.inr (.inr ⟨Hk,rfl,rfl,j,l,a,d,u,by rw[ad];exact bn,H,P,S⟩));go_wp2_with fail;go_ret3
  exact⟨Zz f O,[],0,J,aN,0,rfl,Zrn.nil _,o⟩
 subst S;have U:u<=q:=by have h1:=P.used;rw[CJ] at h1;have:=I.out;have:=bf.out;omega
 obtain⟨ar,b2,ah⟩:=Zqz a4 U;have a5:=LH ah;have a9:Hid ((a+u)+(q-u)=m):=LH (by have:=I.out;omega);have av:=LH (H.step P);go_upto_region 10 with fail;have E:=(AP r r).drew.alloc (AJ _) (aC #[aK s (Q d) z] 30);have bd:Hid ((r.drew.alloc (aC #[aK s (Q d) z] 30)).cell? ⟨r,0,aN⟩=some (aK s (Q d) z)):=LH ((Blk.new r.drew 30 #[aK s (Q d) z]).cell 0);have v:=LH (az.below E);have a7:=LH (a5.below E);have ax:=LH (aw.below E);have W:=LH (O.trans (E.mono O.size));have aj:y.heap.size<=(r.drew.alloc (aC #[aK s (Q d) z] 30)).heap.size:=W.size;have bi:=LH v.vals;go_region_law (first
  | (refine step_appendV rfl _ _ 38 rfl y 30 _ 24 underlying38 bc AC (by intro u U k x R;subst R;simp[Value.cells] at U) B j D V (by simp[Act.eval,Act.put]) (by exact v.own) (by exact v.noInt) bi ⟨r,0,aN⟩ 1 (aK s (Q d) z) (by simp[Act.eval,Act.put]) (by exact bd) rfl (by intro k x R;cases R) AA AA (by exact aj) ?_;intro A6 c6 w6 ho M ha T
     have a0:=LH (v.snoc ax ho M T);have X:=Zf.of_off (Off.of_grown M) λg hq=>v.noInt g hq;have a6:=LH (a7.kept X);have au:=LH (W.trans ((Off.of_grown M).is_below aj λk hk=>(v.own.lt k hk).1))))
 all_goals
  go_wp2_with fail;go_roundw
  case rel=>exact⟨j+1,l++[d],a+u,q-u,A6,c6,_,ar,_,AA,AF,rfl,rfl,a0,av,a9,by rw[<-List.drop_drop];exact a6,au⟩
  simp[intOf] <;> omega
def B4(h:GH)(G:Gr)(At:Option Addr)(n c:Nat)(t:List Int)(w:World)(v:Yf w h G)(y:Za .i64 w At n c t)(I:n<=400)(h1:h.n1<=100)(F:h.n2<=100)(H:h.n3<=100):
 Calls prog 19 #[GV h G.zt,K At n c] w λe w'=>Below w w w' /\
  ((Xl G t=aN/\e = aR (.tuple #[K aN 0 0,aI aJ 1]))\/(∃wd ps k A s,Xl G t=some (wd,ps,k)/\e = aR (.tuple #[K A (Q wd) s,aI aJ 0])/\Za .i64 w' A (Q wd) s wd)):=by
 have m:=Zy w (aC #[K h.a1 h.n1 h.c1,K h.a2 h.n2 h.c2,K h.a3 h.n3 h.c3,aI aJ G.zt] 26);have B:=LH (rf_Whole h G At n c t _ (v.below m) (y.below m) I h1 F H);have u:=LH m;clear v y;go_enter func19,ntmps19;go_wp2_with fail;generalize w.alloc (aC #[K h.a1 h.n1 h.c1,K h.a2 h.n2 h.c2,K h.a3 h.n3 h.c3,aI aJ G.zt] 26)=P at *;(with_reducible refine B.out.mono ?_);rintro e a⟨p,⟨o,rfl⟩ | ⟨wd,ps,k,f,b,d,j,l,o,R,S,rfl,z,x⟩⟩
 ·have r:=LH o;have g:=Blk.new a 74 #[aI aJ 0,K aN 0 0,aI aJ 0,K aN 0 0];have q:=LH (Zz u.out (Zz p (Zy a (aC #[aI aJ 0,K aN 0 0,aI aJ 0,K aN 0 0] 74))));have J:=g.cell 0;have L:=g.cell 1;have M:=g.cell 2;have N:=g.cell 3;clear o g m;go_upto_region 2 with fail;generalize a.alloc (aC #[aI aJ 0,K aN 0 0,aI aJ 0,K aN 0 0] 74)=D at *;clear p;generalize a.heap.size=E at *;go_wp2_with fail;refine AW (results_tmp2 rfl _ _ _) rfl ?_;exact⟨q.out,.inl ⟨r.out,rfl⟩⟩
 have r:=LH o;have T:((f:Int)==0)=false:=by rw[AR];omega
 have g:=Blk.new a 74 #[aI aJ ((f:Nat):Int),K b (Q wd) d,aI aJ ((k:Nat):Int),K j (Q ps) l];have q:=LH (Zz u.out (Zz p (Zy a (aC #[aI aJ ((f:Nat):Int),K b (Q wd) d,aI aJ ((k:Nat):Int),K j (Q ps) l] 74))));have J:=g.cell 0;have L:=g.cell 1;have M:=g.cell 2;have N:=g.cell 3;have C:=LH (z.below (Zy a (aC #[aI aJ ((f:Nat):Int),K b (Q wd) d,aI aJ ((k:Nat):Int),K j (Q ps) l] 74)));have O:=LH (x.below (Zy a (aC #[aI aJ ((f:Nat):Int),K b (Q wd) d,aI aJ ((k:Nat):Int),K j (Q ps) l] 74)));clear o g m z x;go_upto_region 2 with fail;generalize a.alloc (aC #[aI aJ ((f:Nat):Int),K b (Q wd) d,aI aJ ((k:Nat):Int),K j (Q ps) l] 74)=D at *;clear p;generalize a.heap.size=E at *;go_wp2_with fail;refine AW (results_tmp2 rfl _ _ _) rfl ?_;exact⟨q.out,.inr ⟨wd,ps,k,b,d,r.out,rfl,C.out⟩⟩
section
variable{a:World}{At:Option Addr}{tab:Nat->Nat->Nat}
def Zt5{h:GH}{G:Gr}{f b:Nat}(d:TbG a h G At f b tab)(c:Xq G):∀m,WTC a h G At f b m/\WFC a h G At f b m
 | 0=>by
   have h0:WTC a h G At f b 0:=by
    intro u l s n r t Ar cr w j h0 o g;obtain⟨i,x,q,p,_,_,_,_,rfl⟩:=g;rw[AY] at j;omega
   exact⟨h0,Zwp d c 0 h0⟩
 | m+1=>by
   have k:=Zt5 d c m;have h1:=rf_wtree d c m k.2;exact⟨h1,Zwp d c (m+1) h1⟩
theorem Zqi(h:GH)(G:Gr)(n:Int)(A:Option Addr)(c:Nat)(d:List Nat)(w:World)(hg:Yf w h G)(h1:h.n1<=100)(R:h.n2<=100)(V:h.n3<=100)(N:Zq .u32 w A d.length c d)(lr:Lim d):
 Calls prog 21 #[GV h G.zt,.int .i64 n,.slice A d.length c] w (Qp G n d w):=by
 obtain⟨a1,n1,c1,a2,n2,c2,a3,n3,c3⟩:=h;simp only[] at h1 R V;have Hg:=LH hg;have bg:=Zy w (.cells #[.slice a1 n1 c1,.slice a2 n2 c2,.slice a3 n3 c3,.int .i64 G.zt] 26);have bk:=Y1.new w 26 ⟨a1,n1,c1,a2,n2,c2,a3,n3,c3⟩ G.zt;have HR:=LH N;have b5:=LH lr;have CR:=LH (Z4 A d.length c d _ (N.below bg));have a7:=LH bg;have b9:=LH bk;clear hg N lr;go_enter func21,ntmps21;have⟨z5,z0,z1,z2,z3⟩:=bk;simp only[] at z0 z1 z2 z3;clear bg bk;cases aj:Zm d
 case false =>
  have Hb:Hid (V9 G n d [] 1):=LH (.inl ⟨.inr (.inr (.inr aj)),rfl,rfl⟩);rw[aj] at CR;clear aj;go_wp2_with (go_at_call 35;(with_reducible refine CR.out.mono ?_);rintro e D⟨rfl,rfl⟩);go_ret2;exact Qp.no a7.out Hb.out
 rw[aj] at CR;have av:=LH aj;clear aj;go_upto_region 3 with (go_at_call 35;(with_reducible refine CR.out.mono ?_);rintro e D⟨rfl,rfl⟩);generalize w.alloc (.cells #[.slice a1 n1 c1,.slice a2 n2 c2,.slice a3 n3 c3,.int .i64 G.zt] 26)=W0 at *;have CC:=Lj ⟨a1,n1,c1,a2,n2,c2,a3,n3,c3⟩ G n W0 (Hg.out.below a7.out) h1 R V;have bn:=Kg G n;have bj:G.rt=false\/n<0\/10<n->Z2 G n=([],1):=λh=>by unfold Z2;rw[if_pos h]
 obtain⟨cn,bo⟩:∃cn,Z2 G n=cn:=⟨_,rfl⟩;obtain⟨L,er⟩:=cn;rw[bo] at CC bn bj;have CC:=LH CC;have O:=LH bo;have ca:=LH bn;have b8:=LH bj;clear bo bn bj CR;go_upto_region 4 with (first
  | (go_at_call 15
     (with_reducible refine CC.out.mono ?_);rintro e W3⟨A3,fo,rfl,de,bh⟩))
 have ap:=LH (Zz a7.out bh);have d6:=LH de;have fc:=LH (b9.out.below bh);clear de bh CC z0 z1 z2 z3 z5 b9;by_cases ay:er=0
 case neg =>
  have gh:((er:Int) != 0)=true:=by rw[BK];omega
  have Hb:Hid (V9 G n d [] er):=LH (by
   by_cases bl:badU G n d
   ·refine .inl ⟨bl,rfl,?_⟩;have h9:G.rt=false\/n<0\/10<n:=by
     rcases bl with h | h | h | h
     ·exact .inl h
     ·exact .inr (.inl h)
     ·exact .inr (.inr h)
     rw[av.out] at h;cases h
    have:=b8.out h9;injection this
   exact .inr (.inl ⟨bl,by rw[O.out];exact ay,rfl,by rw[O.out]⟩))
  clear ay;go_wp2_with fail;go_ret2;exact Qp.no ap.out Hb.out
 subst ay;have ad:¬(G.rt=false\/n<0\/10<n):=λh=>by
  have:=b8.out h;injection this with _ R;cases R
 have bc:Hid (¬badU G n d):=LH (by
  rintro (h | h | h | h)
  ·exact ad (.inl h)
  ·exact ad (.inr (.inl h))
  ·exact ad (.inr (.inr h))
  rw[av.out] at h;cases h)
 have N:G.rt=true:=by
  cases N:G.rt
  ·exact absurd (.inl N) ad
  rfl
 have ft:0<=n:=Int.not_lt.1 λh=>ad (.inr (.inl h));have fu:n<=10:=Int.not_lt.1 λh=>ad (.inr (.inr h));have Hr:=LH N;clear ad N;have dk:Zm L=true:=ca.out.2 rfl;have S:=Le A d.length c d A3 L.length fo L W3 (HR.out.below ap.out) d6.out b5.out ca.out.1;have c4:Vq d L=Vm (val d) (val L):=by
  unfold Vq;rw[av.out,dk];rfl
 rw[c4] at S;unfold Quiet at S;have S:=LH S;clear dk c4;by_cases bp:val L<=val d
 case pos =>
  have hc:(0:Int)<=Vm (val d) (val L):=by
   have:=mt (Q5 (a:=val d) (b:=val L)).1 AA;omega
  have Hb:Hid (V9 G n d [] 11):=LH (.inr (.inr (.inl ⟨bc.out,by rw[O.out],by rw[O.out];exact bp,rfl,rfl⟩)));clear bp;go_wp2_with (first
   | (go_at_call 36
      (with_reducible refine S.out.mono ?_);rintro e W4⟨rfl,an⟩;have aq:=LH (Zz ap.out (an.below _))))
  go_ret2;exact Qp.no aq.out Hb.out
 have hc:¬(0:Int)<=Vm (val d) (val L):=by
  have:=(Q5 (a:=val d) (b:=val L)).2 AA;omega
 have fw:=Bb Hr.out ⟨ft,fu⟩ (by rw[O.out]) (by rw[O.out];show 0<val L;omega);obtain⟨br,cv,fq,dh,bv,_⟩:=fw;obtain⟨hP,hO⟩:=Dx Hr.out br cv.cyc;rw[O.out] at bv;have dd:val d<Zv (Zi G) (-1-(Zi G).zt) n.toNat:=by
  have h9:val L=_:=bv;omega
 have fi:=LH dd;have cg:Hid (val d<val L):=LH AA;have HP:=LH hP;have HO:=LH hO;have fl:=LH dh;have fk:=LH br;obtain⟨m,rfl⟩:∃m:Nat,n=(m:Int):=⟨n.toNat,AA⟩;have gg:m<=10:=AA
 clear dd cv hP fq hO dh bv br bp;go_upto_region 8 with (first
  | (go_at_call 36
     (with_reducible refine S.out.mono ?_);rintro e W4⟨rfl,an⟩;have aq:=LH (Zz ap.out (an.below _));obtain⟨y5,y0,y1,y2,y3⟩:=fc.out.below (an.below _);simp only[] at y0 y1 y2 y3))
 have bx:=LH (Dk ⟨a1,n1,c1,a2,n2,c2,a3,n3,c3⟩ G W4 (Hg.out.below aq.out) h1 R V);clear S an;go_upto_region 9 with (first
  | (go_at_call 27
     (with_reducible refine bx.out.mono ?_);rintro e W5⟨cz,⟨df,er,ay,rfl⟩ | ⟨_,⟨s,f,z,u,l,B,v,r,C⟩,Ak,nk,ck,rfl,c7,m1,m2,m3,db⟩⟩
     ·rw[fk.out] at df;cases df
     have bz:=LH (Zz aq.out cz);have cc:=LH c7;have ce:=LH db;clear cz c7 db))
 have m1:f<=24:=m1;have m2:l<=16:=m2;have m3:r<=40:=m3;have M:=Zy W5 (.cells #[.slice s f z,.slice u l B,.slice v r C,.int .i64 (Zi G).zt] 26);have ab:=Blk.new W5 26 #[.slice s f z,.slice u l B,.slice v r C,.int .i64 (Zi G).zt];have b0:=LH (Zz bz.out M);have cd:=LH (cc.out.below M);have bb:=LH (ce.out.below M);clear bz cc ce M y0 y1 y2 y3 y5 bx;generalize W5.alloc (.cells #[.slice s f z,.slice u l B,.slice v r C,.int .i64 (Zi G).zt] 26)=H at *;generalize W5.heap.size=E at *;have ga:=LH ab;have x0:H.cell? ⟨E,0,none⟩=some (.slice s f z):=ab.cell 0;have x1:H.cell? ⟨E,1,none⟩=some (.slice u l B):=ab.cell 1;have x2:H.cell? ⟨E,2,none⟩=some (.slice v r C):=ab.cell 2;have x3:H.cell? ⟨E,3,none⟩=some (.int .i64 (Zi G).zt):=ab.cell 3;have Z:=ab.lt;have S:Hid (∀X,Below H H X->Calls prog 30 #[.agg #[.slice s f z,.slice u l B,.slice v r C,.int .i64 (Zi G).zt],.int .i64 (m:Int)] X λe w'=>Below H H w'/\∃A c tab,e = .returned (.slice A (m+1) c)/\Hid (Zyq w' A (m+1) c (Zi G).O.length tab)/\Hid (∀k,k<=m->∀i,i<(Zi G).O.length->tab k i=Zv (Zi G) (-1-(i:Int)) k)):=LH λX W=>(Ztz ⟨s,f,z,u,l,B,v,r,C⟩ (Zi G) m X (cd.out.below W) (by show f<=100;omega) (by show l<=100;omega) (by show r<=100;omega) HP.out HO.out AA).mono λe w' ⟨h1,A,c,tab,R,V,F⟩=>⟨Zz W h1,A,c,tab,R,LH V,LH F⟩;have HS:Hid (∀I,Below H H I->I.cell? ⟨E,0,none⟩=some (.slice s f z)/\I.cell? ⟨E,1,none⟩=some (.slice u l B)/\I.cell? ⟨E,2,none⟩=some (.slice v r C)/\I.cell? ⟨E,3,none⟩=some (.int .i64 (Zi G).zt)/\Below H H I):=LH λI W=>⟨by rw[W.cell (by exact Z)];exact x0,by rw[W.cell (by exact Z)];exact x1,by rw[W.cell (by exact Z)];exact x2,by rw[W.cell (by exact Z)];exact x3,W⟩;clear ab;go_region_held3 (λI=>I.cell? ⟨E,0,none⟩=some (.slice s f z)/\I.cell? ⟨E,1,none⟩=some (.slice u l B)/\I.cell? ⟨E,2,none⟩=some (.slice v r C)/\I.cell? ⟨E,3,none⟩=some (.int .i64 (Zi G).zt)/\Below H H I)
  ((refine HS.out _ ?_;(repeat (first | assumption | exact AP _ _ | refine Below.drew ?_ | refine Zo ?_ _));done))
  (first
    | (go_at_call 30;with_reducible refine (S.out _ (by (repeat (first | assumption | exact AP _ _ | refine Below.drew ?_)))).mono ?_;rintro e D⟨ah,At,J,tab,rfl,d9,fb⟩))
 have M:=Zy D (.cells #[.slice s f z,.slice u l B,.slice v r C,.int .i64 (Zi G).zt,.slice At (m+1) J,.slice none 0 0,.bool false] 87);have cy:=Blk.new D 87 #[.slice s f z,.slice u l B,.slice v r C,.int .i64 (Zi G).zt,.slice At (m+1) J,.slice none 0 0,.bool false];have cw:TbG D ⟨s,f,z,u,l,B,v,r,C⟩ (Zi G) At (m+1) J tab:=⟨cd.out.below ah,d9.out,λk hk i hi=>fb.out k AA i hi,AA,by show f<=100;omega,by show l<=100;omega,by show r<=100;omega⟩;have cx:Bp D ⟨s,f,z,u,l,B,v,r,C⟩ (Zi G) At (m+1) J D [] false none 0 (D.alloc (.cells #[.slice s f z,.slice u l B,.slice v r C,.int .i64 (Zi G).zt,.slice At (m+1) J,.slice none 0 0,.bool false] 87)):=⟨M,cy,⟨BL _ _ _ _,λg hg=>by cases hg⟩,AJ _,AV _⟩;have gi:=HP.out.fits.st;have a0:Zp (-1-(Zi G).zt)=(Zi G).zt.toNat:=by unfold Zp;omega
 obtain⟨t,ht⟩:=UnT.ex HP.out _ m (-1-(Zi G).zt) AA (by rw[a0];omega) rfl (val d) fi.out;have a9:Hid (UnT (Zi G) (Zi G).zt.toNat m (val d) t):=LH (by rw[<-a0];exact ht);obtain⟨bf,fx⟩:=Ul d b5.out av.out;have bm:Below w w D:=b0.out.trans (ah.mono b0.out.size);have d4:=LH (Zz bm M);have CT:Calls prog 37 #[.pointer (some ⟨D,0,none⟩),.int .i64 (Zi G).zt,.int .i64 (m:Int),.slice A d.length c] (D.alloc (.cells #[.slice s f z,.slice u l B,.slice v r C,.int .i64 (Zi G).zt,.slice At (m+1) J,.slice none 0 0,.bool false] 87)) (WkRet D ⟨s,f,z,u,l,B,v,r,C⟩ (Zi G) At (m+1) J D [] t (D.alloc (.cells #[.slice s f z,.slice u l B,.slice v r C,.int .i64 (Zi G).zt,.slice At (m+1) J,.slice none 0 0,.bool false] 87))):=by
  have h1:=(Zt5 cw HP.out t.length).1 D [] (-1-(Zi G).zt) m (val d) t A c _ (AJ _) AA (by rw[a0];omega) ht fl.out AA (by rw[<-bf];exact HR.out.below d4.out) ⟨_,_,cx⟩;rw[<-bf,show ((Zp (-1-(Zi G).zt):Nat):Int)=(Zi G).zt by rw[a0];omega] at h1;exact h1
 have CT:=LH CT;have z3:(D.alloc (.cells #[.slice s f z,.slice u l B,.slice v r C,.int .i64 (Zi G).zt,.slice At (m+1) J,.slice none 0 0,.bool false] 87)).cell? ⟨E,3,none⟩=some (.int .i64 (Zi G).zt):=(M.cell (p:=⟨E,3,none⟩) (AK Z ah.size)).trans ((ah.cell (p:=⟨E,3,none⟩) Z).trans x3);have zl:E<(D.alloc (.cells #[.slice s f z,.slice u l B,.slice v r C,.int .i64 (Zi G).zt,.slice At (m+1) J,.slice none 0 0,.bool false] 87)).heap.size:=AK Z (BC ah.size M.size);have ar:=LH bm;have fg:=LH (bb.out.below ah);clear x0 x1 x2 x3 Z cy cw cx ht bf fx bm M S HS;generalize D.alloc (.cells #[.slice s f z,.slice u l B,.slice v r C,.int .i64 (Zi G).zt,.slice At (m+1) J,.slice none 0 0,.bool false] 87)=W8 at *;generalize dj:D.heap.size=Y at *;have gb:=LH dj;clear dj;by_cases az:t.length<=300
 case neg =>
  have ao:Hid (Calls prog 37 #[.pointer (some ⟨Y,0,none⟩),.int .i64 (Zi G).zt,.int .i64 (m:Int),.slice A d.length c] W8 λe w'=>e = .returned (.tuple #[])/\∃cp,WkAt D ⟨s,f,z,u,l,B,v,r,C⟩ (Zi G) At (m+1) J Y cp true w'):=LH (CT.out.mono λe w' N=>by
   obtain⟨h1,_,⟨R,_⟩ | ⟨_,V⟩⟩:=N
   ·rw[DE] at R;omega
   exact⟨h1,V⟩)
  have Hb:Hid (V9 G (m:Int) d [] 13):=LH (.inr (.inr (.inr ⟨bc.out,by rw[O.out],by rw[O.out];exact cg.out,t,by rw[DH];exact a9.out,.inl ⟨AA,rfl,rfl⟩⟩)));clear CT az;go_upto_region 11 with (first
   | (go_at_call 37
      (with_reducible refine ao.out.mono ?_);rintro e P⟨rfl,cp,A9,c9,am⟩;have T:=LH am;clear am))
  have p6:P.cell? ⟨Y,6,none⟩=some (.bool true):=T.out.box.cell 6;have pl:=T.out.box.lt;go_wp2_with fail;go_ret2;exact Qp.no (ar.out.trans (T.out.base.mono ar.out.size)) Hb.out
 have ao:Hid (Calls prog 37 #[.pointer (some ⟨Y,0,none⟩),.int .i64 (Zi G).zt,.int .i64 (m:Int),.slice A d.length c] W8 λe w'=>e = .returned (.tuple #[])/\WkAt D ⟨s,f,z,u,l,B,v,r,C⟩ (Zi G) At (m+1) J Y t false w'):=LH (CT.out.mono λe w' N=>by
  obtain⟨h1,_,⟨_,V⟩ | ⟨R,_⟩⟩:=N
  ·exact⟨h1,V⟩
  rw[DE] at R;omega)
 have ba:=LH az;clear CT az;go_upto_region 11 with (first
  | (go_at_call 37
     (with_reducible refine ao.out.mono ?_);rintro e P⟨rfl,A9,c9,am⟩;have T:=LH am;clear am))
 have p6:P.cell? ⟨Y,6,none⟩=some (.bool false):=T.out.box.cell 6;have p5:P.cell? ⟨Y,5,none⟩=some (.slice A9 t.length c9):=T.out.box.cell 5;have pl:=T.out.box.lt;have da:=a9.out.inside;have ff:=LH da.2;have bu:Za .i64 P A9 t.length c9 (t.map λi:Nat=>(i:Int)):=Yl T.out.row.1;have fa:=LH bu;have fh:=LH (fg.out.below T.out.base);have b4:=LH (ar.out.trans (T.out.base.mono ar.out.size));have fe:Hid ((prog.info? 3).map (λi=>(i.zero,i.size,i.bytes))=some (some (.int .i64 0),1,8)):=LH AB;have gj:=bu.cap;clear da bu z3 zl ao;go_upto_region 15 with fail;go_loopw [14,15] (λo i wr=>∃(j:Nat) (Ao:Option Addr) (co:Nat),i = .int .i64 (j:Int)/\j<=t.length/\o = .slice Ao j co/\Hid (M4 wr P Ao j co (((t.take j).map (Yr G)).map λi:Nat=>(i:Int)))/\Hid (Below P P wr)) (λ_ i _=>t.length-(intOf i).toNat)
 case atStart=>exact⟨0,none,0,rfl,AV _,rfl,LH ⟨BL _ _ _ _,λg hg=>by cases hg⟩,LH (AP _ _)⟩
 obtain⟨j,Ao,co,rfl,hj,rfl,a8,U⟩:=hrel;have q5:=(U.out.cell (p:=⟨Y,5,none⟩) pl).trans p5;have ql:=AK pl U.out.size;clear p6 p5 pl;by_cases bq:j<t.length
 case neg =>
  obtain rfl:j=t.length:=AA
  have c6:Za .i64 wr Ao t.length co ((t.map (Yr G)).map λi:Nat=>(i:Int)):=by
   have h1:=Yl a8.out.1;rw[List.take_length] at h1;exact h1
  have fd:=LH c6;clear c6 bq;go_wp2_with fail;go_ret2;exact⟨b4.out.trans (U.out.mono b4.out.size),t.map (Yr G),0,Ao,co,by rw[BI];rfl,by rw[BI];exact fd.out,.inr (.inr (.inr ⟨bc.out,by rw[O.out],by rw[O.out];exact cg.out,t,by rw[DH];exact a9.out,.inr ⟨ba.out,rfl,rfl⟩⟩))⟩
 obtain⟨x,hx⟩:∃x,t[j]? = some x:=⟨_,AL bq⟩;obtain⟨tb,tO,tv,rfl,di,ci,cq⟩:=fa.out.get bq;obtain rfl:(x:Int)=tv:=by
  have F:=ci.out;rw[BB,hx] at F;exact BM F
 have t0:=(U.out.cell (p:=⟨tb,tO+j,none⟩) di).trans cq;have tl:=AK di U.out.size;have fy:x<nk:=by
  have F:=ff.out x (AM hx);rw[Fu] at F;have h5:=bb.out.len;unfold Z6 at h5;rw[BI] at h5;omega
 obtain⟨kb,ko,kv,rfl,dc,cf,cm⟩:=fh.out.get fy;obtain rfl:((Yr G x:Nat):Int)=kv:=by
  have F:=cf.out;unfold Z6 at F;rw[BB] at F;unfold Yr;cases h5:(ksN G G.U.length)[x]? with
  | none=>rw[h5] at F;cases F
  | some y =>
    rw[h5] at F;injection F with F;rw[<-F,AO,h5];rfl
 have k0:=(U.out.cell (p:=⟨kb,ko+x,none⟩) dc).trans cm;have kl:=AK dc U.out.size;have dg:((t.take j).map (Yr G)).map (λi:Nat=>(i:Int))++[((Yr G x:Nat):Int)]=((t.take (j+1)).map (Yr G)).map λi:Nat=>(i:Int):=by
  rw[Ya hx];simp
 have fj:=LH dg;have fs:j+1<=maxLen:=by have:=ba.out;unfold maxLen;omega
 have az:=ba.out;have c0:=U.out.size;have gf:=bb.out.cap;clear hx ci cq cf cm dg;go_wp2_with (first
  | (at_builtin;refine Nk rfl _ _ 30 rfl P 8 underlying30 fe.out Ao j co (((t.take j).map (Yr G)).map λi:Nat=>(i:Int)) rfl a8.out ((Yr G x:Nat):Int) rfl fs AA c0 ?_;intro A5 c5 w5 bs c8 M
     have bi:=Zy wr (.cells #[.int .i64 ((Yr G x:Nat):Int)] 3);have d5:Hid (Below P P w5):=LH ((Zz U.out bi).trans ((Off.of_grown c8).is_below (BC c0 bi.size) λq hq=>(a8.out.blk hq).1));rw[fj.out] at bs;have d8:=LH bs;clear bs c8 M bi))
 go_roundw
 case rel=>exact⟨j+1,A5,c5,AF,AA,rfl,d8,d5⟩
 simp[intOf] <;> omega
def Zqu:Alive24:=by
 intro w ag;have kc:=λ(w:World) (C:Array Value) (n c:Nat)=>Lib.run_convert_bytes_const (P:=prog) w 57 5 C n c underlying57 underlying5;have HT:=LH ag;go_enter func7,ntmps7;go_wp2_with fail;have af:Zq .u8 (w.alloc (aC #[aI .u8 37,aI .u8 37,aI .u8 32,aI .u8 115,aI .u8 32,aI .u8 58,aI .u8 32,aI .u8 115,aI .u8 32,aI .u8 115,aI .u8 32,aI .u8 124,aI .u8 32,aI .u8 39,aI .u8 97,aI .u8 39,aI .u8 32,aI .u8 59] 5 (18,19))) (some ⟨w,0,aN⟩) 18 18 Zyh:=markd_sl w 5 (18,19) (nums .u8 Zyh) 18 _ rfl rfl AC;have ad:Below w w (w.alloc (aC #[aI .u8 37,aI .u8 37,aI .u8 32,aI .u8 115,aI .u8 32,aI .u8 58,aI .u8 32,aI .u8 115,aI .u8 32,aI .u8 115,aI .u8 32,aI .u8 124,aI .u8 32,aI .u8 39,aI .u8 97,aI .u8 39,aI .u8 32,aI .u8 59] 5 (18,19))):=(AP _ _).alloc (AJ _) _;have I:=rf_ReadC _ 18 18 Zyh Xt _ read22A af AC AC;rw[show Xt.zt=0 from rfl] at I;try dsimp only at I
 refine I.mono ?_;rintro e u⟨b,rfl,ai,ay,az,a0,_,ab⟩;have ae:=Zz ad ab;have h:Hid (b.n1<=100/\b.n2<=100/\b.n3<=100):=LH ⟨AA,AA,AA⟩;have f:=Zy u (aC #[K b.a1 b.n1 b.c1,K b.a2 b.n2 b.c2,K b.a3 b.n3 b.c3,aI aJ 0] 26);have aa:Y1 (u.alloc (aC #[K b.a1 b.n1 b.c1,K b.a2 b.n2 b.c2,K b.a3 b.n3 b.c3,aI aJ 0] 26)) u b 0/\Yf (u.alloc (aC #[K b.a1 b.n1 b.c1,K b.a2 b.n2 b.c2,K b.a3 b.n3 b.c3,aI aJ 0] 26)) b Xt:=⟨Y1.new u 26 b 0,ai.below f⟩;have U:=LH (Zz ae f);go_upto_region 2 with fail;have s:=LH aa;generalize u.alloc (aC #[K b.a1 b.n1 b.c1,K b.a2 b.n2 b.c2,K b.a3 b.n3 b.c3,aI aJ 0] 26)=t at *;generalize u.heap.size=gA at *;have D:=LH (HT.below U);have J:Hid (Below t t t):=AP _ _;have⟨y5,y0,y1,y2,y3⟩:=s.1.below J;try simp only[] at y0 y1 y2 y3
 go_wp2_with fail;have f:=Zy t (aC #[aI .u32 7,aI .u32 6,aI .u32 4,aI .u32 1] 41);have q:Zq .u32 (t.alloc (aC #[aI .u32 7,aI .u32 6,aI .u32 4,aI .u32 1] 41)) (some ⟨t,0,aN⟩) 4 4 [7,6,4,1]:=N6 t 41 (nums .u32 [7,6,4,1]) 4 _ rfl rfl AC;have r:Lim [7,6,4,1]:=limD AC;have d:=Zri b Xt 4 _ 4 4 [7,6,4,1] _ ((s.2.below J).below f) Gp ((D.below J).below f) h.1 h.2.1 h.2.2 q r;rw[show Xt.zt=0 from rfl] at d;refine d.mono ?_;rintro e E⟨m,S,k1,H,A1,c1,rfl,o,k⟩;obtain⟨rfl,rfl,rfl⟩:=s24A k;have g:=Zz f m;have L:=LH g;have R1:=LH o;have⟨y5,y0,y1,y2,y3⟩:=s.1.below L;try simp only[] at y0 y1 y2 y3
 go_wp2_with fail;have f:=Zy E (aC #[aI .u32 4] 41);have q:Zq .u32 (E.alloc (aC #[aI .u32 4] 41)) (some ⟨E,0,aN⟩) 1 1 [4]:=N6 E 41 (nums .u32 [4]) 1 _ rfl rfl AC;have r:Lim [4]:=limD AC;have d:=Zqi b Xt 4 _ 1 [4] _ ((s.2.below L).below f) h.1 h.2.1 h.2.2 q r;rw[show Xt.zt=0 from rfl,show ([4]:List Nat).length=1 from rfl] at d;refine d.mono ?_;rintro e F⟨m,S,H,T,c2,rfl,o,k⟩;obtain⟨rfl,rfl⟩:=u24A k;have g:=Zz f m;have ap:=LH g;have z:=LH (Zz L g);have W:=LH o;have⟨y5,y0,y1,y2,y3⟩:=s.1.below z;try simp only[] at y0 y1 y2 y3
 go_wp2_with fail;have f:=Zy F (aC #[aI .u32 7,aI .u32 6] 41);have q:Zq .u32 (F.alloc (aC #[aI .u32 7,aI .u32 6] 41)) (some ⟨F,0,aN⟩) 2 2 [7,6]:=N6 F 41 (nums .u32 [7,6]) 2 _ rfl rfl AC;have r:Lim [7,6]:=limD AC;have d:=Zri b Xt 4 _ 2 2 [7,6] _ ((s.2.below z).below f) Gp ((D.below z).below f) h.1 h.2.1 h.2.2 q r;rw[show Xt.zt=0 from rfl] at d;refine d.mono ?_;rintro e W4⟨m,S,k3,H,A3,c3,rfl,o,k⟩;obtain⟨rfl,rfl,rfl⟩:=s24B k;have g:=Zz f m;have M:=LH g;have A:=LH (Zz z g);have⟨y5,y0,y1,y2,y3⟩:=s.1.below A;try simp only[] at y0 y1 y2 y3
 go_wp2_with fail;have d:=Zri b Xt 0 aN 0 0 [] W4 (s.2.below A) Gp (D.below A) h.1 h.2.1 h.2.2 (Zq.nil _ _ _ _ AA) Lim.nil;rw[show Xt.zt=0 from rfl] at d;refine d.mono ?_;rintro e G⟨m,S,k4,H,A4,c4,rfl,o,k⟩;obtain⟨rfl,rfl,rfl⟩:=s24C k;have g:=m;have N:=LH g;have B:=LH (Zz A g);have⟨y5,y0,y1,y2,y3⟩:=s.1.below B;try simp only[] at y0 y1 y2 y3
 go_wp2_with fail;have f:=Zy G (aC #[aI .u32 7,aI .u32 4,aI .u32 0] 41);have q:Zq .u32 (G.alloc (aC #[aI .u32 7,aI .u32 4,aI .u32 0] 41)) (some ⟨G,0,aN⟩) 3 3 [7,4,0]:=N6 G 41 (nums .u32 [7,4,0]) 3 _ rfl rfl AC;have r:Lim [7,4,0]:=limD AC;have d:=Zqn b Xt 4 2 _ 3 3 [7,4,0] _ ((s.2.below B).below f) Gp ((D.below B).below f) h.1 h.2.1 h.2.2 q r;rw[show Xt.zt=0 from rfl] at d;refine d.mono ?_;rintro e X⟨m,l,a,H,A5,c5,rfl,o,k⟩;obtain⟨rfl,rfl,rfl⟩:=som24 k;have g:=Zz f m;have O:=LH g;have am:=LH (Zz B g);have R5:=LH o;obtain⟨Z,oL,x,Aj,cj,a5,ah,Hx,R,aj⟩:=R5.get (j:=0) AC;obtain rfl:[0,0,0,1,1,1,1]=x:=by have:=Hx.out;simpa using this
 rw[DN] at R;subst a5;have au:=LH aj;have ar:=LH R;have d:=Mr A1 _ c1 (Zrc [0,0,0,1,1,1,1]) T _ c2 (Zrc [0,0,0,1,1,1,1]) X (R1.below (Zz (Zz (Zz ap M) N) O)) (W.below (Zz (Zz M N) O));rw[beq_self_eq_true,show ([0,0,0,1,1,1,1]:List Nat).length=7 from rfl] at d;have d:=LH d;go_wp2_with fail;refine d.out.mono ?_;rintro e Y⟨rfl,v⟩;have y:=v.below X;have z0:=(y.cell (p:=⟨Z,oL,aN⟩) ah).trans ar;have be:Z<Y.heap.size:=AK ah y.size;have V:=LH y;have an:=LH (Zz am y);have d:=Mr Aj _ cj (Zrc [0,0,0,1,1,1,1]) T _ c2 (Zrc [0,0,0,1,1,1,1]) Y (au.below V) (W.below (Zz (Zz (Zz M N) O) V));rw[beq_self_eq_true,show ([0,0,0,1,1,1,1]:List Nat).length=7 from rfl] at d;have d:=LH d;go_wp2_with fail;refine d.out.mono ?_;rintro e W8⟨rfl,v⟩;have ao:=LH (Zz an (v.below _));go_wp2_with fail;go_ret;exact⟨rfl,Zz U ao⟩
def Zuq{h:GH}{G:Gr}{f b:Nat}(d:TbG a h G At f b tab)(c:Xq G):∀m,RTC a h G At f b m/\RFC a h G At f b m
 | 0=>by
   have h0:RTC a h G At f b 0:=by
    intro s n r u z l o w j h0 p g;obtain⟨i,x,q,t,_,_,_,_,rfl⟩:=g;rw[AY] at j;omega
   exact⟨h0,Zxj d c 0 h0⟩
 | m+1=>by
   have k:=Zuq d c m;have h1:=rf_frank d c m k.2;exact⟨h1,Zxj d c (m+1) h1⟩
theorem rf_Rank(h:GH)(G:Gr)(A:Option Addr)(c:Nat)(t:List Int)(w:World)(hg:Yf w h G)(h1:h.n1<=100)(M:h.n2<=100)(N:h.n3<=100)(ht:Za .i64 w A t.length c t)(hl:t.length<=400):
 Calls prog 16 #[GV h G.zt,.slice A t.length c] w (Jj G t w):=by
 obtain⟨a1,n1,c1,a2,n2,c2,a3,n3,c3⟩:=h;simp only[] at h1 M N;have Hg:=LH hg;have a0:=Zy w (.cells #[.slice a1 n1 c1,.slice a2 n2 c2,.slice a3 n3 c3,.int .i64 G.zt] 26);have bs:=Y1.new w 26 ⟨a1,n1,c1,a2,n2,c2,a3,n3,c3⟩ G.zt;have HT:=LH ht;have gl:=ht.cap;clear hg ht;go_enter func16,ntmps16;have⟨z5,z0,z1,z2,z3⟩:=bs;simp only[] at z0 z1 z2 z3;go_upto_region 1 with fail;generalize w.alloc (.cells #[.slice a1 n1 c1,.slice a2 n2 c2,.slice a3 n3 c3,.int .i64 G.zt] 26)=U at *;have CI:=B4 ⟨a1,n1,c1,a2,n2,c2,a3,n3,c3⟩ G A t.length c t U (Hg.out.below a0) (HT.out.below a0) hl h1 M N;have ca:=LH a0;have ce:=LH bs;clear a0 bs;cases Y:Xl G t with
 | none =>
   have ao:Hid (Calls prog 19 #[GV ⟨a1,n1,c1,a2,n2,c2,a3,n3,c3⟩ G.zt,.slice A t.length c] U λe w'=>e = .returned (.tuple #[.slice none 0 0,.int .i64 1])/\Below U U w'):=LH (CI.mono λe w' L=>by
    obtain⟨s,⟨_,rfl⟩ | ⟨wd,ps,k,A',c',P,_⟩⟩:=L
    ·exact⟨rfl,s⟩
    rw[Y] at P;cases P)
   have Hb:Hid (Vj G t [] 1):=LH (.inl ⟨Y,rfl,rfl⟩);clear CI Y;go_wp2_with (go_at_call 19;(with_reducible refine ao.out.mono ?_);rintro e w6⟨rfl,ak⟩);go_ret2;exact Jj.no (Zz ca.out ak) Hb.out
 | some q =>
   obtain⟨wd,ps,k⟩:=q;have ao:Hid (Calls prog 19 #[GV ⟨a1,n1,c1,a2,n2,c2,a3,n3,c3⟩ G.zt,.slice A t.length c] U λe w'=>∃A' c',e = .returned (.tuple #[.slice A' wd.length c',.int .i64 0])/\Below U U w'/\(wd.length:Int)<=9223372036854775807):=LH (CI.mono λe w' L=>by
    obtain⟨s,⟨P,_⟩ | ⟨f9,fz,k',A',c',P,rfl,hi⟩⟩:=L
    ·rw[Y] at P;cases P
    rw[Y] at P;obtain⟨rfl,rfl,rfl⟩:wd=f9/\ps=fz/\k=k':=by simpa using P
    exact⟨A',c',rfl,s,by have:=hi.cap;omega⟩)
   have aj:=LH Y;clear CI Y;go_upto_region 4 with (first
    | (go_at_call 19
       (with_reducible refine ao.out.mono ?_);rintro e w6⟨Aw,cw,rfl,ak,gv⟩))
   have a8:=LH (Zz ca.out ak);have bi:=LH (ce.out.below ak);clear z0 z1 z2 z3 z5 ak ce ao;by_cases bp:10<wd.length
   case pos =>
    have Hb:Hid (Vj G t [] 5):=LH (.inr ⟨wd,ps,k,aj.out,.inl ⟨bp,rfl,rfl⟩⟩);have fj:(10:Int)<(wd.length:Int):=AA
    clear bp;go_wp2_with fail;go_ret2;exact Jj.no a8.out Hb.out
   have Hn:Hid (wd.length<=10):=LH AA;have fj:¬(10:Int)<(wd.length:Int):=AA
   have⟨z5,z0,z1,z2,z3⟩:=bi.out;simp only[] at z0 z1 z2 z3;have CC:=Lj ⟨a1,n1,c1,a2,n2,c2,a3,n3,c3⟩ G (wd.length:Int) w6 (Hg.out.below a8.out) h1 M N;have c8:=Kg G (wd.length:Int);obtain⟨cn,bu⟩:∃cn,Z2 G (wd.length:Int)=cn:=⟨_,rfl⟩;obtain⟨zs,er⟩:=cn;rw[bu] at CC c8;have CC:=LH CC;have ar:=LH bu;clear bu c8 bp;go_upto_region 7 with (first
    | (go_at_call 15
       (with_reducible refine CC.out.mono ?_);rintro e W3⟨A3,gi,rfl,fq,bq⟩))
   have a9:=LH (Zz a8.out bq);have cf:=LH (bi.out.below bq);clear fq bq CC z0 z1 z2 z3 z5 bi;by_cases a5:er=0
   case neg =>
    have gt:((er:Int) != 0)=true:=by rw[BK];omega
    have Hb:Hid (Vj G t [] er):=LH (.inr ⟨wd,ps,k,aj.out,.inr (.inl ⟨Hn.out,by rw[ar.out];exact a5,rfl,by rw[ar.out]⟩)⟩);clear a5;go_wp2_with fail;go_ret2;exact Jj.no a9.out Hb.out
   subst a5;obtain⟨L,gs,u,r,hu,b6⟩:=Zxc aj.out;have b0:=Ztb aj.out;obtain⟨cy,hP,dk,fm,fn⟩:=Zzy L Hn.out b0 (by rw[ar.out]);have bv:=hu.inside;have bx:u.length=t.length:=by rw[b6];simp
   have gu:0<t.length:=by rw[<-bx];exact List.length_pos_iff.2 bv.1
   have HU:=LH hu;have cm:=LH b6;have fb:=LH bv.2;have av:=LH bx;have HP:=LH hP;have fe:=LH L;have d7:=LH cy;have ff:=LH dk;have cl:=LH b0;clear L b0 cy hP dk fm fn bv bx hu b6;have hO:=(Dx fe.out cl.out d7.out.cyc).2;have HO:=LH hO;have⟨z5,z0,z1,z2,z3⟩:=cf.out;simp only[] at z0 z1 z2 z3;have b9:=LH (Dk ⟨a1,n1,c1,a2,n2,c2,a3,n3,c3⟩ G W3 (Hg.out.below a9.out) h1 M N);clear hO;go_upto_region 10 with (first
    | (go_at_call 27
       (with_reducible refine b9.out.mono ?_);rintro e W5⟨c0,⟨di,er,a5,rfl⟩ | ⟨_,⟨z,l,D,B,m,E,C,n,F⟩,Ak,nk,ck,rfl,c9,m1,m2,m3,dd⟩⟩
       ·rw[cl.out] at di;cases di
       have cb:=LH (Zz a9.out c0);have cg:=LH c9;have ci:=LH dd;clear c0 c9 dd))
   have m1:l<=24:=m1;have m2:m<=16:=m2;have m3:n<=40:=m3;have ae:=Zy W5 (.cells #[.slice z l D,.slice B m E,.slice C n F,.int .i64 (Zi G).zt] 26);have c7:=Blk.new W5 26 #[.slice z l D,.slice B m E,.slice C n F,.int .i64 (Zi G).zt];have ba:=LH (Zz cb.out ae);have d9:=LH (cg.out.below ae);have bk:=LH (ci.out.below ae);clear cb cg ci ae z0 z1 z2 z3 z5 b9 cf;generalize W5.alloc (.cells #[.slice z l D,.slice B m E,.slice C n F,.int .i64 (Zi G).zt] 26)=J at *;generalize W5.heap.size=b at *;have I:=LH c7;have d8:=LH (HT.out.below ba.out);have df:nk=(ksN G G.U.length).length:=by
    have H:=bk.out.len;unfold Z6 at H;rw[BI] at H;exact H.symm
   have bm:=LH df;have gq:=bk.out.cap;have fa:Hid ((prog.info? 3).map (λi=>(i.zero,i.size,i.bytes))=some (some (.int .i64 0),1,8)):=LH AB;clear c7 df;go_wp2_with fail;go_loopw [11,12] (λo i wr=>∃(j:Nat) (R:Option Addr) (V:Nat),i = .int .i64 (j:Int)/\j<=t.length/\o = .slice R j V/\Hid (M4 wr J R j V ((u.take j).map λi:Nat=>(i:Int)))/\Hid (Below J J wr)) (λ_ i _=>t.length-(intOf i).toNat)
   case atStart=>exact⟨0,none,0,rfl,AV _,rfl,LH ⟨BL _ _ _ _,λg hg=>by cases hg⟩,LH (AP _ _)⟩
   obtain⟨j,R,V,rfl,hj,rfl,ap,aq⟩:=hrel;by_cases bw:j<t.length
   case pos =>
    obtain⟨x,hx⟩:∃x,u[j]? = some x:=⟨_,AL (by rw[av.out];exact bw)⟩;have dn:x<nk:=by
     have a:=fb.out x (AM hx);rw[Fu,<-bm.out] at a;exact a
    have Hx:=LH hx;clear hx;go_wp2_with fail;go_loopw [11,13] (λo i wz=>∃(kk d:Nat) (Z:Option Addr) (ad:Nat),i = .int .i64 (kk:Int)/\kk<=nk/\Hid (d=if x<kk then j+1 else j)/\o = .slice Z d ad/\Hid (M4 wz J Z d ad ((u.take d).map λi:Nat=>(i:Int)))/\Hid (Below J J wz)) (λ_ i _=>nk-(intOf i).toNat)
    case atStart=>exact⟨0,j,R,V,rfl,AV _,LH (by rw[if_neg AA]),rfl,ap,aq⟩
    clear ap aq;obtain⟨kk,d,Z,ad,rfl,gr,bn,rfl,be,T⟩:=hrel;by_cases dg:kk<nk
    case neg =>
     obtain rfl:kk=nk:=AA
     obtain rfl:d=j+1:=by rw[bn.out,if_pos dn]
     go_wp2_with fail;go_roundw
     case rel=>exact⟨j+1,Z,ad,AF,AA,rfl,be,T⟩
     simp[intOf] <;> omega
    obtain⟨tb,tO,tv,rfl,dm,co,cq⟩:=d8.out.get bw;obtain rfl:((Yr G x:Nat):Int)=tv:=by
     have a:=co.out;have H:=cm.out;rw[List.map_map] at H;rw[H,BB,Hx.out] at a;exact BM a
    have t0:=(T.out.cell (p:=⟨tb,tO+j,none⟩) dm).trans cq;have tl:=AK dm T.out.size;obtain⟨kb,ko,kv,rfl,de,cj,cp⟩:=bk.out.get dg;obtain rfl:((Yr G kk:Nat):Int)=kv:=by
     have a:=cj.out;unfold Z6 at a;rw[BB] at a;unfold Yr;cases H:(ksN G G.U.length)[kk]? with
     | none=>rw[H] at a;cases a
     | some y =>
       rw[H] at a;injection a with a;rw[<-a,AO,H];rfl
    have k0:=(T.out.cell (p:=⟨kb,ko+kk,none⟩) de).trans cp;have kl:=AK de T.out.size;have dc:Yr G kk=Yr G x->kk=x:=λh=>Zzr (by rw[<-bm.out];exact dg) (by rw[<-bm.out];exact dn) h;obtain⟨ax,c6⟩:∃ax,(((Yr G kk:Nat):Int)==((Yr G x:Nat):Int))=ax:=⟨_,rfl⟩;have db:(kk=x)↔ax=true:=by
     rw[<-c6,BS];exact⟨λh=>by rw[h],λh=>dc AA⟩
    have au:=LH db;have bc:=Yt wr;clear co cq cj cp dc db;go_upto_region 17 with fail;refine Zs AB AB ?_;repeat (go_big_quiet_step (fail))
    refine BJ ?_;rintro _⟨v,rfl⟩;have bt:=Zr wr v;have bf:=LH (M4.off (S:=λ_=>False) be.out (Off.of_below bt) λ_ _ h=>h);have bb:=LH (Zz T.out bt);clear t0 tl k0 kl bc bt c6 be T;generalize bl wr v=wv at *;have a4:=bb.out.size;cases ax
    case true =>
     obtain rfl:kk=x:=au.out.2 rfl;obtain rfl:d=j:=by rw[bn.out,if_neg AA]
     have dj:(u.take d).map (λi:Nat=>(i:Int))++[((kk:Nat):Int)]=(u.take (d+1)).map λi:Nat=>(i:Int):=by
      rw[Ya Hx.out];simp
     have fd:=LH dj;have fp:d+1<=maxLen:=by unfold maxLen;omega
     clear dj au;go_wp2_with (first
      | (at_builtin;refine Nk rfl _ _ 30 rfl J 8 underlying30 fa.out Z d ad ((u.take d).map λi:Nat=>(i:Int)) rfl bf.out ((kk:Nat):Int) rfl fp AA a4 ?_;intro A5 c5 w5 b4 da ae
         have br:=Zy wv (.cells #[.int .i64 ((kk:Nat):Int)] 3);have dy:Hid (Below J J w5):=LH ((Zz bb.out br).trans ((Off.of_grown da).is_below (BC a4 br.size) λq hq=>(bf.out.blk hq).1));rw[fd.out] at b4;have d4:=LH b4;clear b4 da ae br))
     go_roundw
     case rel=>exact⟨kk+1,d+1,A5,c5,AF,AA,LH (by rw[if_pos AA]),rfl,d4,dy⟩
     simp[intOf] <;> omega
    have gm:¬kk=x:=λh=>by have:=au.out.1 h;cases this
    clear au;go_wp2_with fail;go_roundw
    case rel=>exact⟨kk+1,d,Z,ad,AF,AA,LH (by rw[bn.out];by_cases h:x<kk;(rw[if_pos h,if_pos AA]);(rw[if_neg h,if_neg AA])),rfl,bf,bb⟩
    simp[intOf] <;> omega
   obtain rfl:j=t.length:=AA
   have cx:Za .i64 wr R (u.length+([]:List Int).length) V (u.map (λi:Nat=>(i:Int))++[]):=by
    have h1:=Yl ap.out.1;rw[<-av.out,List.take_length] at h1;rw[DE,DN,DJ];exact h1
   have d5:=LH cx;have fs:=HP.out.fits.st;have bz:Zp (-1-(Zi G).zt)=(Zi G).zt.toNat:=by unfold Zp;omega
   have cz:UnT (Zi G) (Zp (-1-(Zi G).zt)) wd.length r u:=by rw[bz];exact HU.out
   have dh:Zp (-1-(Zi G).zt)<(Zi G).O.length:=by rw[bz];omega
   have dl:-1-(Zi G).zt<0:=AA
   have O:=aq.out;have a4:=O.size;have ch:=LH (d9.out.below O);have CM:Hid (∀X,Below wr wr X->Calls prog 30 #[.agg #[.slice z l D,.slice B m E,.slice C n F,.int .i64 (Zi G).zt],.int .i64 (wd.length:Int)] X λe w'=>Below wr wr w'/\∃A c tab,e = .returned (.slice A (wd.length+1) c)/\Hid (Zyq w' A (wd.length+1) c (Zi G).O.length tab)/\Hid (∀k,k<=wd.length->∀i,i<(Zi G).O.length->tab k i=Zv (Zi G) (-1-(i:Int)) k)):=LH λX s=>(Ztz ⟨z,l,D,B,m,E,C,n,F⟩ (Zi G) wd.length X (ch.out.below s) (by show l<=100;omega) (by show m<=100;omega) (by show n<=100;omega) HP.out HO.out (by have:=Hn.out;omega)).mono λe w' ⟨h1,A,c,tab,M,N,a⟩=>⟨Zz s h1,A,c,tab,M,LH N,LH a⟩;have dx:Hid (∀W7 At ct tab,Below wr wr W7->Hid (Zyq W7 At (wd.length+1) ct (Zi G).O.length tab)->Hid (∀k,k<=wd.length->∀i,i<(Zi G).O.length->tab k i=Zv (Zi G) (-1-(i:Int)) k)->∀X,Below W7 W7 X->Calls prog 29 #[.agg #[.slice z l D,.slice B m E,.slice C n F,.int .i64 (Zi G).zt],.slice At (wd.length+1) ct,.slice R t.length V] X λe w'=>Below wr wr w'/\∃A c,e = .returned (.agg #[.int .i64 (u.length:Int),.int .i64 (wd.length:Int),.slice A (Zq3 r).length c])/\Hid (Zq .u32 w' A (Zq3 r).length c (Zq3 r))):=LH (by
    intro W7 At ct tab al bg bh X c4;have fk:TbG W7 ⟨z,l,D,B,m,E,C,n,F⟩ (Zi G) At (wd.length+1) ct tab:=⟨ch.out.below al,bg.out,λk hk i hi=>bh.out k AA i hi,by have:=Hn.out;omega,by show l<=100;omega,by show m<=100;omega,by show n<=100;omega⟩;have h1:=(Zuq fk HP.out u.length).1 (-1-(Zi G).zt) wd.length r u [] R V X (AJ _) dl dh cz ff.out AA (d5.out.below al) c4;rw[DE,DN,av.out] at h1;refine h1.mono λe w' L=>?_;obtain⟨M,A,c,N,a⟩:=L;exact⟨Zz al (Zz c4 M),A,c,by rw[av.out];exact N,LH a⟩)
   have xl:b<wr.heap.size:=AK I.out.lt a4;have x0:wr.cell? ⟨b,0,none⟩=some (.slice z l D):=(O.cell (p:=⟨b,0,none⟩) I.out.lt).trans (I.out.cell 0);have x1:wr.cell? ⟨b,1,none⟩=some (.slice B m E):=(O.cell (p:=⟨b,1,none⟩) I.out.lt).trans (I.out.cell 1);have x2:wr.cell? ⟨b,2,none⟩=some (.slice C n F):=(O.cell (p:=⟨b,2,none⟩) I.out.lt).trans (I.out.cell 2);have x3:wr.cell? ⟨b,3,none⟩=some (.int .i64 (Zi G).zt):=(O.cell (p:=⟨b,3,none⟩) I.out.lt).trans (I.out.cell 3);have HS:Hid (∀f,Below wr wr f->f.cell? ⟨b,0,none⟩=some (.slice z l D)/\f.cell? ⟨b,1,none⟩=some (.slice B m E)/\f.cell? ⟨b,2,none⟩=some (.slice C n F)/\f.cell? ⟨b,3,none⟩=some (.int .i64 (Zi G).zt)/\Below wr wr f):=LH λf s=>⟨by rw[s.cell (by exact xl)];exact x0,by rw[s.cell (by exact xl)];exact x1,by rw[s.cell (by exact xl)];exact x2,by rw[s.cell (by exact xl)];exact x3,s⟩;have dz:=LH ((ba.out.trans (O.mono ba.out.size)));have kf:∀v0 v1 v2 W,(Instr.field 67 (.agg #[v0,v1,v2]) 2).run prog W = .ok v2 W:=λ_ _ _ _=>AB
   clear cx ap cz fs bz dh dl bw O aq;go_upto_region 19 with fail;go_region_held3 (λf=>f.cell? ⟨b,0,none⟩=some (.slice z l D)/\f.cell? ⟨b,1,none⟩=some (.slice B m E)/\f.cell? ⟨b,2,none⟩=some (.slice C n F)/\f.cell? ⟨b,3,none⟩=some (.int .i64 (Zi G).zt)/\Below wr wr f)
    ((refine HS.out _ ?_;(repeat (first | assumption | exact AP _ _ | refine Below.drew ?_ | refine Zo ?_ _));done))
    (first
      | (go_at_call 30;with_reducible refine (CM.out _ (by (repeat (first | assumption | exact AP _ _ | refine Below.drew ?_)))).mono ?_;rintro e w7⟨al,At,ct,tab,rfl,bg,bh⟩)
      | (go_at_call 29;with_reducible refine (dx.out w7 At ct tab al bg bh _ (by (repeat (first | assumption | exact AP _ _ | refine Below.drew ?_)))).mono ?_;rintro e w8⟨fl,Ar,cr,rfl,fc⟩))
   go_wp2_with fail;go_ret2;exact⟨Zz dz.out fl,Zq3 r,0,Ar,cr,rfl,fc.out,.inr ⟨wd,ps,k,aj.out,.inr (.inr ⟨Hn.out,by rw[ar.out],rfl,u,r,HU.out,cm.out,rfl⟩)⟩⟩
def sampleEven_walk(h:GH)(G:Gr)(x:Int)(w:World)(bz:GrIn w h G)(hx:(Lit.int .u8 x).wf=true)(a0:Q2 w):
 Calls prog 5 #[GV h G.zt,aI .u8 x] w λe w'=>e = aR (aB true)/\Below w w w':=by
 obtain⟨x,rfl,c4⟩:∃q:Nat,x=(q:Int)/\q<256:=by
  obtain⟨h0,h1⟩:=bounds_u8 hx;exact⟨x.toNat,AA,AA⟩
 obtain⟨y,hs,b8⟩:=bz;obtain⟨a1,n1,c1,a2,n2,c2,a3,n3,c3⟩:=h;have e1:(Q G.T)=n1:=y.T.len;have e2:(Q G.O)=n2:=y.O.len;have e3:(Q G.U)=n3:=y.U.len;have M:=Zy w (aC #[aK a1 n1 c1,aK a2 n2 c2,aK a3 n3 c3,aI aJ G.zt] 26);have a7:=Y1.new w 26 ⟨a1,n1,c1,a2,n2,c2,a3,n3,c3⟩ G.zt;have CA:=LH Zqu;have A:=LH y;have Hs:=LH hs;have HT:=LH a0;go_enter func5,ntmps5;go_wp2_with fail;generalize w.alloc (aC #[aK a1 n1 c1,aK a2 n2 c2,aK a3 n3 c3,aI aJ G.zt] 26)=W0 at *;refine (CA.out W0 (HT.out.below M)).mono ?_;rintro e W1⟨rfl,s⟩;have N:=Zz M s;have V:=a7.below s;have⟨n,a,b,f,g⟩:=V;simp only[] at a b f g;go_wp2_with fail;refine (Cu ⟨a1,n1,c1,a2,n2,c2,a3,n3,c3⟩ G W1 (A.out.below N)).mono ?_;rintro e W2⟨rfl,R⟩;have aq:=Zz N R;have a8:=V.below R;have E:=LH aq;have ai:=LH a8;have⟨n,a,b,f,g⟩:=ai.out;simp only[] at a b f g;rcases Y:G.great with _ | _
 case true =>
  go_wp2_with fail;go_ret;exact⟨rfl,E⟩
 obtain⟨l1,l2,l3,_⟩:=Kv Y;rw[e1] at l1;rw[e2] at l2;rw[e3] at l3;obtain⟨k,hk⟩:∃k,x % 6=k:=⟨_,rfl⟩;have b2:k<6:=AA
 have cv:(x:Int) % 6=(k:Int):=AA
 have cj:=LH b2;have H:=Lj ⟨a1,n1,c1,a2,n2,c2,a3,n3,c3⟩ G (k:Int) W2 (A.below E) (by simp only[];omega) (by simp only[];omega) (by simp only[];omega);have X:=Kg G (k:Int);obtain⟨J,W⟩:∃J,Z2 G (k:Int)=J:=⟨_,rfl⟩;obtain⟨D,L⟩:=J;rw[W] at H X;have CC:=LH H;have bn:=LH W;have bm:=LH X;go_upto_region 7 with (go_at_call 15;refine CC.out.mono ?_;rintro e W3⟨A3,cm,rfl,ba,S⟩);have r:=LH (Zz E S);have aj:=LH (ai.below S);have ag:=LH ba;by_cases bx:L=0
 case neg =>
  have b4:((L:Int) != 0)=true:=by rw[BK];omega
  go_wp2_with fail;go_ret;exact⟨rfl,r⟩
 subst bx;by_cases Z:(Q D)=1
 case neg =>
  have b4:(((Q D):Int) != 1)=true:=by rw[BK];omega
  go_wp2_with fail;go_ret;exact⟨rfl,r⟩
 obtain⟨c,rfl⟩:∃c,D=[c]:=by
  rcases D with _ | ⟨c,_ | ⟨d,l⟩⟩
  ·simp at Z
  ·exact⟨c,rfl⟩
  simp at Z
 obtain⟨b1,o1,c',rfl,s,F,a9⟩:=ag.get (j:=0) AE;obtain rfl:c=c':=by have:=F.out;simpa using this
 rw[DN] at a9;have cs:c<4294967296:=bm.1 c AE;have F:=LH a9;simp only[AY,DE,BF] at ag ⊢;by_cases h2:c<2
 case pos =>
  go_wp2_with fail;go_ret;exact⟨rfl,r⟩
 by_cases cq:40<c
 case pos =>
  go_wp2_with fail;go_ret;exact⟨rfl,r⟩
 go_wp2_with fail;go_loop [8] (λo=>∃K p:Nat,o = aI .u32 (p:Int)/\Hid (p=2 ^ K)/\p<2*c/\0<p) (λo=>2*c-(intOf o).toNat)
 case atStart=>exact⟨0,1,rfl,LH rfl,AA,AA⟩
 obtain⟨K,p,rfl,B,hp,cy⟩:=hrel;by_cases cw:p<c
 ·go_wp2;go_round
  case rel=>exact⟨K+1,2*p,AF,LH (by rw[Nat.pow_succ,B,Ef]),AA,AA⟩
  simp[intOf];omega
 go_wp2;go_loopw [9] (λi wr=>∃v:Nat,v<=p/\i = aI .u32 (v:Int)/\Hid (Below W3 W3 wr)) (λi _=>p+1-(intOf i).toNat)
 case atStart=>exact⟨0,AV _,rfl,LH (AP _ _)⟩
 obtain⟨v,hv,rfl,z⟩:=hrel;have af:=LH (Zz r z);by_cases ca:v<p
 case neg =>
  go_wp2_with fail;go_ret;exact⟨rfl,af⟩
 have b9:v<4294967296:=AA
 have P:=Zy wr (aC #[aI .u32 (v:Int)] 41);have hL:Zq .u32 (wr.alloc (aC #[aI .u32 (v:Int)] 41)) (some ⟨wr,0,aN⟩) 1 1 [v]:=N6 wr 41 (nums .u32 [v]) 1 _ rfl rfl AC;have O:=Zz af P;have CD:=LH (Zri ⟨a1,n1,c1,a2,n2,c2,a3,n3,c3⟩ G (k:Int) (some ⟨wr,0,aN⟩) 1 1 [v] _ (A.below O) Hs (HT.below O) (by simp only[];omega) (by simp only[];omega) (by simp only[];omega) hL (Lim.mk b9 Lim.nil));have bk:=LH P;have⟨n,a,b,f,g⟩:=aj.below z;simp only[] at a b f g;go_upto_region 16 with (go_at_call 9;refine CD.out.mono ?_;rintro e W5⟨a5,aa,u,e5,A5,c5,rfl,ar,ay⟩);have b7:=smp_even (w:=v) bn AA AA (by rw[<-B];exact hp) (by rw[<-B];omega) (by rw[<-B];exact ca) ay;have m:=LH (z.trans ((Zz bk a5).mono z.size));have ae:=LH (Zz r m);have bi:=LH ar;have ct:=(m.cell (p:=⟨b1,o1,aN⟩) s).trans F;have cr:b1<W5.heap.size:=AK s m.size;rcases b7 with ⟨cu,rfl⟩ | ⟨cx,rfl | ⟨rfl,rfl,hU⟩⟩
 ·go_wp2_with fail;go_roundw
  case rel=>exact⟨v+1,AA,AF,m⟩
  simp[intOf];omega
 ·have b5:¬c<=v:=AA
  go_wp2_with fail;go_roundw
  case rel=>exact⟨v+1,AA,AF,m⟩
  simp[intOf];omega
 have b5:¬c<=v:=AA
 obtain⟨_,_,_,_,b3,wd,ps,q,cb,cc,a6⟩:=V9.back hU (Z9 v);have bl:=LH a6;have bh:=aj.below m;obtain⟨n,a,b,f,g⟩:=bh;simp only[] at a b f g;have C:(Zrc aa).length=(Q aa):=BI ..;have t:=rf_Rank ⟨a1,n1,c1,a2,n2,c2,a3,n3,c3⟩ G A5 c5 (Zrc aa) W5 (A.below ae) (by simp only[];omega) (by simp only[];omega) (by simp only[];omega) (by rw[C];exact bi) (by rw[C];omega);rw[C] at t;have t:=LH t;go_upto_region 21 with (go_at_call 16;refine t.out.mono ?_;rintro e W6⟨T,rs,L,A6,c6,rfl,av,ax⟩);obtain⟨rfl,rfl⟩:=bl _ _ ax;have ci:=LH (Zz ae T);have ad:=LH (m.trans (T.mono m.size));have bj:=LH av;have c0:(v:Int) % 18446744073709551616=(v:Int):=AA
 go_wp2_with (first
  | (go_at_call 18
     refine (ref_of_n v _ AA).mono ?_;rintro e W7⟨A7,c7,rfl,aw,U⟩)
  | (go_at_call 17
     have I:=Zya A6 _ c6 (Zq3 v) A7 _ c7 (Zq3 v) W7 (bj.below U) aw;rw[beq_self_eq_true] at I;refine I.mono ?_;rintro e W8⟨rfl,az⟩;have bg:=LH (ad.trans ((Zz U (az.below _)).mono ad.size))))
 go_roundw
 case rel=>exact⟨v+1,AA,AF,bg⟩
 simp[intOf];omega
end
end Go.Proofs.YtaagompdgiobeaaGreatDoor
