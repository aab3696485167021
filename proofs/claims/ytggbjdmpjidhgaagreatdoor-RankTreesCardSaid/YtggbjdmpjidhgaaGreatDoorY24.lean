/- how many forests any symbols have: the program's Of, walked. -/
import Derived.Test.YtggbjdmpjidhgaaGreatDoorY20
import Derived.Test.YtggbjdmpjidhgaaGreatDoorY21
set_option linter.all false
set_option maxHeartbeats 1500000
set_option maxRecDepth 100000
namespace Go.Proofs.YtggbjdmpjidhgaaGreatDoor
open Go.RowKit Go.Proofs.Tryz
theorem Zus(h:GH)(G:Gr)(n:Int)(w:World)(hg:Yf w h G)(z:∀t∈G.terms,t.name.size<=maxLen)(ak:Q2 w)(h1:h.n1<=100)(h2:h.n2<=100)(h3:h.n3<=100):
 Calls prog 19 #[GV h G.start,.int .i64 n] w (Xr w (Z2 G n)):=by
 obtain⟨a1,n1,c1,a2,n2,c2,a3,n3,c3⟩:=h;simp only[] at h1 h2 h3;have Hg:=LH hg;have N:=LH z;have az:=LH ak;have O:=Zy w (.cells #[.slice a1 n1 c1,.slice a2 n2 c2,.slice a3 n3 c3,.int .i64 G.start] 26);have U:=Y1.new w 26 ⟨a1,n1,c1,a2,n2,c2,a3,n3,c3⟩ G.start;clear hg z ak;go_enter func19,ntmps19;have⟨z5,z0,z1,z2,z3⟩:=U;simp only[] at z0 z1 z2 z3;go_upto_region 1 with fail;generalize w.alloc (.cells #[.slice a1 n1 c1,.slice a2 n2 c2,.slice a3 n3 c3,.int .i64 G.start] 26)=W0 at *;have b:=LH (J4 ⟨a1,n1,c1,a2,n2,c2,a3,n3,c3⟩ G W0 (Hg.below O) N (by simp only[];omega) (by simp only[];omega));have F:=LH O;have a0:=LH U;have k:(G.right=false\/n<0\/10<n)->Z2 G n=([],1):=λhh=>by unfold Z2;rw[if_pos hh]
 have M:Hid (∀w' g,Below w w w'->Z2 G n=([],g)->Xr w (Z2 G n) (.returned (.tuple #[.slice none 0 0,.int .i64 (g:Int)])) w'):=LH λw' g hb he=>by rw[he];exact⟨none,0,rfl,Zq.nil _ _ _ _ AA,hb⟩
 clear O U;cases f:G.right
 case false =>
  have I:=LH (k (.inl f));rw[f] at b;clear k;go_wp2_with (go_at_call 56;refine b.out.mono ?_;rintro e w6⟨rfl,d⟩);go_ret2;exact M _ 1 (Zz F d) I
 rw[f] at b;by_cases V:0<=n/\n<=10
 case neg =>
  have I:=LH (k (by rcases (AA:n<0\/10<n) with h | h;exact .inr (.inl h);exact .inr (.inr h)));have l:(decide (0<=n)&&decide (n<=10))=false:=by rw[Bool.and_eq_false_iff,BA,BA];omega
  have a:=λX=>Ld n X;rw[l] at a;have E:=LH a;clear k l a V;go_wp2_with (first
   | (go_at_call 56;refine b.out.mono ?_;rintro e w6⟨rfl,d⟩)
   | (go_at_call 43;refine (E.out _).mono ?_;rintro e w7⟨rfl,rfl⟩))
  go_ret2;exact M _ 1 (Zz F d) I
 have be:¬n<0:=AA
 have bf:¬10<n:=AA
 have l:(decide (0<=n)&&decide (n<=10))=true:=by rw[AS,BB,BB];exact V
 have a:=λX=>Ld n X;rw[l] at a;have E:=LH a;clear l a V;have Hr:=LH f;have ap:Z2 G n=if Xp G=false then ([],0) else Wi (Zi G) [-1-(Zi G).start] n:=by
  unfold Z2;rw[if_neg];rintro (h | h | h)
  ·rw[f] at h;cases h
  ·exact be h
  exact bf h
 have L:=LH ap;clear k ap f;go_wp2_with (first
  | (go_at_call 56
     refine b.out.mono ?_;rintro e W1⟨rfl,S⟩;obtain⟨y5,Y,Z,y2,y3⟩:=a0.below S;simp only[] at Y Z y2 y3)
  | (go_at_call 43;refine (E.out _).mono ?_;rintro e w7⟨rfl,rfl⟩))
 have P:=Zz F S;clear b z0 z1 z2 z3 z5 S;have r:=Zuf ⟨a1,n1,c1,a2,n2,c2,a3,n3,c3⟩ G W1 (Hg.below P) N h1 h2 h3;unfold Dh at r;refine r.mono ?_;rintro e W3⟨T,⟨ar,g,bc,rfl⟩ | ⟨m,h',Ak,nk,ck,rfl,an,m1,m2,m3⟩⟩
 ·have j:=Zz P T;have bq:(g != 0)=true:=by rw[BM];exact bc
  have J:Hid (Z2 G n=([],0)):=LH (by rw[L,if_pos ar]);clear r ar Y Z y2 y3 y5;go_wp2_with fail;go_ret2;exact M _ 0 (j.trans ((Zy W3 _).mono j.size)) J
 have j:=Zz P T;have W:G.right=true/\(Zt G).getD G.start.toNat false=true:=by unfold Xp at m;rw[AS] at m;exact m
 have ai:=Ju W.1 W.2;have J:Hid (Z2 G n=Wi (Zi G) [-1-(Zi G).start] n):=LH (by rw[L,if_neg (by rw[m];simp)]);obtain⟨o,A,u,p,B,v,q,C,x⟩:=h';have a5:Hid (∀t∈(Zi G).terms,t.name.size<=maxLen):=LH (by rw[Db];exact N);generalize Zi G=H at *;obtain⟨bu,bv,bw⟩:=Zsk ai;clear r Y Z y2 y3 y5 m W ai L;simp only[] at m1 m2 m3;have R:=Zy W3 (.cells #[.slice o A u,.slice p B v,.slice q C x,.int .i64 H.start] 26);have al:=Y1.new W3 26 ⟨o,A,u,p,B,v,q,C,x⟩ H.start;have ah:=Zz j R;have ao:=an.below R;go_upto_region 4 with fail;generalize W3.alloc (.cells #[.slice o A u,.slice p B v,.slice q C x,.int .i64 H.start] 26)=c at *;generalize W3.heap.size=gH at *;have a4:=LH ao;have ad:=LH ah;have⟨x5,x0,x1,x2,x3⟩:=al;simp only[] at x0 x1 x2 x3;have br:IntKind.i64.wrap (-1-H.start)=-1-H.start:=BS _ AA;have y:=Zy c (.cells #[.int .i64 (-1-H.start)] 3);have hL:Za .i64 (c.alloc (.cells #[.int .i64 (-1-H.start)] 3)) (some ⟨c,0,none⟩) 1 1 [-1-H.start]:=N6 c 3 (ints .i64 [-1-H.start]) 1 _ rfl rfl AC;have D:=LH (tr_cOf ⟨o,A,u,p,B,v,q,C,x⟩ H (some ⟨c,0,none⟩) 1 [-1-H.start] n (c.alloc (.cells #[.int .i64 (-1-H.start)] 3)) (a4.below y) a5 (az.below (Zz ad y)) (by simp only[];omega) (by simp only[];omega) (by simp only[];omega) hL (λs z=>by rw[BU.1 z];unfold U3;omega));have aw:=LH (Zz ad y);simp only[AZ,DR,BH] at D;clear hL y ao ah R an j T al;go_wp2_with fail;refine D.out.mono ?_;rintro e W6⟨A6,c6,rfl,aq,d⟩;have ay:=LH aq;have ax:=LH (Zz aw d);clear aq d D;generalize Wi H [-1-H.start] n=bt at *;go_wp2_with fail;go_ret2;rw[J];exact⟨A6,c6,rfl,ay,ax⟩
theorem rf_Is(h:GH)(G:Gr)(w:World)(D:Yf w h G)(h1:h.n1<=100)(y:h.n2<=100)(z:h.n3<=100):
 Calls prog 27 #[GV h G.start] w λe w'=>e = .returned (.bool (Q9 G))/\Below w w w':=by
 obtain⟨a1,n1,c1,a2,n2,c2,a3,n3,c3⟩:=h;simp only[] at h1 y z;have v:=LH D;have t:=Zy w (.cells #[.slice a1 n1 c1,.slice a2 n2 c2,.slice a3 n3 c3,.int .i64 G.start] 26);have o:=Y1.new w 26 ⟨a1,n1,c1,a2,n2,c2,a3,n3,c3⟩ G.start;clear D;go_enter func27,ntmps27;have⟨z5,z0,z1,z2,z3⟩:=o;simp only[] at z0 z1 z2 z3;go_wp2_with fail;generalize w.alloc (.cells #[.slice a1 n1 c1,.slice a2 n2 c2,.slice a3 n3 c3,.int .i64 G.start] 26)=O at *;have g:=Zuv ⟨a1,n1,c1,a2,n2,c2,a3,n3,c3⟩ G O (v.out.below t) h1 y z;unfold Dh at g;(with_reducible refine g.mono ?_);rintro e a⟨n,⟨I,R,U,rfl⟩ | ⟨J,S,Y,nk,Z,rfl,E,V,W,X⟩⟩
 ·have b:=Zz t n;have p:Q9 G=false:=by unfold Q9;rw[I];rfl
  have ab:(R==0)=false:=by rw[AQ];exact U
  clear g I z0 z1 z2 z3 z5 o;go_wp2_with fail;go_ret;exact⟨by rw[p];rfl,b.trans ((Zy a _).mono b.size)⟩
 have b:=Zz t n;have A:=o.below n;obtain⟨c,q,j,d,r,k,f,s,l⟩:=S;have p:Q9 G=eqG G (Zi G):=by unfold Q9;rw[J];rfl
 generalize Zi G=H at *;clear g z0 z1 z2 z3 z5 o J;have m:=Zy a (.cells #[.slice c q j,.slice d r k,.slice f s l,.int .i64 H.start] 26);have C:=Y1.new a 26 ⟨c,q,j,d,r,k,f,s,l⟩ H.start;have B:=A.below m;have u:=Zz b m;have F:=E.below m;go_upto_region 2 with fail;generalize a.alloc (.cells #[.slice c q j,.slice d r k,.slice f s l,.int .i64 H.start] 26)=P at *;generalize a.heap.size=gH at *;have x:=rf_Same9 ⟨a1,n1,c1,a2,n2,c2,a3,n3,c3⟩ ⟨c,q,j,d,r,k,f,s,l⟩ G H P (v.out.below u) F;have L:=LH x;have N:=LH p;have M:=LH u;have⟨y5,y0,y1,y2,y3⟩:=B;simp only[] at y0 y1 y2 y3;have⟨x5,x0,x1,x2,x3⟩:=C;simp only[] at x0 x1 x2 x3;clear x p u B C F m n b A E V W X;go_wp2_with (go_at_call 24;(with_reducible refine L.out.mono ?_);rintro e w6⟨rfl,T⟩);go_ret;exact⟨by rw[N.out];rfl,Zz M.out T⟩
theorem rf_Of22(h:GH)(G:Gr)(Al:Option Addr)(J:Nat)(l:List Int)(n:Int)(w:World)(A:Yf w h G)(h1:h.n1<=100)(h2:h.n2<=100)(h3:h.n3<=100)(T:Za .i64 w Al l.length J l)(hi:∀s∈l,U3 s):
 Calls prog 16 #[GV h G.start,.slice Al l.length J,.int .i64 n] w (Xr w (Wi G l n)):=by
 obtain⟨a1,n1,c1,a2,n2,c2,a3,n3,c3⟩:=h;have e1:G.terms.length=n1:=A.terms.len;have e2:G.nons.length=n2:=A.nons.len;simp only[] at h1 h2 h3;have b2:=T.cap;have z:=LH A;have Hl:=LH T;have Hi:=LH hi;have L:=Zy w (.cells #[.slice a1 n1 c1,.slice a2 n2 c2,.slice a3 n3 c3,.int .i64 G.start] 26);have S:=Y1.new w 26 ⟨a1,n1,c1,a2,n2,c2,a3,n3,c3⟩ G.start;clear A T hi;go_enter func16,ntmps16;have⟨z5,z0,z1,z2,z3⟩:=S;simp only[] at z0 z1 z2 z3;go_upto_region 1 with fail;generalize w.alloc (.cells #[.slice a1 n1 c1,.slice a2 n2 c2,.slice a3 n3 c3,.int .i64 G.start] 26)=W0 at *;have g:=LH (rf_Is ⟨a1,n1,c1,a2,n2,c2,a3,n3,c3⟩ G W0 (z.out.below L) h1 h2 h3);have r:=LH L;have a8:=LH S;have c:(Q9 G=false\/6<l.length\/n<0\/10<n\/(∃s∈l,G.has s=false))->Wi G l n=([],1):=λd=>by unfold Wi;rw[if_pos d]
 have t:Hid (∀w',Below w w w'->Wi G l n=([],1)->Xr w (Wi G l n) (.returned (.tuple #[.slice none 0 0,.int .i64 1])) w'):=LH λw' hb he=>by rw[he];exact⟨none,0,rfl,Zq.nil _ _ _ _ AA,hb⟩
 clear L S;cases v:Q9 G
 case false =>
  have f:=LH (c (.inl v));rw[v] at g;clear c;go_wp2_with (go_at_call 27;(with_reducible refine g.out.mono ?_);rintro e V⟨rfl,b⟩);go_ret2;exact t.out _ (Zz r.out b) f.out
 rw[v] at g;by_cases bq:6<l.length
 case pos =>
  have f:=LH (c (.inr (.inl bq)));have i1:(6:Int)<(l.length:Int):=AA
  clear c;go_wp2_with (go_at_call 27;(with_reducible refine g.out.mono ?_);rintro e V⟨rfl,b⟩);go_ret2;exact t.out _ (Zz r.out b) f.out
 have i1:¬((6:Int)<(l.length:Int)):=AA
 by_cases ar:n<0
 case pos =>
  have f:=LH (c (.inr (.inr (.inl ar))));clear c;go_wp2_with (go_at_call 27;(with_reducible refine g.out.mono ?_);rintro e V⟨rfl,b⟩);go_ret2;exact t.out _ (Zz r.out b) f.out
 by_cases au:10<n
 case pos =>
  have f:=LH (c (.inr (.inr (.inr (.inl au)))));clear c;go_wp2_with (go_at_call 27;(with_reducible refine g.out.mono ?_);rintro e V⟨rfl,b⟩);go_ret2;exact t.out _ (Zz r.out b) f.out
 obtain⟨m,rfl⟩:∃m:Nat,n=(m:Int):=⟨n.toNat,AA⟩;have hm:m<=10:=AA
 have i2:¬((m:Int)<0):=AA
 have i3:¬(10<(m:Int)):=AA
 have a7:=LH λs (a:s∈l) (d:G.has s=false)=>c (.inr (.inr (.inr (.inr ⟨s,a,d⟩))));have Hr:=LH v;clear c ar au v;go_wp2_with (go_at_call 27;(with_reducible refine g.out.mono ?_);rintro e W1⟨rfl,P⟩);have y:=LH (Zz r.out P);have ab:=LH (a8.out.below P);clear P g z0 z1 z2 z3 z5 i1 i2 i3;go_wp2_with fail;go_loopw [8] (λi wr=>∃q:Nat,q<=l.length/\i = .int .i64 (q:Int)/\Hid (∀j,j<q->∀s,l[j]? = some s->G.has s=true)/\Hid (Below W1 W1 wr)) (λi _=>l.length-(intOf i).toNat)
 case atStart=>exact⟨0,AV _,rfl,LH λj u=>absurd u (Nat.not_lt_zero j),LH (AL _ _)⟩
 obtain⟨q,hq,rfl,I,k⟩:=hrel;have⟨y5,y0,y1,y2,y3⟩:=ab.out.below k.out;simp only[] at y0 y1 y2 y3;by_cases br:q<l.length
 case pos =>
  obtain⟨lb,lo,E,rfl,b3,ag,b0⟩:=(Hl.out.below (Zz y.out k.out)).get br;have B:=AM ag.out;have bc:=Yt wr;have CH:=LH λx:Ext wr=>rf_has ⟨a1,n1,c1,a2,n2,c2,a3,n3,c3⟩ G E (bl wr x) ((z.out.below (Zz y.out k.out)).below (Zr wr x)) (Hi.out E B) (by simp only[];omega) (by simp only[];omega);cases d:G.has E
  case false =>
   have f:=LH (a7.out E B d);rw[d] at CH;clear B d;go_wp2_with fail;refine Zs AB AB ?_;repeat (go_big_quiet_step ((go_at_call 51;with_reducible exact Ve (CH.out _))))
   refine BK ?_;rintro _⟨x,rfl⟩;go_wp2_with fail;go_ret2;exact t.out _ (Zz (Zz y.out k.out) (Zr wr x)) f.out
  have be:Hid (∀j,j<q+1->∀s,l[j]? = some s->G.has s=true):=LH λj u s a=>by
   rcases (AA:j<q\/j=q) with h | rfl
   ·exact I.out j h s a
   rw[ag.out] at a;rw[<-BI a];exact d
  rw[d] at CH;clear B d;go_wp2_with fail;refine Zs AB AB ?_;repeat (go_big_quiet_step ((go_at_call 51;with_reducible exact Ve (CH.out _))))
  refine BK ?_;rintro _⟨x,rfl⟩;go_wp2_with fail;go_roundw
  case rel=>exact⟨q+1,AA,AF,be,LH (k.out.trans ((Zr wr x).mono k.out.size))⟩
  simp[intOf];omega
 obtain rfl:q=l.length:=AA
 have O:∀s∈l,G.has s=true:=λs a=>by
  obtain⟨j,u⟩:=BT a;exact I.out j (AO.1 u).1 s u
 have o:Wi G l (m:Int)=if Vh G≠0 then ([],10) else Xm (Zx (Zv G) l m):=by
  unfold Wi;rw[if_neg]
  ·rfl
  rintro (h | h | h | h | ⟨s,a,h⟩)
  ·rw[Hr.out] at h;cases h
  ·omega
  ·omega
  ·omega
  rw[O s a] at h;cases h
 have Y:=LH (Zz y.out k.out);have aa:=LH O;have ae:=LH o;clear I O o;go_wp2_with fail;(with_reducible refine (Zvc ⟨a1,n1,c1,a2,n2,c2,a3,n3,c3⟩ G wr (z.out.below Y.out) (by simp only[];omega) (by simp only[];omega) (by simp only[];omega)).mono ?_);rintro e W3⟨R,rfl⟩;have F:=LH (Zz Y.out R);have a9:=LH ((ab.out.below k.out).below R);have b4:=Ztq G;have o:=ae.out;clear y0 y1 y2 y3 y5 R ae;by_cases p:Vh G=0
 case neg =>
  have H:=LH o;have i4:(((Vh G:Nat):Int) != 0)=true:=by rw[BM];omega
  have Hc:=LH p;clear o p;go_wp2_with fail;go_ret2;rw[H.out,if_pos Hc.out];exact⟨none,0,rfl,Zq.nil _ _ _ _ AA,F.out⟩
 have i4:(((Vh G:Nat):Int) != 0)=false:=by rw[p];rfl
 rw[if_neg (by rw[p];simp)] at o;obtain⟨C,aq⟩:=Zzn.1 Hr.out;have D:G.right=true/\(Zt G).getD G.start.toNat false=true:=by unfold Xp at C;rw[AS] at C;exact C
 obtain⟨M,ao,hO⟩:=U7 D.1 D.2 aq p;have aw:(N5 G).1=(Y4 (Yz G) (Qm G) G.nons.length G.nons.length).1:=by unfold N5;rw[D.1,ao];rfl
 have H:=LH o;have HP:=LH M;have X:=LH (Ztz ⟨a1,n1,c1,a2,n2,c2,a3,n3,c3⟩ G m W3 (z.out.below F.out) (by simp only[];omega) (by simp only[];omega) (by simp only[];omega) M (by rw[aw];exact hO) AA);clear o C aq D M ao hO aw p;generalize Vh G=cy at *;have⟨y5,y0,y1,y2,y3⟩:=a9.out;simp only[] at y0 y1 y2 y3;go_wp2_with fail;(with_reducible refine X.out.mono ?_);rintro e W4⟨am,A4,c4,tab,rfl,N,ax⟩;have Z:=LH (Zz F.out am);rw[e2] at N;have an:∀s∈l,-(n2:Int)<=s/\s<=1000:=λs a=>by
  have:=H7 (aa.out s a);rw[e1,e2] at this;omega
 have ap:=told_forest ax (l:=l) (λs a h0=>by
  have:=H7 (aa.out s a);unfold Zp;omega) (AJ m)
 have W:=LH (Kd A4 (m+1) c4 n2 tab Al J l m W4 N (Em m) AA AA (Hl.out.below Z.out) AA an);have bb:=LH ap;clear X am N ax an ap y0 y1 y2 y3 y5;go_wp2_with fail;(with_reducible refine W.out.mono ?_);rintro e W5⟨bo,A5,k5,c5,b5,rfl,U⟩;have a4:=LH (Zz Z.out bo);rw[bb.out] at U;go_wp2_with fail;(with_reducible refine (rf_told A5 k5 c5 b5 _ W5 U).mono ?_);rintro e W6⟨A6,c6,rfl,av,b⟩;have a6:=LH av;have a5:=LH (Zz a4.out b);clear U av b W;generalize Xm (Zx (Zv G) l m)=b9 at *;go_wp2_with fail;go_ret2;rw[H.out];exact⟨A6,c6,rfl,a6.out,a5.out⟩
theorem Lj(h:GH)(G:Gr)(n:Int)(w:World)(hg:Yf w h G)(h1:h.n1<=100)(W:h.n2<=100)(X:h.n3<=100):
 Calls prog 20 #[GV h G.start,.int .i64 n] w (Xr w (Z2 G n)):=by
 obtain⟨a1,n1,c1,a2,n2,c2,a3,n3,c3⟩:=h;simp only[] at h1 W X;have V:=LH hg;have F:=Zy w (.cells #[.slice a1 n1 c1,.slice a2 n2 c2,.slice a3 n3 c3,.int .i64 G.start] 26);have N:=Y1.new w 26 ⟨a1,n1,c1,a2,n2,c2,a3,n3,c3⟩ G.start;clear hg;go_enter func20,ntmps20;have⟨z5,z0,z1,z2,z3⟩:=N;simp only[] at z0 z1 z2 z3;go_upto_region 1 with fail;generalize w.alloc (.cells #[.slice a1 n1 c1,.slice a2 n2 c2,.slice a3 n3 c3,.int .i64 G.start] 26)=W0 at *;have b:=LH (Jr ⟨a1,n1,c1,a2,n2,c2,a3,n3,c3⟩ G W0 (V.below F) (by simp only[];omega) (by simp only[];omega) (by simp only[];omega));have o:=LH F;have au:=LH N;have c:(G.right=false\/n<0\/10<n)->Z2 G n=([],1):=λhh=>by unfold Z2;rw[if_pos hh]
 have p:Hid (∀w' k,Below w w w'->Z2 G n=([],k)->Xr w (Z2 G n) (.returned (.tuple #[.slice none 0 0,.int .i64 (k:Int)])) w'):=LH λw' k hb he=>by rw[he];exact⟨none,0,rfl,Zq.nil _ _ _ _ AA,hb⟩
 clear F N;cases f:G.right
 case false =>
  have g:=LH (c (.inl f));rw[f] at b;clear c;go_wp2_with (go_at_call 29;refine b.out.mono ?_;rintro e w6⟨rfl,a⟩);go_ret2;exact p _ 1 (Zz o a) g
 rw[f] at b;by_cases ah:n<0
 case pos =>
  have g:=LH (c (.inr (.inl ah)));clear c;go_wp2_with (go_at_call 29;refine b.out.mono ?_;rintro e w6⟨rfl,a⟩);go_ret2;exact p _ 1 (Zz o a) g
 by_cases ai:10<n
 case pos =>
  have g:=LH (c (.inr (.inr ai)));clear c;go_wp2_with (go_at_call 29;refine b.out.mono ?_;rintro e w6⟨rfl,a⟩);go_ret2;exact p _ 1 (Zz o a) g
 have Hr:=LH f;have ag:Z2 G n=if Xp G=false then ([],0) else Wi (Zi G) [-1-(Zi G).start] n:=by
  unfold Z2;rw[if_neg];rintro (h | h | h)
  ·rw[f] at h;cases h
  ·exact ah h
  exact ai h
 have E:=LH ag;clear c ag f;go_wp2_with (
  go_at_call 29;refine b.out.mono ?_;rintro e W1⟨rfl,L⟩;obtain⟨y5,R,S,T,U⟩:=au.below L;simp only[] at R S T U)
 have I:=Zz o L;clear b z0 z1 z2 z3 z5 L;have u:=Zuv ⟨a1,n1,c1,a2,n2,c2,a3,n3,c3⟩ G W1 (V.below I) h1 W X;unfold Dh at u;refine u.mono ?_;rintro e j⟨M,⟨ak,k,a5,rfl⟩ | ⟨m,h',Ak,nk,ck,rfl,ae,m1,m2,m3⟩⟩
 ·have l:=Zz I M;have bg:(k != 0)=true:=by rw[BM];exact a5
  have D:Hid (Z2 G n=([],0)):=LH (by rw[E,if_pos ak]);clear u ak R S T U y5;go_wp2_with fail;go_ret2;exact p _ 0 (l.trans ((Zy j _).mono l.size)) D
 have l:=Zz I M;have P:G.right=true/\(Zt G).getD G.start.toNat false=true:=by unfold Xp at m;rw[AS] at m;exact m
 have Z:=Ju P.1 P.2;have D:Hid (Z2 G n=Wi (Zi G) [-1-(Zi G).start] n):=LH (by rw[E,if_neg (by rw[m];simp)]);obtain⟨q,z,v,r,A,x,t,B,y⟩:=h';generalize Zi G=H at *;obtain⟨bk,bl,bm⟩:=Zsk Z;clear u R S T U y5 m P Z E;simp only[] at m1 m2 m3;have J:=Zy j (.cells #[.slice q z v,.slice r A x,.slice t B y,.int .i64 H.start] 26);have ab:=Y1.new j 26 ⟨q,z,v,r,A,x,t,B,y⟩ H.start;have Y:=Zz l J;have af:=ae.below J;go_upto_region 4 with fail;generalize j.alloc (.cells #[.slice q z v,.slice r A x,.slice t B y,.int .i64 H.start] 26)=d at *;generalize j.heap.size=gH at *;have av:=LH af;have ao:=LH Y;have⟨x5,x0,x1,x2,x3⟩:=ab;simp only[] at x0 x1 x2 x3;have bh:IntKind.i64.wrap (-1-H.start)=-1-H.start:=BS _ AA;have O:=Zy d (.cells #[.int .i64 (-1-H.start)] 3);have hL:Za .i64 (d.alloc (.cells #[.int .i64 (-1-H.start)] 3)) (some ⟨d,0,none⟩) 1 1 [-1-H.start]:=N6 d 3 (ints .i64 [-1-H.start]) 1 _ rfl rfl AC;have C:=LH (rf_Of22 ⟨q,z,v,r,A,x,t,B,y⟩ H (some ⟨d,0,none⟩) 1 [-1-H.start] n (d.alloc (.cells #[.int .i64 (-1-H.start)] 3)) (av.below O) (by simp only[];omega) (by simp only[];omega) (by simp only[];omega) hL (λs hs=>by rw[BU.1 hs];unfold U3;omega));have ap:=LH (Zz ao O);simp only[AZ,DR,BH] at C;clear hL O af Y J ae l M ab;go_wp2_with fail;refine C.out.mono ?_;rintro e W6⟨A6,c6,rfl,aj,a⟩;have ar:=LH aj;have aq:=LH (Zz ap a);clear aj a C;generalize Wi H [-1-H.start] n=bj at *;go_wp2_with fail;go_ret2;rw[D];exact⟨A6,c6,rfl,ar,aq⟩
