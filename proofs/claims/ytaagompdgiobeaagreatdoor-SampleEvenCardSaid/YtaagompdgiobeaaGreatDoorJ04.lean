/- the reading of a grammar, its counts, and what is drawn: lemmas -/
import Derived.Test.YtaagompdgiobeaaGreatDoorJ03
set_option linter.all false
set_option maxHeartbeats 1500000
set_option maxRecDepth 100000
namespace Go.Proofs.YtaagompdgiobeaaGreatDoor
open Go.RowKit Go.Proofs.Tryz
open Go.Value renaming slice→K,slice→aK,int→aI,bool→aB,pointer→aP,string→aS,agg→aG open Go.IntKind renaming i64→aJ open Go.Obj renaming cells→aC open Go.Ending renaming returned→aR open List renaming length→Q,length→aQ open Option renaming none→aN
section
variable{g i:Nat}{r:List (Value × Nat)}{s:Int}{ops:Array Oper}{rest:List Oper}{v:Value}{ps:List MemPlace}{S:Nat->Prop}{ts:List ((Int × Nat) × Nat)}{d:List ((Nat × Nat × Nat) × Nat)}
def Zsq(h:GH)(G:Gr)(b:Bool)(w:World)(l:Yf w h G)(X:h.n1<=100)(Y:h.n2<=100)(Z:h.n3<=100):
 Calls prog 117 #[GV h G.zt,aB b] w λe w'=>Below w w w' /\
  ((G.rt=false/\e = aR (K aN 0 0))\/(G.rt=true/\∃g,w.heap.size<=g/\e = aR (K (some ⟨g,0,aN⟩) h.n2 h.n2)/\Z8 w' g (U5 b G))):=by
 obtain⟨a1,n1,c1,a2,n2,c2,a3,n3,c3⟩:=h;have e1:(Q G.T)=n1:=l.T.len;have z:(Q G.O)=n2:=l.O.len;have e3:(Q G.U)=n3:=l.U.len;have k3:=l.U.cap;have k2:=l.O.cap;simp only[] at X Y Z k3 k2;have R:=LH l;have A:=Zy w (aC #[K a1 n1 c1,K a2 n2 c2,K a3 n3 c3,aI aJ G.zt] 26);have E:=Y1.new w 26 ⟨a1,n1,c1,a2,n2,c2,a3,n3,c3⟩ G.zt;have a8:=Nt n2 AA;have ay:=Blk.new w 26 #[K a1 n1 c1,K a2 n2 c2,K a3 n3 c3,aI aJ G.zt];go_enter func117,ntmps117;have⟨z5,z0,z1,z2,z3⟩:=E;simp only[] at z0 z1 z2 z3;go_wp2_with fail;generalize w.alloc (aC #[K a1 n1 c1,K a2 n2 c2,K a3 n3 c3,aI aJ G.zt] 26)=V at *;have W:=Jr ⟨a1,n1,c1,a2,n2,c2,a3,n3,c3⟩ G V (l.below A) (by simp only[];omega) (by simp only[];omega) (by simp only[];omega);refine W.mono ?_;rintro e a⟨rfl,D⟩;have n:=Zz A D;have s:=E.below D;have⟨y5,y0,y1,y2,y3⟩:=s;simp only[] at y0 y1 y2 y3;rcases p:G.rt with _ | _
 ·go_wp2_with fail;go_ret;exact⟨n,.inl ⟨p,rfl⟩⟩
 have t:=Gr.fits p;have U:=LH p;have P:=LH t;have m:=λAr cr (r:Rul) (N:List Bool) w' (hr:r∈G.U) (o:Za .i64 w' Ar (Q r.rt) cr r.rt) (hN:Z8 w' a N) (hl:(Q N)=n2)=>rf_all Ar (Q r.rt) cr a n2 r.rt N b w' o hN hl AA (by have:=t.symB hr;rwa [z] at this);have CA:=LH m;clear p t m;go_wp2_with fail;have q:=Z8.new a (List.replicate n2 false);have B:=Zy a (aC (Qk (List.replicate n2 false)).toArray 4);generalize a.alloc (aC (Qk (List.replicate n2 false)).toArray 4)=W2 at *;have ak:=q.lt;clear y0 y1 y2 y3 z0 z1 z2 z3;go_loopw [6,7] (λi _ wr=>∃(k:Nat),k<=n2/\i = aI aJ (k:Int)/\Below a a wr/\Z8 wr a (Z3 (Xs (Xo b) G.U) k (List.replicate n2 false))) (λi _ _=>n2-(intOf i).toNat)
 case atStart=>exact⟨0,AV _,rfl,B,q⟩
 clear q B ak;obtain⟨k,hk,rfl,d,c⟩:=hrel;have⟨y5,y0,y1,y2,y3⟩:=s.below d;simp only[] at y0 y1 y2 y3;by_cases a7:k<n2
 ·go_wp2_with fail;clear y0 y1 y2 y3;have ad:(Z3 (Xs (Xo b) G.U) k (List.replicate n2 false)).length=n2:=by rw[Ad];simp
  have S:Hid (Xs (Xo b) G.U (Z3 (Xs (Xo b) G.U) k (List.replicate n2 false))=Z3 (Xs (Xo b) G.U) (k+1) (List.replicate n2 false)):=rfl;generalize Z3 (Xs (Xo b) G.U) k (List.replicate n2 false)=N at *;go_loopw [7] (λi M=>∃(j:Nat),j<=n3/\i = aI aJ (j:Int)/\Below a a M/\Z8 M a (Xs (Xo b) (G.U.take j) N)) (λi _=>n3-(intOf i).toNat)
  case atStart=>exact⟨0,AV _,rfl,d,by simpa [Xs] using c⟩
  clear d c;obtain⟨j,hj,rfl,d,c⟩:=hrel;have⟨y5,y0,y1,y2,y3⟩:=s.below d;simp only[] at y0 y1 y2 y3;by_cases ag:j<n3
  ·obtain⟨bb,a9,r,Ar,cr,rfl,hb,y,L,q1,q2,o⟩:=R.U.get ag;have C:=Zz n d;rw[<-C.cell (by exact hb)] at L q1 q2;have H:=AM y;have ab:(Xs (Xo b) (G.U.take j) N).length=n2:=by rw[Zvy];exact ad
   have I:Xs (Xo b) (G.U.take (j+1)) N=Qa (Xo b) r (Xs (Xo b) (G.U.take j) N):=by rw[Ya y,passN_snoc]
   have ai:a.heap.size<wr.heap.size:=c.lt;have a0:∀i,wr.frozen? ⟨a,i,aN⟩=false:=λi=>Blk.frozen c i;have m:=CA Ar cr r _ wr H (o.below C) c ab;obtain⟨l1,l2⟩:=P.L r H;obtain⟨f,F⟩:∃f:Nat,r.L=(f:Int):=⟨r.L.toNat,AA⟩;have J:Xs (Xo b) (G.U.take (j+1)) N=if Xj b (Xs (Xo b) (G.U.take j) N) r.rt then (Xs (Xo b) (G.U.take j) N).set f true else Xs (Xo b) (G.U.take j) N:=by
    rw[I];unfold Qa Xo;rw[show r.L.toNat=f by omega]
   rw[F] at L;have a5:f<n2:=AA
   have T:=LH (c.put f true);have x:=LH J;have O:=LH c;have v:=LH d;have az:=c.at (i:=f) AA;generalize (Xs (Xo b) (G.U.take j) N).getD f false=ba at *;generalize Xj b (Xs (Xo b) (G.U.take j) N) r.rt=tst at *;have u:=LH m;clear m I J c o d F l1 l2;rcases (by cases tst <;> simp:tst=false\/tst=true) with rfl | rfl
   ·go_wp2_with (go_at_call 58;refine u.out.mono ?_;rintro e w3⟨rfl,rfl⟩);go_roundw
    case rel=>exact⟨j+1,AA,AF,v,by rw[x];exact O⟩
    simp[intOf];omega
   go_wp2_with (go_at_call 58;refine u.out.mono ?_;rintro e w3⟨rfl,rfl⟩);go_roundw
   case rel=>exact⟨j+1,AA,AF,v.trans (Zn (Zd _ _ _ _) (DS ai) (AJ _)),by rw[x];exact T⟩
   simp[intOf];omega
  obtain rfl:j=n3:=AA
  rw[AQ AA,S] at c;go_wp2_with fail;go_roundw
  case rel=>exact⟨k+1,AA,AF,d,c⟩
  simp[intOf];omega
 obtain rfl:k=n2:=AA
 have af:U5 b G=Z3 (Xs (Xo b) G.U) k (List.replicate k false):=by unfold U5;rw[z]
 rw[<-af] at c;go_wp2_with fail;go_ret;exact⟨Zz n d,.inr ⟨U,a.heap.size,n.size,rfl,c⟩⟩
def rf_Nullable(h:GH)(G:Gr)(w:World)(n:Yf w h G)(f:h.n1<=100)(j:h.n2<=100)(k:h.n3<=100):
 Calls prog 172 #[GV h G.zt] w λe w'=>Below w w w' /\
  ((G.rt=false/\e = aR (K aN 0 0))\/(G.rt=true/\∃g,w.heap.size<=g/\e = aR (K (some ⟨g,0,aN⟩) h.n2 h.n2)/\Z8 w' g (Zj G))):=by
 obtain⟨a1,n1,c1,a2,n2,c2,a3,n3,c3⟩:=h;simp only[] at f j k;have a:=Zy w (aC #[K a1 n1 c1,K a2 n2 c2,K a3 n3 c3,aI aJ G.zt] 26);have m:=Y1.new w 26 ⟨a1,n1,c1,a2,n2,c2,a3,n3,c3⟩ G.zt;go_enter func172,ntmps172;have⟨z5,z0,z1,z2,z3⟩:=m;simp only[] at z0 z1 z2 z3;go_wp2_with fail;generalize w.alloc (aC #[K a1 n1 c1,K a2 n2 c2,K a3 n3 c3,aI aJ G.zt] 26)=d at *;(refine (Zsq ⟨a1,n1,c1,a2,n2,c2,a3,n3,c3⟩ G false d (n.below a) (by simp only[];omega) (by simp only[];omega) (by simp only[];omega)).mono ?_);rintro e p⟨c,⟨b,rfl⟩ | ⟨b,g,o,rfl,l⟩⟩
 ·go_wp2_with fail;go_ret;exact⟨Zz a c,.inl ⟨b,rfl⟩⟩
 go_wp2_with fail;go_ret;exact⟨Zz a c,.inr ⟨b,g,BC a.size o,rfl,l⟩⟩
def tr_bare(left:Int)(Ar:Option Addr)(cr:Nat)(ss:List Int)(a:Int)(w:World)(j:Za .i64 w Ar (Q ss) cr ss):
 Calls prog 203 #[aG #[aI aJ left,K Ar (Q ss) cr,aI aJ a]] w λe w'=>e = aR (aB (!ss.any λs=>decide (0<=s)))/\Below w w w':=by
 have c:=Zy w (aC #[aI aJ left,K Ar (Q ss) cr,aI aJ a] 60);have h:=Fl.new w 60 left Ar (Q ss) cr a;go_enter func203,ntmps203;have⟨z5,z0,z1,z2⟩:=h;go_wp2_with fail;generalize w.alloc (aC #[aI aJ left,K Ar (Q ss) cr,aI aJ a] 60)=b at *;have f:Zyw 220 #[] (aI aJ) b ss (λs=>decide (0<=s)):=λs _ w' _=>by
  show Calls prog 220 #[aI aJ s] w' _;exact (tr_bare1 s w').mono λe l d=>⟨d.1,by rw[<-d.2];exact AP _ _⟩
 refine (U1 Ar (Q ss) cr ss 220 #[] (λs=>decide (0<=s)) b enters_bare1 (j.below c) f).mono ?_;rintro e k⟨rfl,g⟩;go_wp2_with fail;go_ret;exact⟨rfl,Zz c g⟩
def Qt(h:GH)(G:Gr)(w:World)(n:Yf w h G)(f:h.n1<=100)(j:h.n2<=100)(k:h.n3<=100):
 Calls prog 56 #[GV h G.zt] w λe w'=>Below w w w' /\
  ((G.rt=false/\e = aR (K aN 0 0))\/(G.rt=true/\∃g,w.heap.size<=g/\e = aR (K (some ⟨g,0,aN⟩) h.n2 h.n2)/\Z8 w' g (Zt G))):=by
 obtain⟨a1,n1,c1,a2,n2,c2,a3,n3,c3⟩:=h;simp only[] at f j k;have a:=Zy w (aC #[K a1 n1 c1,K a2 n2 c2,K a3 n3 c3,aI aJ G.zt] 26);have m:=Y1.new w 26 ⟨a1,n1,c1,a2,n2,c2,a3,n3,c3⟩ G.zt;go_enter func56,ntmps56;have⟨z5,z0,z1,z2,z3⟩:=m;simp only[] at z0 z1 z2 z3;go_wp2_with fail;generalize w.alloc (aC #[K a1 n1 c1,K a2 n2 c2,K a3 n3 c3,aI aJ G.zt] 26)=d at *;(refine (Zsq ⟨a1,n1,c1,a2,n2,c2,a3,n3,c3⟩ G true d (n.below a) (by simp only[];omega) (by simp only[];omega) (by simp only[];omega)).mono ?_);rintro e p⟨c,⟨b,rfl⟩ | ⟨b,g,o,rfl,l⟩⟩
 ·go_wp2_with fail;go_ret;exact⟨Zz a c,.inl ⟨b,rfl⟩⟩
 go_wp2_with fail;go_ret;exact⟨Zz a c,.inr ⟨b,g,BC a.size o,rfl,l⟩⟩
def Vx(G:Gr):(Zt G).length=(Q G.O):=Qq true G
def Lw(h:GH)(G:Gr)(w:World)(x:Yf w h G)(h1:h.n1<=100)(h2:h.n2<=100)(h3:h.n3<=100):
 Calls prog 57 #[GV h G.zt] w λe w'=>Below w w w' /\
  ((G.rt=false/\e = aR (K aN 0 0))\/(G.rt=true/\∃g,w.heap.size<=g/\e = aR (K (some ⟨g,0,aN⟩) h.n2 h.n2)/\Z8 w' g (Z5 G))):=by
 obtain⟨a1,n1,c1,a2,n2,c2,a3,n3,c3⟩:=h;have y:(Q G.O)=n2:=x.O.len;have e3:(Q G.U)=n3:=x.U.len;have k3:=x.U.cap;have k2:=x.O.cap;simp only[] at h1 h2 h3 k3 k2;have Hg:=LH x;have a9:=Zy w (aC #[K a1 n1 c1,K a2 n2 c2,K a3 n3 c3,aI aJ G.zt] 26);have ak:=Y1.new w 26 ⟨a1,n1,c1,a2,n2,c2,a3,n3,c3⟩ G.zt;have cx:=Nt n2 AA;clear x;go_enter func57,ntmps57;have⟨z5,z0,z1,z2,z3⟩:=ak;simp only[] at z0 z1 z2 z3;go_wp2_with fail;generalize w.alloc (aC #[K a1 n1 c1,K a2 n2 c2,K a3 n3 c3,aI aJ G.zt] 26)=W0 at *;(with_reducible refine (Jr ⟨a1,n1,c1,a2,n2,c2,a3,n3,c3⟩ G W0 (Hg.out.below a9) (by simp only[];omega) (by simp only[];omega) (by simp only[];omega)).mono ?_);rintro e W1⟨rfl,bg⟩;have ai:=Zz a9 bg;have al:=ak.below bg;clear z0 z1 z2 z3 z5 ak;have⟨y5,y0,y1,y2,y3⟩:=al;simp only[] at y0 y1 y2 y3;rcases T:G.rt with _ | _
 ·go_wp2_with fail;go_ret;exact⟨ai,.inl ⟨T,rfl⟩⟩
 have am:=Gr.fits T;have dn:=am.st;have a5:=LH T;have ab:=LH am;obtain⟨n,bs⟩:∃n:Nat,G.zt=(n:Int):=⟨G.zt.toNat,AA⟩;have cs:n<n2:=AA
 have aw:=LH bs;clear bs;have cP:=(Qt ⟨a1,n1,c1,a2,n2,c2,a3,n3,c3⟩ G W1 (Hg.out.below ai) (by simp only[];omega) (by simp only[];omega) (by simp only[];omega)).mono λe w' hh=>And.intro hh.1 (hh.2.resolve_left λhc=>by rw[a5.out] at hc;cases hc.1).2;have CP:=LH cP;clear T am cP;go_wp2_with fail;(with_reducible refine CP.out.mono ?_);rintro e f⟨bh,gp,dg,rfl,J⟩;have ba:=Zz ai bh;have P:=al.below bh;clear y0 y1 y2 y3 y5 al;have A:=Z8.new f (List.replicate n2 false);have I:=Zy f (aC (Qk (List.replicate n2 false)).toArray 4);have ck:Z8 (f.alloc (aC (Qk (List.replicate n2 false)).toArray 4)) gp (Zt G):=Blk.ext J I;have bi:=P.below I;have⟨y5,y0,y1,y2,y3⟩:=P;simp only[] at y0 y1 y2 y3;have cn:gp<f.heap.size:=J.lt;go_upto_region 5 with fail;generalize f.alloc (aC (Qk (List.replicate n2 false)).toArray 4)=W3 at *;clear y0 y1 y2 y3 y5;have⟨y5,y0,y1,y2,y3⟩:=bi;simp only[] at y0 y1 y2 y3;rw[aw.out] at y3;have dp:=A.lt;have C:=Blk.frozen A n;have L:=A.at (i:=n) (by simpa using cs);have an:=A.put n true;have bc:=bD_set I (AJ _) f n (aB true) (AJ _);have bv:Xv G=(List.replicate n2 false).set n true:=by unfold Xv;rw[y,aw.out];rfl
 rw[<-bv] at an;have H:=LH an;have b2:=LH bc;have b5:=LH J;have o:=LH ba;have ax:=LH P;clear an bc J ck I ba P bi bv cx A;have bu:(Xv G).length=n2:=by unfold Xv;simp[y]
 have cc:=LH bu;clear bu;go_wp2_with fail;generalize W3.setCell ⟨f,n,aN⟩ (aB true)=W4 at *;generalize bo:f.heap.size=a at *;have u:=LH bo;clear bo y0 y1 y2 y3 y5 C L;have dk:=H.out.lt;go_loopw [5] (λi wr=>∃k:Nat,k<=n2/\i = aI aJ (k:Int)/\Hid (Below a f wr)/\Hid (Z8 wr a (Z3 (Yy (Yp (Zt G)) G.U) k (Xv G)))) (λi _=>n2-(intOf i).toNat)
 case atStart=>exact⟨0,AV _,rfl,b2,H⟩
 obtain⟨k,hk,rfl,l,b⟩:=hrel;have B:=ax.out.below (by rw[u.out];exact l.out);have⟨y5,y0,y1,y2,y3⟩:=B;simp only[] at y0 y1 y2 y3;by_cases ct:k<n2
 case neg =>
  obtain rfl:k=n2:=AA
  have b6:Hid (Z5 G=Z3 (Yy (Yp (Zt G)) G.U) k (Xv G)):=LH (by unfold Z5;rw[y]);go_wp2_with fail;go_ret;exact⟨o.out.trans (l.out.mono (by rw[<-u.out];exact o.out.size)),.inr ⟨a5.out,a,by rw[<-u.out];exact o.out.size,rfl,by rw[b6.out];exact b.out⟩⟩
 have bd:(Z3 (Yy (Yp (Zt G)) G.U) k (Xv G)).length=n2:=by rw[Dw];exact cc.out
 have b9:Hid (Yy (Yp (Zt G)) G.U (Z3 (Yy (Yp (Zt G)) G.U) k (Xv G))=Z3 (Yy (Yp (Zt G)) G.U) (k+1) (Xv G)):=rfl;generalize Z3 (Yy (Yp (Zt G)) G.U) k (Xv G)=N at *;have b4:=LH bd;clear bd;go_wp2_with fail;clear y0 y1 y2 y3 y5 B;go_loopw [6] (λi t=>∃j:Nat,j<=n3/\i = aI aJ (j:Int)/\Hid (Below a f t)/\Hid (Z8 t a (Yy (Yp (Zt G)) (G.U.take j) N))) (λi _=>n3-(intOf i).toNat)
 case atStart=>exact⟨0,AV _,rfl,l,LH (by simpa [Yy] using b.out)⟩
 clear l b;obtain⟨j,hj,rfl,l,b⟩:=hrel;have B:=ax.out.below (by rw[u.out];exact l.out);have⟨y5,y0,y1,y2,y3⟩:=B;simp only[] at y0 y1 y2 y3;by_cases cp:j<n3
 case neg =>
  obtain rfl:j=n3:=AA
  have Hf:Hid (Z8 wr a (Z3 (Yy (Yp (Zt G)) G.U) (k+1) (Xv G))):=LH (by rw[<-b9.out];have:=b.out;rw[AQ AA] at this;exact this);go_wp2_with fail;go_roundw
  case rel=>exact⟨k+1,AA,AF,l,Hf⟩
  simp[intOf];omega
 have V:=LH (o.out.trans (l.out.mono (by rw[<-u.out];exact o.out.size)));obtain⟨bb,ds,r,Ar,cr,rfl,bf,Hr,q0,q1,q2,ao⟩:=Hg.out.U.get cp;rw[<-V.out.cell (by exact bf)] at q0 q1 q2;have hb:bb<wr.heap.size:=AK bf V.out.size;have cb:=LH ao;have bt:=ao.below V.out;clear ao;have R:=AM Hr.out;have bk:(Yy (Yp (Zt G)) (G.U.take j) N).length=n2:=by rw[passI_len'];exact b4.out
 have az:Hid (Yy (Yp (Zt G)) (G.U.take (j+1)) N=Jz (Yy (Yp (Zt G)) (G.U.take j) N) (Yp (Zt G) r (Yy (Yp (Zt G)) (G.U.take j) N))):=LH (by rw[Ya Hr.out,Zwt];rfl);generalize Yy (Yp (Zt G)) (G.U.take j) N=d at *;obtain⟨l1,l2⟩:=ab.out.L r R;obtain⟨c,bq⟩:∃c:Nat,r.L=(c:Int):=⟨r.L.toNat,AA⟩;have br:c<n2:=AA
 have dl:=ab.out.len r R;have aq:=ab.out.symB R;rw[y] at aq;rw[bq] at q0;have m:Dr (Zt G) r d=(d.getD c false&&Xj true (Zt G) r.rt):=by unfold Dr;rw[show r.L.toNat=c by omega]
 have ay:=LH m;have ca:=LH bt;have a7:=LH aq;have Z:=LH bk;have O:=Zy wr (aC #[aI aJ (c:Int),K Ar (Q r.rt) cr,aI aJ r.P] 60);have be:=Blk.new wr 60 #[aI aJ (c:Int),K Ar (Q r.rt) cr,aI aJ r.P];have co:a<wr.heap.size:=b.out.lt;clear m bt aq bk l1 l2 bq R;go_wp2_with fail;have E:Hid (Z8 (wr.alloc (aC #[aI aJ (c:Int),K Ar (Q r.rt) cr,aI aJ r.P] 60)) a d):=Blk.ext b.out O;have U:=LH (l.out.trans (O.mono (DS co)));have Y:=LH be;have a4:=LH (ca.out.below O);have dq:=Zl wr (aC #[aI aJ (c:Int),K Ar (Q r.rt) cr,aI aJ r.P] 60);generalize wr.alloc (aC #[aI aJ (c:Int),K Ar (Q r.rt) cr,aI aJ r.P] 60)=v at *;generalize wr.heap.size=z at *;clear O be y0 y1 y2 y3 y5 q0 q1 q2 B b l;have cw:a<v.heap.size:=E.out.lt;have r0:=Y.out.cell 0;have r1:=Y.out.cell 1;have de:=a4.out.cap;have CA:=LH λ(W:World) (M:List Bool) (hW:Below a f W) (hr:Za .i64 W Ar (Q r.rt) cr r.rt)=>rf_all Ar (Q r.rt) cr gp n2 r.rt (Zt G) true W hr (b5.out.below hW cn) (by rw[Vx];exact y) AA a7.out;rcases m:Dr (Zt G) r d with _ | _
 case false =>
  have ae:Hid (Yy (Yp (Zt G)) (G.U.take (j+1)) N=d):=LH (by rw[az.out];unfold Yp;rw[m];rfl);have L:=E.out.at (i:=c) (by rw[Z.out];exact br);have p:=ay.out.symm.trans m;have av:=CA.out v d U.out a4.out;generalize d.getD c false=tl at *;generalize Xj true (Zt G) r.rt=ta at *;have D:=LH av;clear m av;go_loopw [8] (λi t=>i = aI aJ 0/\v=t) (λi _=>0)
  case atStart=>exact⟨rfl,rfl⟩
  obtain⟨rfl,rfl⟩:=hrel;by_cases cv:(Q r.rt)=0
  case' pos =>
   rw[cv] at r1;clear p;go_wp2_with fail
  case' neg =>
   have dj:0<(Q r.rt):=AA
   rcases (by cases tl <;> cases ta <;> simp at p ⊢:tl=false\/(tl=true/\ta=false)) with rfl | ⟨rfl,rfl⟩
   case' inl =>
    clear p;go_wp2_with fail
   case' inr =>
    clear p;go_wp2_with (go_at_call 58;(with_reducible refine D.out.mono ?_);rintro e w'⟨rfl,rfl⟩)
  all_goals
   go_roundw
   case rel=>exact⟨j+1,AA,AF,U,LH (by rw[ae.out];exact E.out)⟩
   simp[intOf];omega
 have p:=ay.out.symm.trans m;simp only[AS] at p;obtain⟨bm,bn⟩:=p;have ae:Hid (Yy (Yp (Zt G)) (G.U.take (j+1)) N=Jz d (Uq r.rt)):=LH (by rw[az.out];unfold Yp;rw[m];rfl);have b7:=LH bm;have b8:=LH bn;clear m bm bn;go_loopw [8] (λi t=>∃kk:Nat,kk<=(Q r.rt)/\i = aI aJ (kk:Int)/\Hid (Z8 t a (Jz d (Uq (r.rt.take kk))))/\Hid (v.grownBy t (some a))) (λi _=>(Q r.rt)-(intOf i).toNat)
 case atStart=>exact⟨0,AV _,rfl,E,LH (Jl _ _)⟩
 obtain⟨kk,ct,rfl,b,F⟩:=hrel;have cm:z≠a:=AA
 have aj:=Y.out.grown F.out (by intro e;injection e with e;exact cm e);have r0:=aj.cell 0;have r1:=aj.cell 1;have X:=LH (U.out.trans (Zn F.out (DS cw) (AJ _)));have b3:=LH (o.out.trans (X.out.mono (by rw[<-u.out];exact o.out.size)));have bl:(Jz d (Uq (r.rt.take kk))).length=n2:=by rw[Zwc];exact Z.out
 have L:=b.out.at (i:=c) (by rw[bl];exact br);rw[Zuy _ b7.out] at L;have ap:Za .i64 wr Ar (Q r.rt) cr r.rt:=cb.out.below b3.out;by_cases cu:kk<(Q r.rt)
 case neg =>
  obtain rfl:kk=(Q r.rt):=AA
  have Hf:Hid (Z8 wr a (Jz d (Uq r.rt))):=LH (by have:=b.out;rw[AQ (AJ _)] at this;exact this);go_wp2_with fail;go_roundw
  case rel=>exact⟨j+1,AA,AF,X,LH (by rw[ae.out];exact Hf.out)⟩
  simp[intOf];omega
 have cA:=CA.out wr d X.out ap;rw[b8.out] at cA;have D:=LH cA;obtain⟨sb,so,s,rfl,dm,Hs,qs⟩:=ap.get cu;have c0:=a7.out s (AM Hs.out);have S:=Zxl Hs.out;have c9:=b;have C:=λq=>Blk.frozen b.out q;clear cA bl ap aj;by_cases h0:s<0
 ·obtain⟨q,cq,cy,dr⟩:=Vy h0 c0.1 AA;have df:=C q;have dc:=b.out.at (i:=q) (by rw[Zwc];rw[Z.out];exact cq);have H:Hid (Z8 (wr.setCell ⟨a,q,aN⟩ (aB true)) a (Jz d (Uq (r.rt.take (kk+1))))):=LH (by
   rw[S,if_pos h0,Zw9,show (-1-s).toNat=q from cy];exact b.out.put q true)
  clear S C;go_wp2_with (go_at_call 58;(with_reducible refine D.out.mono ?_);rintro e w'⟨rfl,rfl⟩);go_roundw
  case rel=>exact⟨kk+1,AA,AF,H,LH (Zc F.out (Zd _ _ _ _))⟩
  simp[intOf];omega
 have cd:Hid (Z8 wr a (Jz d (Uq (r.rt.take (kk+1))))):=LH (by rw[S,if_neg h0];exact b.out);clear S C;go_wp2_with (go_at_call 58;(with_reducible refine D.out.mono ?_);rintro e w'⟨rfl,rfl⟩);go_roundw
 case rel=>exact⟨kk+1,AA,AF,cd,F⟩
 simp[intOf];omega
def Zss(h:GH)(G:Gr)(w:World)(t:Yf w h G)(h1:h.n1<=100)(h2:h.n2<=100)(h3:h.n3<=100):
 Calls prog 119 #[GV h G.zt] w λe w'=>Below w.heap.size w w' /\
  ((G.rt=false/\e = aR (K aN 0 0))\/(G.rt=true/\∃g,w.heap.size<=g/\e = aR (K (some ⟨g,0,aN⟩) h.n2 h.n2)/\V0 w' g (Yz G))):=by
 obtain⟨a1,n1,c1,a2,n2,c2,a3,n3,c3⟩:=h;have J:(Q G.O)=n2:=t.O.len;have e3:(Q G.U)=n3:=t.U.len;have k3:=t.U.cap;have k2:=t.O.cap;simp only[] at h1 h2 h3 k3 k2;have H:=LH t;have ad:=Zy w (aC #[K a1 n1 c1,K a2 n2 c2,K a3 n3 c3,aI aJ G.zt] 26);have ah:=Y1.new w 26 ⟨a1,n1,c1,a2,n2,c2,a3,n3,c3⟩ G.zt;have cz:=Zvx n2 AA;clear t;go_enter func119,ntmps119;have⟨z5,z0,z1,z2,z3⟩:=ah;simp only[] at z0 z1 z2 z3;go_wp2_with fail;generalize w.alloc (aC #[K a1 n1 c1,K a2 n2 c2,K a3 n3 c3,aI aJ G.zt] 26)=W0 at *;(with_reducible refine (Jr ⟨a1,n1,c1,a2,n2,c2,a3,n3,c3⟩ G W0 (H.out.below ad) (by simp only[];omega) (by simp only[];omega) (by simp only[];omega)).mono ?_);rintro e l⟨rfl,af⟩;have A:=Zz ad af;have ai:=ah.below af;clear z0 z1 z2 z3 z5 ah;have⟨y5,y0,y1,y2,y3⟩:=ai;simp only[] at y0 y1 y2 y3;rcases S:G.rt with _ | _
 ·go_wp2_with fail;go_ret;exact⟨A,.inl ⟨S,rfl⟩⟩
 have bn:=Gr.fits S;have W:=LH S;have U:=LH bn;have CN:=LH λX (f:Below l.heap.size l X)=>(rf_Nullable ⟨a1,n1,c1,a2,n2,c2,a3,n3,c3⟩ G X ((H.out.below A).below f) (by simp only[];omega) (by simp only[];omega) (by simp only[];omega)).mono λe w' o=>And.intro (Zz f o.1) (And.intro (LH o.1) (o.2.resolve_left λC=>by rw[W.out] at C;cases C.1).2);have CP:=LH λX (f:Below l.heap.size l X)=>(Qt ⟨a1,n1,c1,a2,n2,c2,a3,n3,c3⟩ G X ((H.out.below A).below f) (by simp only[];omega) (by simp only[];omega) (by simp only[];omega)).mono λe w' o=>And.intro (Zz f o.1) (And.intro (LH o.1) (o.2.resolve_left λC=>by rw[W.out] at C;cases C.1).2);have HS:Hid (∀d,Below l.heap.size l d->d.cell? ⟨w.heap.size,0,aN⟩=some (K a1 n1 c1)/\d.cell? ⟨w.heap.size,1,aN⟩=some (K a2 n2 c2)/\d.cell? ⟨w.heap.size,2,aN⟩=some (K a3 n3 c3)/\d.cell? ⟨w.heap.size,3,aN⟩=some (aI aJ G.zt)/\Below l.heap.size l d):=LH λd f=>⟨by rw[f.cell (by exact y5)];exact y0,by rw[f.cell (by exact y5)];exact y1,by rw[f.cell (by exact y5)];exact y2,by rw[f.cell (by exact y5)];exact y3,f⟩;have b3:=LH A;have ca:=LH ai;clear S bn A ai ad af;go_wp2_with fail;go_region_held3 (λd=>d.cell? ⟨w.heap.size,0,aN⟩=some (K a1 n1 c1)/\d.cell? ⟨w.heap.size,1,aN⟩=some (K a2 n2 c2)/\d.cell? ⟨w.heap.size,2,aN⟩=some (K a3 n3 c3)/\d.cell? ⟨w.heap.size,3,aN⟩=some (aI aJ G.zt)/\Below l.heap.size l d)
  ((refine HS.out _ ?_;(repeat (first | assumption | exact AP _ _ | refine Below.drew ?_ | refine Zo ?_ _ | refine Zg ?_ _ _ _ (by (first | exact AJ _ | exact DO _ | exact Below.size AH | exact Nat.le_succ_of_le (Below.size AH) | (simp;done) | omega))));done))
  (first
    | (go_at_call 172;refine (CN.out _ (by (repeat (first | assumption | exact AP _ _ | refine Below.drew ?_ | refine Zo ?_ _ | refine Zg ?_ _ _ _ (by (first | exact AJ _ | exact DO _ | exact Below.size AH | exact Nat.le_succ_of_le (Below.size AH) | (simp;done) | omega)))))).mono ?_;rintro e w2⟨cn,b9,gN,M,rfl,ax⟩)
    | (go_at_call 56;refine (CP.out _ (by (repeat (first | assumption | exact AP _ _ | refine Below.drew ?_ | refine Zo ?_ _ | refine Zg ?_ _ _ _ (by (first | exact AJ _ | exact DO _ | exact Below.size AH | exact Nat.le_succ_of_le (Below.size AH) | (simp;done) | omega)))))).mono ?_;rintro e m⟨ae,az,gP,N,rfl,ay⟩))
 have ar:Hid (Z8 m gN (Zj G)):=LH (Blk.hidden ax az);have au:Hid (Z8 m gP (Zt G)):=LH ay;have v:=LH (Zz b3.out ae);have a0:=LH (ca.out.below ae);clear cn b9 M ax az N ay ae CN CP HS y0 y1 y2 y3 y5;have⟨y5,y0,y1,y2,y3⟩:=a0.out;simp only[] at y0 y1 y2 y3;go_upto_region 5 with fail;have bh:=V0.new m (List.replicate n2 0);have be:=Zy m (aC (nums .u32 (List.replicate n2 0)).toArray 41);generalize m.alloc (aC (nums .u32 (List.replicate n2 0)).toArray 41)=W4 at *;generalize bo:m.heap.size=b at *;have y:=LH bo;have b8:=LH bh;have b4:=LH be;clear bo bh be y0 y1 y2 y3 y5 cz;go_wp2_with fail;go_loopw [6] (λi wr=>∃j:Nat,j<=n3/\i = aI aJ (j:Int)/\Hid (Below b m wr)/\Hid (V0 wr b (Wo (Zj G) (Zt G) (G.U.take j) (List.replicate n2 0)))) (λi _=>n3-(intOf i).toNat)
 case atStart=>exact⟨0,AV _,rfl,b4,LH (by simpa [Wo] using b8.out)⟩
 obtain⟨j,hj,rfl,D,k⟩:=hrel;have aj:m.heap.size=b:=y.out;have E:=LH (v.out.trans (D.out.mono (by rw[<-aj];exact v.out.size)));have bj:=a0.out.below (by rw[aj];exact D.out);have⟨y5,y0,y1,y2,y3⟩:=bj;simp only[] at y0 y1 y2 y3;clear aj;by_cases cu:j<n3
 case neg =>
  obtain rfl:j=n3:=AA
  have n:Hid (V0 wr b (Yz G)):=LH (by have:=k.out;rw[AQ AA] at this;unfold Yz;rw[J];exact this);go_wp2_with fail;go_ret;exact⟨E.out,.inr ⟨W.out,b,by rw[<-y.out];exact v.out.size,rfl,n.out⟩⟩
 obtain⟨bb,dn,r,Ar,cr,rfl,bi,Hr,q0,q1,q2,bs⟩:=H.out.U.get cu;rw[<-E.out.cell (by exact bi)] at q0 q1 q2;have f:=AK bi E.out.size;have a7:=LH bs;have R:=AM Hr.out;have ce:Hid (Wo (Zj G) (Zt G) (G.U.take (j+1)) (List.replicate n2 0)=Y2 (Zj G) (Zt G) r (Q r.rt) (Wo (Zj G) (Zt G) (G.U.take j) (List.replicate n2 0))):=LH (by rw[Ya Hr.out,Zz0]);have bk:(Wo (Zj G) (Zt G) (G.U.take j) (List.replicate n2 0)).length=n2:=by rw[De];simp
 have bm:=Lm (Zj G) (Zt G) (G.U.take j) (We.zero n2);generalize Wo (Zj G) (Zt G) (G.U.take j) (List.replicate n2 0)=c at *;obtain⟨l1,l2⟩:=U.out.L r R;obtain⟨a,bq⟩:∃a:Nat,r.L=(a:Int):=⟨r.L.toNat,AA⟩;have cv:a<n2:=AA
 have cd:Hid (r.L.toNat=a):=LH AA;have dh:=U.out.len r R;have al:=U.out.symB R;rw[J] at al;rw[bq] at q0;have Z:=LH al;have cb:=LH bk;have cc:=LH bm;have ag:=Zy wr (aC #[aI aJ (a:Int),K Ar (Q r.rt) cr,aI aJ r.P] 60);have bg:=Blk.new wr 60 #[aI aJ (a:Int),K Ar (Q r.rt) cr,aI aJ r.P];have O:b<wr.heap.size:=k.out.lt;clear bs al bk bm l1 l2 bq R bj;go_wp2_with fail;have aw:Hid (V0 (wr.alloc (aC #[aI aJ (a:Int),K Ar (Q r.rt) cr,aI aJ r.P] 60)) b c):=LH (Blk.ext k.out ag);have b5:=LH (D.out.trans (ag.mono (DS O)));have b7:=LH bg;generalize wr.alloc (aC #[aI aJ (a:Int),K Ar (Q r.rt) cr,aI aJ r.P] 60)=WA at *;generalize wr.heap.size=L at *;clear ag bg y0 y1 y2 y3 y5 q0 q1 q2 k D E;have cx:b<WA.heap.size:=aw.out.lt;have dc:=a7.out.cap;go_loopw [8] (λi wz=>∃kk:Nat,kk<=(Q r.rt)/\i = aI aJ (kk:Int)/\Hid (V0 wz b (Y2 (Zj G) (Zt G) r kk c))/\Hid (WA.grownBy wz (some b))) (λi _=>(Q r.rt)-(intOf i).toNat)
 case atStart=>exact⟨0,AV _,rfl,aw,LH (Jl _ _)⟩
 obtain⟨kk,dg,rfl,k,p⟩:=hrel;have cs:L≠b:=AA
 have B:=b7.out.grown p.out (by intro e;injection e with e;exact cs e);have r0:=B.cell 0;have r1:=B.cell 1;have db:L<wr.heap.size:=B.lt;have F:=LH (b5.out.trans (Zn p.out (DS cx) (AJ _)));have b6:=LH (v.out.trans (F.out.mono (by rw[<-y.out];exact v.out.size)));have q:(Y2 (Zj G) (Zt G) r kk c).length=n2:=by rw[Kb];exact cb.out
 have u:=N1 (Zj G) (Zt G) r cc.out kk;have V:=LH (a7.out.below b6.out);have O:b<wr.heap.size:=k.out.lt;by_cases cw:kk<(Q r.rt)
 case neg =>
  obtain rfl:kk=(Q r.rt):=AA
  clear q u B;go_wp2_with fail;go_roundw
  case rel=>exact⟨j+1,AA,AF,F,LH (by rw[ce.out];exact k.out)⟩
  simp[intOf];omega
 obtain⟨sb,so,s,rfl,dk,Hs,qs⟩:=V.out.get cw;have dj:=Z.out s (AM Hs.out);have br:=Uk (Zj G) (Zt G) r kk c;have bp:Um (Zj G) (Zt G) r kk (Y2 (Zj G) (Zt G) r kk c)=if Xk (Zj G) (Zt G) r.rt kk s then addAt a (Y6 (-1-s)) (Y2 (Zj G) (Zt G) r kk c) else Y2 (Zj G) (Zt G) r kk c:=by unfold Um;rw[Hs.out];simp only[cd.out]
 have a4:=LH (br.trans bp);have co:=k.out.at (i:=a) (by rw[q];exact cv);have M:gN<b:=by have:=ar.out.lt;rw[y.out] at this;exact this
 have N:gP<b:=by have:=au.out.lt;rw[y.out] at this;exact this
 have cA:=rf_alone (some ⟨sb,so,aN⟩) (Q r.rt) cr gN n2 kk r.rt (Zj G) wr V.out (Blk.below ar.out F.out M) (by rw[Qe,Qq];exact J) AA Z.out AA AA;have cM:=rf_made (some ⟨sb,so,aN⟩) (Q r.rt) cr gP n2 r.rt (Zt G) wr V.out (Blk.below au.out F.out N) (by rw[Vx];exact J) AA Z.out;have bt:Xk (Zj G) (Zt G) r.rt kk s=(decide (s<0)&&J6 (Zj G) r.rt kk&&Xj true (Zt G) r.rt):=rfl;have I:=LH bt;generalize J6 (Zj G) r.rt kk=T at *;generalize Xj true (Zt G) r.rt=tm at *;have CA:=LH cA;have CM:=LH cM;clear br bp cA cM bt M N B;have skip:Xk (Zj G) (Zt G) r.rt kk s=false->Hid (V0 wr b (Y2 (Zj G) (Zt G) r (kk+1) c)):=λhf=>LH (by rw[a4.out,hf];exact k.out);have Y:=LH skip;clear skip;by_cases h0:0<=s
 ·have n:=Y.out (by rw[I.out,show decide (s<0)=false by rw[AZ];omega];rfl);clear q u;go_wp2_with fail;go_roundw
  case rel=>exact⟨kk+1,AA,AF,n,p⟩
  simp[intOf];omega
 have ak:decide (s<0)=true:=by rw[BA];omega
 rcases (by cases T <;> cases tm <;> simp:T=false\/(T=true/\tm=false)\/(T=true/\tm=true)) with rfl | ⟨rfl,rfl⟩ | ⟨rfl,rfl⟩
 ·have n:=Y.out (by rw[I.out,ak];rfl);clear q u;go_wp2_with (go_at_call 173;(with_reducible refine CA.out.mono ?_);rintro e w'⟨rfl,rfl⟩);go_roundw
  case rel=>exact⟨kk+1,AA,AF,n,p⟩
  simp[intOf];omega
 ·have n:=Y.out (by rw[I.out,ak];rfl);clear q u;go_wp2_with (first
   | (go_at_call 173;(with_reducible refine CA.out.mono ?_);rintro e w'⟨rfl,rfl⟩)
   | (go_at_call 174;(with_reducible refine CM.out.mono ?_);rintro e w'⟨rfl,rfl⟩))
  go_roundw
  case rel=>exact⟨kk+1,AA,AF,n,p⟩
  simp[intOf];omega
 have bu:Xk (Zj G) (Zt G) r.rt kk s=true:=by rw[I.out,ak];rfl
 have a5:Hid (Y2 (Zj G) (Zt G) r (kk+1) c=addAt a (Y6 (-1-s)) (Y2 (Zj G) (Zt G) r kk c)):=LH (by rw[a4.out,bu];rfl);have dm:IntKind.i64.wrap (-1-s)=-1-s:=BZ _ AA;have cy:=u.get a;have ct:=Ua (-1-s);have di:=or32 ((Y2 (Zj G) (Zt G) r kk c).getD a 0) (Y6 (-1-s)) cy ct;have cf:=LH λx:Ext wr=>V0.put (Blk.ext k.out (Zr wr x):V0 (bl wr x) b (Y2 (Zj G) (Zt G) r kk c)) a ((Y2 (Zj G) (Zt G) r kk c).getD a 0 ||| Y6 (-1-s));have cq:=Blk.frozen k.out a;have CB:=LH λx:Ext wr=>Ch (-1-s) (bl wr x);unfold addAt at a5;generalize (Y2 (Zj G) (Zt G) r kk c).getD a 0 ||| Y6 (-1-s)=z at *
 generalize (Y2 (Zj G) (Zt G) r kk c).getD a 0=dp at *;generalize Y6 (-1-s)=bv at *;have bc:=Yt wr;have bf:=Kh wr;clear bu q u;go_wp2_with (first
  | (go_at_call 173;(with_reducible refine CA.out.mono ?_);rintro e w'⟨rfl,rfl⟩)
  | (go_at_call 174;(with_reducible refine CM.out.mono ?_);rintro e w'⟨rfl,rfl⟩))
 refine Yx 17 AB AB ?_;simp only[List.take_succ_cons,List.take_zero,List.drop_succ_cons,Ed];repeat (go_big_quiet_step ((go_at_call 121;with_reducible exact Qo (CB.out _))))
 refine BJ ?_;rintro _⟨x,rfl⟩;have dd:=(bc x b a O).trans co;have de:=(bf x b a O).trans cq;have dl:=Lb wr x;go_wp2_with fail;go_roundw
 case rel=>exact⟨kk+1,AA,AF,LH (by rw[a5.out];exact cf.out x),LH (Zc (Zc p.out (Xz _ (Zr wr x))) (Zd _ _ _ _))⟩
 simp[intOf];omega
def K9(G:Gr):(Z5 G).length=(Q G.O):=by
 unfold Z5;have:∀k,(Z3 (Yy (Yp (Zt G)) G.U) k (Xv G)).length=(Xv G).length:=λk=>Dw _ _ _ k;rw[this];unfold Xv;simp
def Gl(G:Gr)(b:G.Fits)(i:Nat):(Qm G).testBit i=true↔(Zt G).getD i false=true/\(Z5 G).getD i false=true:=by
 unfold Qm;rw[J3];simp only[AS,decide_eq_true_eq];have:=b.n2.2;constructor
 ·rintro⟨_,_,h⟩;exact h
 intro h;have c:i<(Q G.O):=by
  rcases BD i (Q G.O) with a | a
  ·exact a
  have h1:=h.1;rw[AO,BE (by rw[Vx];exact a)] at h1;cases h1
 exact⟨AA,c,h⟩
def use_closed(G:Gr)(f:G.Fits):∀i t,(Qm G).testBit i=true->((Yz G).getD i 0).testBit t=true->(Qm G).testBit t=true:=by
 intro i t hi u;rw[Gl G f] at hi ⊢;have m:Yy (Yp (Zt G)) G.U (Z5 G)=Z5 G:=by
  have:=(Wn (Yp (Zt G)) G.U).fix (Xv G);have a:(Xv G).length=(Q G.O):=by unfold Xv;simp
  rw[a] at this;exact this
 refine Zva (λi t=>((Zt G).getD i false=true/\(Z5 G).getD i false=true)->(Zt G).getD t false=true/\(Z5 G).getD t false=true) (Zj G) (Zt G) G.U (λr l k s q d hi=>?_) _ (λi t h=>?_) i t u hi
 ·unfold Xk at d;simp only[AS,decide_eq_true_eq] at d;obtain⟨⟨h0,_⟩,j⟩:=d;have c:=AM q;have v:=f.sym r l s c;refine⟨?_,?_⟩
  ·have b:=j;unfold Xj at b;rw[BG] at b;have:=b s c;rwa [if_neg AA] at this
  have g:=Ge (Yp (Zt G)) G.U m r l;have n:Dr (Zt G) r (Z5 G)=true:=by unfold Dr;rw[hi.2,j];rfl
  have o:Yp (Zt G) r (Z5 G)=Uq r.rt:=by unfold Yp;rw[if_pos n]
  rw[o] at g;have p:-1-s∈Uq r.rt:=by
   unfold Uq;rw[CX];exact⟨s,List.mem_filter.2 ⟨c,by rw[BA];exact h0⟩,rfl⟩
  have:=Zxo (Uq r.rt) (N:=Z5 G) p (by rw[K9];omega);rw[g] at this;exact this
 rw[AO] at h;rcases BD i (Q G.O) with a | a
 ·simp[a] at h
 simp[BE,a] at h
def order_next(G:Gr)(b:G.rt=true)(c:endG G=false)(f:Qx (U2 (Yz G) (Qm G) g) (Q G.O)=aN):Ck (Qm G) g=0:=by
 have d:=Gr.fits b;rw[<-Wh] at f;refine order_goes (use_closed G d) (λi hi=>?_) (λi hi=>?_) f
 ·rw[Gl G d] at hi;rw[Wh];rcases BD i (Q G.O) with a | a
  ·exact a
  have h1:=hi.1;rw[AO,BE (by rw[Vx];exact a)] at h1;cases h1
 cases j:Yw (Yz G) i i
 ·rfl
 exfalso;have h:=Ztx (Jg _ _) hi;have l:i<(Yz G).length:=by
  unfold Qm at hi;rw[J3] at hi;simp only[AS,decide_eq_true_eq] at hi;rw[Wh];exact hi.2.1
 have k:(Vh G).testBit i=true:=by
  unfold Vh cycS;rw[if_pos b,J3,j];simp[h,l]
 have m:(Gy G).testBit i=true:=by
  unfold Gy;rw[if_pos b];exact hi
 have n:Vh G &&& Gy G=0:=by
  unfold endG at c;simpa using c
 have:=Nat.testBit_and (Vh G) (Gy G) i;rw[n,k,m,Nat.zero_testBit] at this;cases this
def reach_fix(G:Gr):Yy (Yp (Zt G)) G.U (Z5 G)=Z5 G:=by
 have:=(Wn (Yp (Zt G)) G.U).fix (Xv G);have a:(Xv G).length=(Q G.O):=by unfold Xv;simp
 rw[a] at this;exact this
def Zz1{G:Gr}(d:G.Fits):(Z5 G).getD G.zt.toNat false=true:=by
 have key:∀(k:Nat),(Z3 (Yy (Yp (Zt G)) G.U) k (Xv G)).getD G.zt.toNat false=true:=by
  intro k
  induction k with
  | zero =>
    rw[Z3];unfold Xv;exact (Uh _ _ _).2 (.inr ⟨rfl,by rw[Ee];have:=d.st;omega⟩)
  | succ k a =>
    rw[Z3];have h1:=(Wn (Yp (Zt G)) G.U);have b:=getD_lt a;generalize Z3 (Yy (Yp (Zt G)) G.U) k (Xv G)=N at *;have c:N[G.zt.toNat]? = some true:=by
     rw[AO,AL b] at a;rw[AL b];exact congrArg some a
    have:=h1.up N _ c;rw[AO,this];rfl
 exact key _
def C9{G:Gr}(d:G.Fits){r:Rul}(b:r∈G.U)(j:(Z5 G).getD r.L.toNat false=true)(h:Xj true (Zt G) r.rt=true)(c:s∈r.rt)(h0:s<0):(Z5 G).getD (Zp s) false=true:=by
 have a:=Ge (Yp (Zt G)) G.U (reach_fix G) r b;have f:Dr (Zt G) r (Z5 G)=true:=by unfold Dr;rw[j,h];rfl
 have g:Yp (Zt G) r (Z5 G)=Uq r.rt:=by unfold Yp;rw[if_pos f]
 rw[g] at a;have k:=d.sym r b s c;have:=Zxo (Uq r.rt) (N:=Z5 G) (Zur.2 ⟨s,c,h0,rfl⟩) (by rw[K9];omega);rw[a] at this;exact this
def prod_rule{G:Gr}(g:G.Fits)(h:(Zt G).getD i false=true):∃r∈G.U,r.L.toNat=i/\Xj true (Zt G) r.rt=true:=by
 have:=Zz2 (b:=true) (G:=G) (λi=>(Zt G).getD i false=true/\∃r∈G.U,r.L.toNat=i/\Xj true (Zt G) r.rt=true) (λr a c=>?_) h
 ·exact this.2
 have d:Xj true (Zt G) r.rt=true:=U8.2 λs f=>⟨(c s f).1,λh0=>((c s f).2 h0).1⟩;refine⟨Ue (b:=true) a ?_ d,r,a,rfl,d⟩;have:=g.L r a;omega
def N0{G:Gr}(c:G.Fits):i∈Ze G↔useB G i:=by
 unfold Ze;rw[Ka];constructor
 ·rintro⟨r,a,rfl⟩;obtain⟨h1,d,f⟩:=Fq.1 a;refine⟨Ue (b:=true) h1 ?_ f,d⟩;have:=c.L r h1;omega
 rintro⟨h,j⟩;obtain⟨r,a,rfl,g⟩:=prod_rule c h;exact⟨r,Fq.2 ⟨a,j,g⟩,rfl⟩
def use_lt{G:Gr}(h:useB G i):i<(Q G.O):=by
 have:=getD_lt h.1;rwa [Vx] at this
def Qz{G:Gr}(b:G.Fits){r:Rul}(f:r∈Yh G)(c:s∈r.rt)(h0:s<0):Zp s∈Ze G:=by
 obtain⟨h1,d,a⟩:=Fq.1 f;rw[N0 b];exact⟨(U8.1 a s c).2 h0,C9 b h1 d a c h0⟩
def Zu7{G:Gr}(a:G.Fits):(Ze G).length<=(Q G.O):=by
 exact Br _ _ (Ub G) λi hi=>use_lt ((N0 a).1 hi)
def Jm{G:Gr}(a:G.Fits)(h:(Zt G).getD G.zt.toNat false=true):G.zt.toNat∈Ze G:=(N0 a).2 ⟨h,Zz1 a⟩
def red_ruleOK{G:Gr}(g:G.Fits){r:Rul}(k:r∈Yh G)(h:G.ruleOK r=true):(Zi G).ruleOK (Wb (Ze G) r)=true:=by
 unfold Gr.ruleOK at h ⊢;simp only[AS,decide_eq_true_eq,BG] at h ⊢;obtain⟨⟨h1,d⟩,f⟩:=h;refine⟨⟨by simp[Wb,h1],d⟩,λp l=>?_⟩;obtain⟨s,c,rfl⟩:=CX.1 l;have a:=f s c;have b:=Qz g k c;unfold Gr.symOK at a ⊢;rw[AS] at a ⊢;by_cases h0:s<0
 ·have n:=(Mk s b).2 h0;have o:=G8 h0 (b h0);have m:=Df (Ze G) (Zp s);refine⟨?_,?_⟩
  ·unfold Gr.has;rw[if_neg AA,BA];show -1-Xd (Ze G) s<(((Ze G).map (Ws G)).length:Int);rw[BI];have:(Zp (Xd (Ze G) s):Int)=-1-Xd (Ze G) s:=by unfold Zp;omega
   omega
  have:decide (0<=Xd (Ze G) s)=false:=by rw[AZ];omega
  rw[this];rfl
 have j:Xd (Ze G) s=s:=by unfold Xd;rw[if_neg h0]
 rw[j];refine⟨?_,a.2⟩;have:=a.1;unfold Gr.has at this ⊢;rw[if_pos AA] at this ⊢;exact this
def Ju{G:Gr}(h:G.rt=true)(L:(Zt G).getD G.zt.toNat false=true):(Zi G).rt=true:=by
 have a:=Gr.fits h;obtain⟨h1,g,A,R,B⟩:=Nd.1 h;have v:=Jm a L;obtain⟨k,S,T,U⟩:=toI_mem (Ub G) v;have V:=Zu7 a;have W:=a.n2;have O:=(G.lefts_all _ _ _ B).2;have J:∀r∈Yh G,(Zi G).ruleOK (Wb (Ze G) r)=true:=λr u=>red_ruleOK a u (O r (Fq.1 u).1).2.2;have m:(Zi G).O.length=(Ze G).length:=by show ((Ze G).map (Ws G)).length=_;rw[BI]
 obtain⟨X,N,_⟩:=Ka.1 v;refine Nd.2 ⟨(terms_same (G:=G) (H:=Zi G) rfl).trans h1,?_,⟨?_,?_⟩,⟨?_,?_⟩,?_⟩
 ·unfold Gr.nonsOK;rw[AS,BA,m];refine⟨AA,Kc λj s P=>?_⟩;obtain⟨i,hi,rfl⟩:∃i,(Ze G)[j]? = some i/\Ws G i=s:=by
   have:((Ze G).map (Ws G))[j]? = some s:=P;rw[BB] at this;cases o:(Ze G)[j]? with
   | none=>rw[o] at this;cases this
   | some i=>rw[o] at this;exact⟨i,rfl,by simpa using this⟩
  have F:=use_lt ((N0 a).1 (AM hi));unfold Gr.nonsOK at g;rw[AS] at g;have I:∀q,q<(Q G.O)->G.O[q]? = some (Ws G q):=λq d=>by
   unfold Ws;rw[AL d];rfl
  have p:=λq d=>Bj g.2 (I q d);have b:=p i F;unfold Gr.nonOK at b ⊢;simp only[AS,decide_eq_true_eq] at b ⊢;refine⟨⟨b.1.1,?_⟩,b.2⟩;show Y8 (λt=>decide (t=Ws G i)) ((Ze G).map (Ws G))=(j:Int);refine Q4 (x:=Ws G i) (by rw[BB,hi];rfl) AE λq d y c=>?_;rw[BB] at c;cases f:(Ze G)[q]? with
  | none=>rw[f] at c;cases c
  | some n =>
    rw[f] at c;have:Ws G n=y:=by simpa using c
    subst this;rw[AZ];intro E;have M:=use_lt ((N0 a).1 (AM f));have l:=p n M;unfold Gr.nonOK at l;simp only[AS,decide_eq_true_eq] at l;have C:=l.1.2;rw[E,b.1.2] at C;have D:i=n:=AA
    have:=Fc (Ub G) hi;have z:=Fc (Ub G) f;rw[<-D] at z;omega
 ·show 1<=((Yh G).map (Wb (Ze G))).length;rw[BI];exact List.length_pos_of_mem N
 ·show ((Yh G).map (Wb (Ze G))).length<=40;rw[BI];exact BC (List.length_filter_le _ _) A.2
 ·show 0<=toI (Ze G) G.zt.toNat
  omega
 ·rw[m];show toI (Ze G) G.zt.toNat<_;omega
 rw[m];have:=red_lefts G a J (Yh G) [] AE;exact this
def tree_stable{G:Gr}(c:Xq G):∀(m n:Nat) (s:Int),s<0->Zp s<(Q G.O)->mu G n s=m->∀f o,m<f->m<o->Qw G f s n=Qw G o s n:=by
 intro m
 induction m using Nat.strongRecOn with
 | ind m F =>
   intro n s h0 I z f o N O;obtain⟨g,rfl⟩:∃g,f=g+1:=⟨f-1,AA⟩;obtain⟨a,rfl⟩:∃a,o=a+1:=⟨o-1,AA⟩;rw[Fg G g h0,Fg G a h0];refine Lu λr D L=>?_;have C:∀q∈r.rt,q<0->Zp q<(Q G.O):=λq t l=>by
    have:=c.fits.sym r D q t;unfold Zp;omega
   have M:∀q∈r.rt,∀k,k<n->Qw G g q k=Qw G a q k:=λq t k H=>by
    by_cases l:0<=q
    ·rw[Un G g l,Un G a l]
    have h1:=Gc G (Zp q);have:mu G k q<m:=by unfold mu at z ⊢;omega
    exact F _ this k q AA (C q t AA) rfl g a AA AA
   have top:∀(p:Nat) q,r.rt[p]? = some q->(∀(j:Nat) b,j≠p->r.rt[j]? = some b->Xg (Zj G) b=true)->Qw G g q n=Qw G a q n:=λp q d x=>by
    by_cases l:0<=q
    ·rw[Un G g l,Un G a l]
    have E:=D2 c D d AA x;rw[L] at E;have hd:=Zv8 c I E;have:mu G n q<m:=by unfold mu at z ⊢;omega
    exact F _ this n q AA (C q (AM d) AA) rfl g a AA AA
   by_cases B:n=0
   ·subst B;by_cases y:(∃q∈r.rt,Qw G g q 0=0)/\∃q∈r.rt,Qw G a q 0=0
    ·rw[Uf.2 y.1,Uf.2 y.2]
    refine Wp λq t k H=>?_;obtain rfl:k=0:=AA
    obtain⟨p,d⟩:=BQ t;refine top p q d λj b _ v=>?_;have A:=AM v;by_cases h1:∃q∈r.rt,Qw G g q 0=0
    ·refine Ms c.fits a λu=>y ⟨h1,b,A,u⟩
    exact Ms c.fits g λu=>h1 ⟨b,A,u⟩
   refine Zzb M (λp q d x=>top p q d λj b v J=>Ms c.fits g (x j b v J)) λh=>absurd h B
def treeN_fuel{G:Gr}(a:Xq G){f n:Nat}(c:s<0->Zp s<(Q G.O))(b:n*4294967296+4294967296<=f):Qw G f s n=Zv G s n:=by
 unfold Zv;by_cases h0:0<=s
 ·rw[Un G _ h0,Un G _ h0]
 exact tree_stable a _ n s AA (c AA) rfl _ _ (mu_lt G n s b) (mu_lt G n s (fuelN_le n))
def Uu{G:Gr}(a:Xq G)(h0:s<0)(l:Zp s<(Q G.O))(n:Nat):Zv G s n=Yc (Zv G) G.U (Zp s) n:=by
 obtain⟨f,b,c⟩:=fuelN_succ n;have e:Zv G s n=Qw G (f+1) s n:=by unfold Zv;rw[b]
 rw[e,Fg G f h0];refine Lu λr j o=>Wp λq h k d=>?_;have g:q<0->Zp q<(Q G.O):=λm=>by
  have:=a.fits.sym r j q h;unfold Zp;omega
 exact treeN_fuel a g (BC (Nat.add_le_add_right (Es _ d) _) c)
def order_serves{G:Gr}(h:G.rt=true)(n:∀i,i<(Q G.O)->(Qm G).testBit i=true)(l:endG G=false):Ni G (Y4 (Yz G) (Qm G) (Q G.O) (Q G.O)).1:=by
 have m:=Gr.fits h;have k:Qm G<4294967296:=Jg _ _;have g:=Zy3 (Yz G) (Qm G) (Q G.O) (Q G.O);have r:=order_next G h l (orderS_end (Yz G) (Q G.O) k);have q:=(Dl (Yz G) (Q G.O) k (Q G.O)).mem;generalize Y4 (Yz G) (Qm G) (Q G.O) (Q G.O)=b at *;have f:∀i∈b.1,i<(Q G.O):=λi hi=>by
  obtain⟨p,s⟩:=BQ hi;exact (g.2 p i s).1
 have v:=m.n2;refine⟨f,λp i hi t u=>?_,λi hi=>?_⟩
 ·have h1:=(g.2 p i hi).2;unfold U2 at h1;simp only[AS,BS] at h1;have a:=Nu ((Yz G).getD i 0) (My (b.1.take p)) t;rw[h1.2,Nat.zero_testBit,u,Bool.true_and] at a;have c:(My (b.1.take p)).testBit t=true:=by
   cases d:(My (b.1.take p)).testBit t
   ·rw[d] at a;cases a
   rfl
  exact (thereL_bit _ t λj o=>by have:=f j (List.mem_of_mem_take o);omega).1 c
 have a:=Nu (Qm G) b.2 i;rw[r,Nat.zero_testBit,n i hi,Bool.true_and] at a;have c:b.2.testBit i=true:=by
  cases d:b.2.testBit i
  ·rw[d] at a;cases a
  rfl
 exact (q i).1 c
def plain_of{G:Gr}(c:G.rt=true)(d:∀i,i<(Q G.O)->(Qm G).testBit i=true)(a:Vh G=0):Xq G/\endG G=false:=by
 have b:=Gr.fits c;refine⟨⟨b,λi hi=>((Gl G b i).1 (d i hi)).1,λi hi=>?_⟩,?_⟩
 ·cases f:Yw (Yz G) i i
  ·rfl
  have:=(cyc_bit b i).2 ⟨hi,f⟩;unfold Vh at a;rw[if_pos c] at a;rw[a,Nat.zero_testBit] at this;cases this
 unfold endG;rw[a,Nat.zero_and];rfl
def B5:Prop:=∀(h:GH) (G:Gr) (w:World),Yf w h G->(∀t∈G.T,t.name.size<=maxLen)->h.n1<=100->h.n2<=100->h.n3<=100->
    Calls Tryz.prog 155 #[GV h G.zt] w λe w'=>Below w.heap.size w w' /\
     ((G.rt=false/\e = aR (K none 0 0))\/(G.rt=true/\∃g,w.heap.size<=g/\e = aR (K (some ⟨g,0,none⟩) h.n2 h.n2)/\V0 w' g (Yz G)))
section
variable {G:Gr}
def Ztf(a:G.Fits){r:Rul}(b:r∈Yh G)(c:s∈r.rt):(Xd (Ze G) s<0↔s<0)/\(s<0->Zp (Xd (Ze G) s)=sig G (Zp s)):=by
 refine⟨Mk s (Qz a b c),λh0=>?_⟩;have h1:=G8 h0 (Qz a b c h0);have d:=(C8 (Qz a b c h0)).1;omega
def Zub(a:G.Fits){r:Rul}(c:r∈G.U)(d:r.L.toNat∈Ze G)(b:Xj true (Zt G) r.rt=true):r∈Yh G :=
 Fq.2 ⟨c,((N0 a).1 d).2,b⟩
def Zxa(c:G.Fits)(m:(Zi G).Fits)(hi:i∈Ze G):(Zt (Zi G)).getD (sig G i) false=true:=by
 have:=Zz2 (b:=true) (G:=G) (λi=>(Zt G).getD i false=true/\(i∈Ze G->(Zt (Zi G)).getD (sig G i) false=true)) (λr g f=>?_) ((N0 c).1 hi).1
 ·exact this.2 hi
 have h:Xj true (Zt G) r.rt=true:=U8.2 λs a=>⟨(f s a).1,λh0=>((f s a).2 h0).1⟩;have n:=c.L r g;refine⟨Ue (b:=true) g AA h,λj=>?_⟩;have d:=Zub c g j h;rw[<-Zyb d];refine Ue (b:=true) (G:=Zi G) (Zs8.2 ⟨r,d,rfl⟩) ?_ (U8.2 λo l=>⟨λ_=>rfl,λk=>?_⟩)
 ·rw[Zsw,Zyb d];exact (C8 j).2.1
 obtain⟨s,a,rfl⟩:=CX.1 l;have h1:=Ztf c d a;have h0:=h1.1.1 k;rw[h1.2 h0];exact ((f s a).2 h0).2 (Qz c d a h0)
def red_reach(a:G.Fits)(d:(Zi G).Fits)(j:(Zt G).getD G.zt.toNat false=true)(hi:i∈Ze G):(Z5 (Zi G)).getD (sig G i) false=true:=by
 have:=reach_least (G:=G) (λi=>i∈Ze G/\(Z5 (Zi G)).getD (sig G i) false=true) ⟨Jm a j,by have:=Zz1 d;rwa [Zuo a j] at this⟩ (λr m h l s f h0=>?_) ((N0 a).1 hi).2
 ·exact this.2
 have b:=Zub a m h.1 l;have h1:=Ztf a b f;refine⟨Qz a b f h0,?_⟩;rw[<-h1.2 h0];refine C9 d (Zs8.2 ⟨r,b,rfl⟩) (by rw[Zyb b];exact h.2) (U8.2 λo n=>⟨λ_=>rfl,λg=>?_⟩) (CX.2 ⟨s,f,rfl⟩) (h1.1.2 h0);obtain⟨q,k,rfl⟩:=CX.1 n;have c:=Ztf a b k;rw[c.2 (c.1.1 g)];exact Zxa a d (Qz a b k (c.1.1 g))
def Zvp(a:G.Fits)(h:(Zt G).getD G.zt.toNat false=true):(∀s∈[-1-G.zt],s<0->Zp s∈Ze G)/\Xd (Ze G) (-1-G.zt)<0/\Zp (Xd (Ze G) (-1-G.zt))=(Zi G).zt.toNat:=by
 have h1:=Jm a h;have d:=a.st;have e:Zp (-1-G.zt)=G.zt.toNat:=by unfold Zp;omega
 refine⟨λs b _=>?_,?_,?_⟩
 ·rw[BO] at b;rw[b,e];exact h1
 ·exact (Mk _ λ_=>by rw[e];exact h1).2 AA
 have c:=G8 (o:=Ze G) (s:=-1-G.zt) AA (by rw[e];exact h1);rw[e] at c;show _=(toI (Ze G) G.zt.toNat).toNat
 omega
end
def red_use{G:Gr}(g:G.rt=true)(f:(Zt G).getD G.zt.toNat false=true){j:Nat}(c:j<(Zi G).O.length):(Qm (Zi G)).testBit j=true:=by
 have b:=Gr.fits g;have a:=Gr.fits (Ju g f);rw[Zsw] at c;have d:=AL c;have hi:=AM d;have h:=sig_get d;rw[<-h];exact (Gl _ a _).2 ⟨Zxa b a hi,red_reach b a f hi⟩
def U7{G:Gr}(a:G.rt=true)(f:(Zt G).getD G.zt.toNat false=true)(hi:Zi G=G)(d:Vh G=0):Xq G/\endG G=false/\Ni G (Y4 (Yz G) (Qm G) (Q G.O) (Q G.O)).1:=by
 have c:∀i,i<(Q G.O)->(Qm G).testBit i=true:=λi h=>by
  have:=red_use a f (j:=i) (by rw[hi];exact h);rwa [hi] at this
 obtain⟨h1,b⟩:=plain_of a c d;exact⟨h1,b,order_serves a c b⟩
def Zxe:Xq Xt:=by
 have a:Xt.rt=true/\(Zt Xt).getD Xt.zt.toNat false=true:=⟨Zxf,by have:=red22A;unfold Xp at this;rw[AS] at this;exact this.2⟩;exact (U7 a.1 a.2 Fh cyc22A).1
section
variable {P:Program} {w:World}
def Zz6{o:Oper}{a:Act}{Q:Exit->Act->World->Prop}(q:o.guard=aN)(s x:Operand)(t:TypeId)(r:o.op = .call { callee := .builtin .append,args:=#[s,x],argTypes:=#[t,t] })(base:Nat)(e:TypeId)(z:Value)(size bytes:Nat)(y:P.underlying t=some (.slice e))(hi:(P.info? e).map (λi=>(i.zero,i.size,i.bytes))=some (some z,size,bytes))(O:z.cells.size=size)(N:0<size)(A:Option Addr)(n c:Nat)(xs:List Value)(v:a.eval s = K A n c)(p:w.ownsRow base e size (K A n c) n xs)(g:Option Addr)(m c2:Nat)(d:List Value)(J:(aQ d)=m*size)(B:a.eval x = K g m c2)(h0:g=aN->m=0)(H:∀f,g=some f->∀j u,d[j]? = some u->w.cell? (f.add j)=some u)(h1:∀u∈d,u.oneCell'=true)(C:n+m<=9223372036854775807)(G:(n+m)*bytes<=140737488355328)(F:base<=w.heap.size)(h:∀k l w',w'.ownsRow base e size (K k (n+m) l) (n+m) (xs++d)->w.grownBy w' (K A n c).ownBlock->(∀b,(K k (n+m) l).ownBlock=some b->b<w.heap.size->(K A n c).ownBlock=some b)->
   wpList P ops Q rest (a.put o.dst (K k (n+m) l)) w'):wpList P ops Q (o::rest) a w:=by
 rcases g with _ | f
 ·obtain rfl:=h0 rfl;have L:d=[]:=BH AA;subst L;obtain⟨i,I,T,S,R⟩:=info_parts hi;have M:=run_append_nilS (P:=P) base size t o.type e i y I A n c xs p c2;refine wpList_plain q λK D=>?_;unfold Oper.wp execOp;simp only[r,resolve,invoke,builtin,Sem.run_bind,Sem.run_pure,Result.andThen_ok,List.map_toArray,CU,List.map_nil,v,B,M];exact D _ _ (h A c w (by simpa using p) (World.grownBy.refl _ _) λb E _=>E)
 exact Zzi q s x t r base e z size bytes y hi O N A n c xs v p f m c2 d J B (H f rfl) h1 C G F h
end
section
open Go.Maps (Keyed IsMap Tidy)
def tr_CloneT(A:Option Addr)(n c:Nat)(ts:List Trm)(w:World)(h:N8 w A n c ts)(y:n<=1000):
 Calls prog 90 #[K A n c] w λe w'=>Below w.heap.size w w'/\∃g m,e = aR (K g n m)/\w'.ownsRow w.heap.size 140 3 (K g n m) n (V8 ts):=by
 have d:=h.len;have x:=h.cap;have j:Hid ((prog.info? 140).map (λi=>(i.zero,i.size,i.bytes))=some (some (aG #[aS ByteArray.empty,aI aJ 0,aI aJ 0]),3,32)):=LH AB;have l:Hid ((w.alloc (aC #[] 140)).ownsRow w.heap.size 140 3 (K (some ⟨w.heap.size,0,aN⟩) 0 0) 0 []):=LH (World.ownsRow_made w #[] 0 (AJ _) (AV _) rfl);have b:=LH (Zy w (aC #[] 140));have f:=LH (D4 (h.below b.out));have k:Hid ((V8 ts).length=n*3):=LH (by rw[Ff,d]);have u:(w.alloc (aC #[] 140)).heap.size=w.heap.size+1:=Zl _ _;rcases A with _ | a
 ·obtain rfl:n=0:=(D4 h).1 rfl;have v:ts=[]:=BH d;subst v;clear f k l b j u h d;go_enter func90,ntmps90;have t:∀w:World,(binOp .eql 22 (K aN 0 c) (K aN 0 0)).run prog w = .ok (aB true) w:=λ_=>rfl;go_wp2_with fail;go_ret;exact⟨AP _ _,aN,0,rfl,BL _ _ _ _⟩
 clear h d;go_enter func90,ntmps90;have t:∀w:World,(binOp .eql 22 (K (some a) n c) (K aN 0 0)).run prog w = .ok (aB false) w:=λ_=>rfl;go_wp2_with (at_builtin;refine Zz6 rfl _ _ 22 rfl w.heap.size 140 _ 3 32 underlying22 j.out AC AC (some ⟨w.heap.size,0,aN⟩) 0 0 [] rfl l.out (some a) n c (V8 ts) k.out rfl f.out.1 f.out.2 (Zuz _) AA AA AA ?_;intro q r z p o s;simp only[BF,DA] at p o s);go_ret;exact⟨b.out.trans (Zn o b.out.size (AJ _)),q,r,rfl,p⟩
def G6(A:Option Addr)(n c:Nat)(xs:List Nat)(w:World)(h:Zq .u32 w A n c xs):
 Calls prog 31 #[K A n c] w λe w'=>e = aR (K A (Xx xs).length c)/\Zq .u32 w A (Xx xs).length c (Xx xs)/\w=w':=by
 have r:=h.len;have q:=h.cap;go_enter func31,ntmps31;go_wp2;go_loop [0] (λv=>∃k:Nat,k<=n/\v = K A k c/\Xx xs=Xx (xs.take k)) (λv=>lenOf v)
 case atStart=>exact⟨n,AJ _,rfl,by rw[AQ AA]⟩
 obtain⟨k,m,rfl,hrel⟩:=hrel;have f:=LH hrel;clear hrel;by_cases s:0<k
 ·obtain⟨b,u,x,rfl,o,Hx,p⟩:=h.get (j:=k-1) AA;by_cases h0:x=0
  ·subst h0;go_wp2;go_round
   case rel =>
    refine⟨k-1,AA,AF,?_⟩;rw[f];have:=Zws xs (k-1) AA (by simp[Hx.out]);rw[<-this,show k-1+1=k from by omega]
   simp[lenOf];omega
  have t:((x:Int)==0)=false:=by simp[h0]
  have a:=Zxp xs (k-1) AA (by simpa [Hx.out] using h0);rw[show k-1+1=k from by omega,<-f] at a;have g:(Xx xs).length=k:=by rw[a];simp;omega
  have d:=LH a;have l:=LH g;clear a g;go_wp2;go_ret;rw[l];refine⟨rfl,?_,rfl⟩;rw[d];exact h.take k c m AA AA
 have a:Xx xs=[]:=by rw[f,show k=0 from by omega];simp[Xx]
 have d:=LH a;clear a;obtain rfl:k=0:=AA
 go_wp2;go_ret;rw[d];exact⟨rfl,Zq.nil _ _ _ _ AA,rfl⟩
theorem ptrR_block{b:Nat}(h:ptrR v=some (.lit (.int .i64 (b:Int)),ps)):v = .pointer (some ⟨b,0,none⟩):=by
 unfold ptrR at h;split at h
 ·cases h
 ·simp only[BT,DM,DataW.lit.injEq,Lit.int.injEq,true_and] at h;obtain⟨h,_⟩:=h;rw[Int.ofNat.inj h]
 cases h
def ptrR_nil(h:ptrR v=some (.nil,ps)):v = aP aN:=by
 unfold ptrR at h;split at h
 ·rfl
 ·cases h
 cases h
end
section
open Go.Maps (Keyed IsMap Tidy)
variable {P:Program} {k:TypeId}
theorem Zu8(K:Keyed P k)(a:U4 P k v):∀r:List (Value × Nat),(∀p∈r,U4 P k p.1)->
 (v∈r.map (·.1)->∃b,(v,b)∈r/\(Np P k r).atKey (litK P k v) .nil = .lit (.int .i64 (b:Int)))/\(v∉r.map (·.1)->(Np P k r).atKey (litK P k v) .nil = .nil)
 | [],_=>⟨λh=>(by cases h),λ_=>by unfold Np;exact Maps.atKey_of_not_has (by simp[Maps.has_eq]) _⟩
 | p::r,hg=>by
   have c:=hg p (By ..);have d:=Zu8 K a r (λq j=>hg q (BN _ j));rw[CU];by_cases e:v=p.1
   ·refine⟨λ_=>⟨p.2,by rw[e];exact By ..,?_⟩,λh=>absurd (by rw[e];exact By ..) h⟩;subst e;unfold Np;exact Maps.atKey_put_same (D3 r) (K.key a.lit) _ _
   refine⟨λh=>?_,λh=>?_⟩
   ·obtain⟨b,g,f⟩:=d.1 ((BY.1 h).resolve_left e);refine⟨b,BN _ g,?_⟩;unfold Np;rw[Maps.atKey_put_other (Ztc K a c e)];exact f
   rw[BY,not_or] at h;unfold Np;rw[Maps.atKey_put_other (Ztc K a c e)];exact d.2 h.2
def Vv.made(w:World)(P:Program)(k:TypeId):Vv P k (w.alloc (.map #[] 0)) w []:=⟨World.ownsMap_made w P k ptrR,λp h=>(by cases h)⟩
theorem Vv.look{w:World}(h:Vv P k w g r)(K:Keyed P k)(a:v∈r.map (·.1)):
 ∃b,(v,b)∈r/\(Np P k r).atKey (litK P k v) .nil = .lit (.int .i64 (b:Int)):=by
 obtain⟨p,d,e⟩:=CX.1 a;have c:=h.good p d;rw[e] at c;exact (Zu8 K c r h.good).1 a
theorem Vv.look_at{w:World}{t e b:Nat}(h:Vv P k w g r)(K:Keyed P k)(j:P.underlying t=some (.map k e))(m:(zeroValue e).run P w = .ok (.pointer none) w)(d:(v,b)∈r)(c:(Np P k r).atKey (litK P k v) .nil = .lit (.int .i64 (b:Int))):
 (Instr.lookup t (.map (some g)) v false).run P w = .ok (.pointer (some ⟨b,0,none⟩)) w:=by
 have l:=h.good _ d;obtain⟨u,ps,f,a⟩:=h.own.lookup K j m (zd := .nil) (zp:=[]) rfl l.lit;rw[c] at a;rw[f,ptrR_block a]
def Vv.look_none{w:World}{t e:Nat}(h:Vv P k w g r)(K:Keyed P k)(f:P.underlying t=some (.map k e))(j:(zeroValue e).run P w = .ok (aP none) w)(b:U4 P k v)(c:v∉r.map (·.1)):
 (Instr.lookup t (.map (some g)) v false).run P w = .ok (aP none) w:=by
 obtain⟨u,ps,d,a⟩:=h.own.lookup K f j (zd := .nil) (zp:=[]) rfl b.lit;rw[(Zu8 K b r h.good).2 c] at a;rw[d,ptrR_nil a]
end
section
open Go.Maps (Keyed IsMap Tidy)
open Go.Maps (Keyed IsMap Tidy)
def Zzo.few{w:World}{G:Gr}(h:Zzo w g G S ts):Maps.size (Np prog 257 (ts.map λp=>(kT p.1.1 p.1.2,p.2)))<maxLen:=by
 obtain⟨L,h1,n,o⟩:=F1 Tryz.keyKT _ h.map.good;have d:∀v∈L,∃p∈ts,v=kT p.1.1 p.1.2:=λv r=>by
  obtain⟨q,f,e⟩:=CX.1 (n v r);obtain⟨p,c,rfl⟩:=CX.1 f;exact⟨p,c,e.symm⟩
 have:=Gq codeT 1000000 h1 (λx j y s e=>by
  obtain⟨p,c,rfl⟩:=d x j;obtain⟨q,f,rfl⟩:=d y s;have a:=h.key p c;have b:=h.key q f;rw[Zx1,Zx1] at e;unfold Zp at e a b;have l:p.1.1=q.1.1:=AA
  have m:p.1.2=q.1.2:=AA
  rw[l,m]) (λx j=>by
  obtain⟨p,c,rfl⟩:=d x j;have a:=h.key p c;rw[Zx1];omega)
 rw[o];unfold maxLen;omega
def Zue.few{w:World}{G:Gr}(h:Zue w g G S d):Maps.size (Np prog 261 (d.map λp=>(kF p.1.1 p.1.2.1 p.1.2.2,p.2)))<maxLen:=by
 obtain⟨L,h1,r,s⟩:=F1 Tryz.keyKF _ h.map.good;have f:∀v∈L,∃p∈d,v=kF p.1.1 p.1.2.1 p.1.2.2:=λv t=>by
  obtain⟨q,j,e⟩:=CX.1 (r v t);obtain⟨p,c,rfl⟩:=CX.1 j;exact⟨p,c,e.symm⟩
 have:=Gq codeF 1000000000 h1 (λx l y u e=>by
  obtain⟨p,c,rfl⟩:=f x l;obtain⟨q,j,rfl⟩:=f y u;have a:=h.key p c;have b:=h.key q j;rw[Zy2,Zy2] at e;have m:p.1.1=q.1.1:=AA
  have n:p.1.2.1=q.1.2.1:=AA
  have o:p.1.2.2=q.1.2.2:=AA
  rw[m,n,o]) (λx l=>by
  obtain⟨p,c,rfl⟩:=f x l;have a:=h.key p c;rw[Zy2];omega)
 rw[s];unfold maxLen;omega
end
section
open Ieee
open Go.Maps (Keyed IsMap Tidy)
def red_id{G:Gr}(a:G.rt=true)(p:∀i,i<(Q G.O)->(Qm G).testBit i=true):Zi G=G:=by
 have c:=Gr.fits a;obtain⟨_,_,_,u,t⟩:=Nd.1 a;have g:∀i,i<(Q G.O)->(Zt G).getD i false=true/\(Z5 G).getD i false=true:=λi hi=>(Gl G c i).1 (p i hi);have k:∀r∈G.U,∀s∈r.rt,s<0->Zp s<(Q G.O):=λr a s b h0=>by
  have:=c.sym r a s b;unfold Zp;omega
 have h:Yh G=G.U:=by
  unfold Yh;rw[List.filter_eq_self];intro r a;have q:=c.L r a;unfold Ky;rw[AS];exact⟨(g _ AA).2,U8.2 λs b=>⟨λ_=>rfl,λh0=>(g _ (k r a s b h0)).1⟩⟩
 have f:Ze G=List.range (Q G.O):=by
  unfold Ze;rw[h,lefts_range G _ _ t];congr 1;omega
 have h1:(Ze G).map (Ws G)=G.O:=by
  rw[f];refine List.ext_getElem? λj=>?_;rw[BB];by_cases d:j<(Q G.O)
  ·rw[List.getElem?_range d,AL d];show some (Ws G j)=_;unfold Ws;rw[AL d];rfl
  rw[BE (by simpa using d),BE AA];rfl
 have n:(Yh G).map (Wb (Ze G))=G.U:=by
  rw[h,f]
  conv=>rhs;rw[<-List.map_id G.U]
  refine List.map_congr_left λr a=>?_;have q:=c.L r a;have l:toI (List.range (Q G.O)) r.L.toNat=r.L:=by rw[Am AA];omega
  have m:r.rt.map (Xd (List.range (Q G.O)))=r.rt:=by
   conv=>rhs;rw[<-List.map_id r.rt]
   refine List.map_congr_left λs b=>?_;unfold Xd;split
   ·rename_i h0;rw[Am (k r a s b h0)];show -1-((Zp s:Nat):Int)=s;exact Fr h0
   rfl
  unfold Wb;rw[l,m];rfl
 have o:toI (Ze G) G.zt.toNat=G.zt:=by rw[f,Am AA];omega
 unfold Zi;rw[h1,n,o]
def red_twice{G:Gr}(b:G.rt=true)(a:(Zt G).getD G.zt.toNat false=true):Zi (Zi G)=Zi G:=red_id (Ju b a) λi hi=>red_use b a hi
def Dx{G:Gr}(f:G.rt=true)(d:Xp G=true)(g:Vh (Zi G)=0):Xq (Zi G)/\Ni (Zi G) (N5 (Zi G)).1:=by
 have a:(Zt G).getD G.zt.toNat false=true:=by unfold Xp at d;rw[AS] at d;exact d.2
 have b:=Gr.fits f;have c:=Ju f a;have n:=Jm b a;have m:(Zt (Zi G)).getD (Zi G).zt.toNat false=true:=by rw[Zuo b a];exact Zxa b (Gr.fits c) n
 obtain⟨j,k,h⟩:=U7 c m (red_twice f a) g;have l:(N5 (Zi G)).1=(Y4 (Yz (Zi G)) (Qm (Zi G)) (Zi G).O.length (Zi G).O.length).1:=by unfold N5;rw[c,k];rfl
 exact⟨j,by rw[l];exact h⟩
end
def Bb{G:Gr}{n:Int}(g:G.rt=true)(q:0<=n/\n<=10)(h0:(Z2 G n).2=0)(b:0<val (Z2 G n).1):
 Xp G=true/\Zxy (Zi G)/\Xq (Zi G)/\Zv (Zi G) (-1-(Zi G).zt) n.toNat<big/\val (Z2 G n).1=Zv (Zi G) (-1-(Zi G).zt) n.toNat/\(Z2 G n).1=Zq3 (Zv (Zi G) (-1-(Zi G).zt) n.toNat):=by
 have k:¬(G.rt=false\/n<0\/10<n):=by
  rintro (h | h | h)
  ·rw[g] at h;cases h
  ·omega
  omega
 unfold Z2 at h0 b ⊢;rw[if_neg k] at h0 b ⊢;by_cases a:Xp G=false
 ·rw[if_pos a] at b;exact absurd b AC
 rw[if_neg a] at h0 b ⊢;have a:Xp G=true:=by simpa using a
 obtain⟨m,rfl⟩:∃m:Nat,n=(m:Int):=⟨n.toNat,AA⟩;obtain⟨c,o,p,l,d⟩:=Zt8 h0;have f:=Zua c o p l;have j:=(Dx g a c.cyc).1;rw[N7] at d f;rw[Km d] at f;rw[f];simp only[DH];exact⟨a,c,j,d,Yd _,trivial⟩
def Zzy{G:Gr}{n:Nat}(f:G.rt=true)(p:n<=10)(d:Xp G=true)(h0:(Z2 G (n:Int)).2=0):
 Zxy (Zi G)/\Xq (Zi G)/\Zv (Zi G) (-1-(Zi G).zt) n<big/\(Z2 G (n:Int)).1=Zq3 (Zv (Zi G) (-1-(Zi G).zt) n)/\val (Z2 G (n:Int)).1=Zv (Zi G) (-1-(Zi G).zt) n:=by
 have k:¬(G.rt=false\/(n:Int)<0\/10<(n:Int)):=by
  rintro (h | h | h)
  ·rw[f] at h;cases h
  ·omega
  omega
 have g:Z2 G (n:Int)=Wi (Zi G) [-1-(Zi G).zt] (n:Int):=by
  unfold Z2;rw[if_neg k,if_neg (by rw[d];decide)]
 rw[g] at h0 ⊢;obtain⟨a,m,o,l,b⟩:=Zt8 h0;have c:=Zua a m o l;have j:=(Dx f d a.cyc).1;rw[N7] at b c;rw[Km b] at c;rw[c];exact⟨a,j,b,rfl,Yd _⟩
end
section
variable{a:World}{Ar:Option Addr}{L:ByteArray}{rs:List ByteArray}{g:List Value}{B n:Nat}{v:Value}{t:TypeId}{xs:List Nat}{l m:List (List Nat)}
def Ca(p:Nat)(a b:Int)(t:Tk)(ts:List Tk)(w:World)(h:Wc w p (t::ts))(hi:isP a b (t::ts)=true):
 Calls prog 132 #[aP (some ⟨p,0,aN⟩),aI aJ a,aI aJ b] w λe w'=>(∃x y,e = aR (aG #[aS t.2,.complex .f64 x y]))/\Wc w' p ts/\w.grownBy w' (some p):=by
 have H:=h.len;have B:=Zy w (aC #[aS ⟨#[]⟩,.complex .f64 0 0] 124);have o:=LH (rd_is p a b (t::ts) _ (h.below B));rw[hi] at o;obtain⟨A,c,x,y,N,O,g,W,l,L,Y,Z,q3⟩:=h.parts;obtain⟨b,n,d,f,rfl,P,V,r0,r1,r2⟩:=g.head;have q:(t::ts).length=(Q ts)+1:=rfl;have I:=g.2.1;have T:=g.2.2.1;rw[q] at L H I;have z:=LH g;have v:=LH l;have X:∀(w:World) (a:Addr) (k:FloatKind) (x y:Nat) (m:Mode),(store a (.complex k x y) m).run prog w=stored prog w a (.complex k x y) m:=λw a k x y m=>run_store prog w a _ m rfl;have R:b≠p:=AA
 have U:=l.frozen 0;have fin:∀(S:Value) (j:Option Addr),S = K j (Q ts) (c-1)->Kq w p j (Q ts) (c-1) ts->
  Wc (((w.setCell ⟨p,0,aN⟩ S).alloc (aC #[aS t.2,.complex .f64 d f] 124)).alloc (aC #[aI aJ t.1,aS t.2,.complex .f64 d f] 181)) p ts /\
  w.grownBy (((w.setCell ⟨p,0,aN⟩ S).alloc (aC #[aS t.2,.complex .f64 d f] 124)).alloc (aC #[aI aJ t.1,aS t.2,.complex .f64 d f] 181)) (some p) /\
  Blk (((w.setCell ⟨p,0,aN⟩ S).alloc (aC #[aS t.2,.complex .f64 d f] 124)).alloc (aC #[aI aJ t.1,aS t.2,.complex .f64 d f] 181)) w 124 #[aS t.2,.complex .f64 d f]:=by
  intro S j C D;have u:w.grownBy (((w.setCell ⟨p,0,aN⟩ S).alloc (aC #[aS t.2,.complex .f64 d f] 124)).alloc (aC #[aI aJ t.1,aS t.2,.complex .f64 d f] 181)) (some p) :=
   Zc (Zd w p 0 S) (Xz _ (Zo (Zy _ _) _))
  have J:(w.setCell ⟨p,0,aN⟩ S).heap.size=w.heap.size:=AE
  refine⟨⟨AA,j,c-1,x,y,N,O,?_,D.grown u (AJ _)⟩,u,?_⟩
  ·have:=((l.set 0 S).ext (Zy _ (aC #[aS t.2,.complex .f64 d f] 124))).ext (Zy _ (aC #[aI aJ t.1,aS t.2,.complex .f64 d f] 181));rw[C] at this ⊢;exact this
  have:=(Blk.new (w.setCell ⟨p,0,aN⟩ S) 124 #[aS t.2,.complex .f64 d f]).ext (Zy _ (aC #[aI aJ t.1,aS t.2,.complex .f64 d f] 181));rwa [J] at this
 have r:=g.tail;rw[q,Nat.add_sub_cancel] at r;have Fin:=LH fin
 have s:=LH r;have G:c=1\/(¬c=1):=Classical.em _;clear h g l hi q fin r z v;rcases G with rfl | E
 ·have F:=LH (Fin.out (K (some ⟨b,n,aN⟩) (Q ts) 0) (some ⟨b,n,aN⟩) rfl (by have:=s.out;rwa [if_pos rfl] at this));rw[show (Q ts)=0 by omega] at F;go_enter func132,ntmps132;go_wp2_with (go_at_call 185;(with_reducible refine o.out.mono ?_);rintro e M⟨rfl,rfl⟩);refine AW (AX (p:=6) AB _ _ w 124 #[aS t.2,.complex .f64 d f] (0,0) _ rfl F.out.2.2 underlying124 rfl AB) rfl ?_;exact⟨⟨_,_,rfl⟩,F.out.1,F.out.2.1⟩
 have F:=LH (Fin.out (K (some ⟨b,n+3,aN⟩) (Q ts) (c-1)) (some ⟨b,n+3,aN⟩) rfl (by have:=s.out;rwa [if_neg E] at this));go_enter func132,ntmps132;go_wp2_with (go_at_call 185;(with_reducible refine o.out.mono ?_);rintro e M⟨rfl,rfl⟩);refine AW (AX (p:=6) AB _ _ w 124 #[aS t.2,.complex .f64 d f] (0,0) _ rfl F.out.2.2 underlying124 rfl AB) rfl ?_;exact⟨⟨_,_,rfl⟩,F.out.1,F.out.2.1⟩
def rd_refs(p:Nat)(ts:List Tk)(w:World)(h:Wc w p ts):
 Calls prog 184 #[aP (some ⟨p,0,aN⟩)] w λe w'=>∃A c cs,e = aR (K A (Xa ts).1.length c) /\
  w'.ownsRow w.heap.size 124 2 (K A (Xa ts).1.length c) (Xa ts).1.length cs/\Gi cs (Xa ts).1/\Wc w' p (Xa ts).2/\w.grownBy w' (some p):=by
 have hl:=h.len;have L:=h.lt;have S:=LH h;have J:(prog.info? 124).map (λi=>(i.zero,i.size,i.bytes))=some (some (aG #[aS ⟨#[]⟩,.complex .f64 0 0]),2,32):=AB
 have T:=LH J;clear h J;go_enter func184,ntmps184;go_wp2_with fail;go_loopw [3] (λo wr=>∃(d c:Nat) (A:Option Addr) (done:List ByteArray) (a:List Tk) (cs:List Value),o = K A d c/\d+(Q a)<=4000/\Hid (d=(Q done))/\Hid (done++(Xa a).1=(Xa ts).1)/\Hid ((Xa a).2=(Xa ts).2) /\
  Hid (wr.ownsRow w.heap.size 124 2 (K A d c) d cs)/\Hid (Gi cs done)/\Hid (Wc wr p a)/\Hid (w.grownBy wr (some p))) (λ_ wr=>Zyp wr p)
 case atStart=>exact⟨0,0,aN,[],ts,[],rfl,AA,LH rfl,LH rfl,LH rfl,LH (BL _ _ _ _),LH Gi.nil,S,LH (Jl _ _)⟩
 obtain⟨d,c,A,done,a,cs,rfl,H,B,n,q,C,z,g,l⟩:=hrel;have f:=LH (rd_is p 1 2 a wr g.out);rw[Ztj] at f;by_cases b:Fz (Qy a)=true
 case neg =>
  have r:Fz (Qy a)=false:=by simpa using b
  have k:Hid (done=(Xa ts).1/\a=(Xa ts).2):=LH (by
   have E:=n.out;have F:=q.out;rw[Zt2 r] at E F;exact⟨by simpa using E,F⟩)
  rw[r] at f;clear b r;go_wp2_with (go_at_call 185;(with_reducible refine f.out.mono ?_);rintro e v⟨rfl,rfl⟩);go_ret;have G:d=(Xa ts).1.length:=by rw[<-k.out.1];exact B.out
  refine⟨A,c,cs,by rw[<-G];rfl,?_,?_,?_,l.out⟩
  ·rw[<-G];exact C.out
  ·rw[<-k.out.1];exact z.out
  rw[<-k.out.2];exact g.out
 cases a with
 | nil=>cases b
 | cons t a =>
   have u:=Zw3 (t:=t) (ts:=a) b;have CT:=LH (Ca p 1 2 t a wr g.out (by rw[Ztj];exact b));have X:Hid ((done++[t.2])++(Xa a).1=(Xa ts).1):=LH (by rw[<-n.out,u];simp);have Y:Hid ((Xa a).2=(Xa ts).2):=LH (by rw[<-q.out,u]);have V:Hid (Zyp wr p=(Q a)+1):=LH (by rw[g.out.rem];rfl);have af:d+(Q a)+1<=4000:=by simp only[AY] at H;omega
   rw[b] at f;clear b u n q H;generalize t.2=s at *;go_wp2_with (first
    | (go_at_call 185;(with_reducible refine f.out.mono ?_);rintro e v⟨rfl,rfl⟩)
    | (go_at_call 132;(with_reducible refine CT.out.mono ?_);rintro e v⟨⟨x,y,rfl⟩,M,j⟩
       have U:=LH M;have P:=LH (Zc l.out j);have m:=LH (Qg C.out j L);have aa:=BC l.out.size j.size;clear M j)
    | (at_builtin;refine Ye rfl _ _ 130 rfl w.heap.size 124 _ 2 32 underlying130 T.out AC AC A d c cs rfl m.out [aS s,.complex .f64 x y] rfl rfl (by simp[Value.oneCell']) AA AA aa ?_;intro N Z w4 ho I ha))
   have D:=LH (U.out.app I m.out L);have R:=LH (grown_app P.out I m.out (AJ _));have O:Hid (d+1=(done++[s]).length):=LH (by rw[AU,<-B.out];rfl);have W:Hid (Zyp w4 p=(Q a)):=LH D.out.rem;go_roundw
   case rel=>exact⟨d+1,Z,N,done++[s],a,_,rfl,AA,O,X,Y,LH ho,LH (z.out.snoc s x y),D,R⟩
   rw[V.out,W.out];omega
def Zyt.late{wr:World}{p:Nat}{cr:Nat}{x y:Nat}{j:List Tk}{k:TypeId}(c:wr.drew.grownBy a (some p))(f:a.ownsRow wr.drew.heap.size k 2 (K Ar (Q rs) cr) (Q rs) g)(m:Gi g rs)(l:Wc a p j):
 Zyt wr (a.alloc (aC #[aS L,.complex .f64 x y,K Ar (Q rs) cr,aS ⟨#[]⟩,.complex .f64 0 0] 132)) p a Ar cr L x y rs j:=by
 have d:=Zy a (aC #[aS L,.complex .f64 x y,K Ar (Q rs) cr,aS ⟨#[]⟩,.complex .f64 0 0] 132);refine⟨c.size,Blk.new _ _ _,(own_rfs f m).below d,λb n h=>?_,l.below d,?_⟩
 ·have h1:wr.heap.size<=b/\b<a.heap.size:=f.lt b (by rw[h];rfl);exact⟨h1.1,AK h1.2 d.size⟩
 have h1:wr.grownBy a (some p):=⟨c.os,c.tape,c.output,c.size,c.block⟩;exact Zc h1 (Xz _ d)
def Zsd(p q:Nat)(ts:List Tk)(ps:List Prd)(rest:List Tk)(w:World)(h:Wc w p ts)(r:Fj q ts=some (ps,rest)):
 Calls prog 133 #[aP (some ⟨p,0,aN⟩)] w λe w'=>∃A c cs,e = aR (K A (Q ps) c) /\
  w'.ownsRow w 132 5 (K A (Q ps) c) (Q ps) cs/\Vu w' (λb=>w.heap.size<=b/\(K A (Q ps) c).ownBlock≠some b) cs ps/\Wc w' p rest/\w.grownBy w' (some p):=by
 have hp:=h.lt;have hl:=h.len;obtain⟨a,b,I,rfl,ha,hb,r⟩:∃a b I,ts=a::b::I/\a.1=1/\b.1=10/\L9 a.2 q I=some (ps,rest):=by
  cases ts with
  | nil=>cases r
  | cons a ts =>
    cases ts with
    | nil=>cases r
    | cons b ts =>
      have r:(if a.1=1/\b.1=10 then L9 a.2 q ts else aN)=some (ps,rest):=r;by_cases ae:a.1=1/\b.1=10
      ·rw[if_pos ae] at r;exact⟨a,b,ts,rfl,ae.1,ae.2,r⟩
      rw[if_neg ae] at r;cases r
 have br:=LH (Ca p 1 1 a (b::I) w h (by simp[isP,ha]));have C2:=LH λ(W:World) (E:Wc W p (b::I))=>Ca p 10 10 b I W E (by simp[isP,hb]);have b0:=LH r;simp only[AY] at hl;have bj:(prog.info? 132).map (λi=>(i.zero,i.size,i.bytes))=some (some (aG #[aS ⟨#[]⟩,.complex .f64 0 0,K aN 0 0,aS ⟨#[]⟩,.complex .f64 0 0]),5,88):=AB
 have Hi:=LH bj;have c2:∀(w:World) (a:Addr) (k:FloatKind) (x y:Nat) (m:Mode),(store a (.complex k x y) m).run prog w=stored prog w a (.complex k x y) m:=λw a k x y m=>run_store prog w a _ m rfl;clear h r ha hb bj;generalize a.2=L at *;go_enter func133,ntmps133;go_wp2_with (go_at_call 132;(with_reducible refine br.out.mono ?_);rintro e f⟨⟨x,y,rfl⟩,G,l⟩);have bn:=G.below (Zy f (aC #[aS L,.complex .f64 x y] 124));have bd:=Blk.new f 124 #[aS L,.complex .f64 x y];have ct:p<f.heap.size:=G.lt;have bg:f.grownBy (f.alloc (aC #[aS L,.complex .f64 x y] 124)) (some p):=Xz _ (Zy _ _);have cv:=l.size;(with_reducible refine (C2.out _ bn).mono ?_);rintro e z⟨⟨x3,y3,rfl⟩,aw,ar⟩;have aq:=bd.grown ar (by intro e;injection e with e;omega);have a5:=LH (Zc l (Zc bg ar));have F:p<z.heap.size:=aw.lt;have cq:=aq.lt;have b2:=LH aw;generalize f.heap.size=g at *;clear G l bn bd bg ar aw;go_wp2_with fail;go_loopw [3] (λo wr=>∃(d c:Nat) (A:Option Addr) (done:List Prd) (t:List Tk) (cs:List Value),o = K A d c/\d+(Q t)<=4000/\Hid (d=(Q done))/\Hid (∃q' az,L9 L q' t=some (az,rest)/\done++az=ps) /\
  Hid (wr.ownsRow z 132 5 (K A d c) d cs)/\Hid (Vu wr (λb=>z.heap.size<=b/\(K A d c).ownBlock≠some b) cs done)/\Hid (Wc wr p t)/\Hid (z.grownBy wr (some p))) (λ_ wr=>Zyp wr p)
 case atStart=>exact⟨0,0,aN,[],I,[],rfl,AA,LH rfl,LH ⟨q,ps,b0.out,rfl⟩,LH (BL _ _ _ _),LH (Vu.nil _ _),b2,LH (Jl _ _)⟩
 obtain⟨d,c,A,done,t,cs,rfl,cp,Hd,Hq,Ho,Hc,Hr,Hg⟩:=hrel;obtain⟨q',az,bm,af⟩:=Hq.out;obtain⟨u,s,ay,bo⟩:=He bm;have bk:=Zvd t;rw[ay] at bk;simp only[AY] at bk;have R:=aq.grown Hg.out (by intro e;injection e with e;omega);have g0:wr.cell? ⟨g,0,aN⟩=some (aS L):=by rw[R.cell];rfl
 have g1:wr.cell? ⟨g,1,aN⟩=some (.complex .f64 x y):=by rw[R.cell];rfl
 have S:g<wr.heap.size:=R.lt;have Z:=LH λ(W:World) (E:Wc W p t)=>rd_refs p t W E;rw[ay] at Z;have C:=LH λ(k:Int) (W:World) (E:Wc W p (u::s))=>rd_is p k k (u::s) W E;obtain⟨A0,c0,x0,y0,da,dd,_,_,_,_,_,_,q3⟩:=Hr.out.parts;have b7:=LH bo;have bv:=LH R;have co:Hid ((Xa t).1.length=(Xa t).1.length):=rfl;clear bm bo ay R Hq;generalize (Xa t).1=rs at *;go_upto_region 5 with fail;go_cut [5] (λv wx=>∃B Ar cr,v = aP (some ⟨B,0,aN⟩)/\Zyt wr wx p B Ar cr L x y rs (u::s))
 case first =>
  have b4:=LH (Hr.out.below (Zy wr (aC #[aS ⟨#[]⟩,.complex .f64 0 0,K aN 0 0,aS ⟨#[]⟩,.complex .f64 0 0] 132)).drew);have a0:=((Zy wr (aC #[aS ⟨#[]⟩,.complex .f64 0 0,K aN 0 0,aS ⟨#[]⟩,.complex .f64 0 0] 132)).drew.cell (p:=⟨g,0,aN⟩) S).trans g0;have a1:=((Zy wr (aC #[aS ⟨#[]⟩,.complex .f64 0 0,K aN 0 0,aS ⟨#[]⟩,.complex .f64 0 0] 132)).drew.cell (p:=⟨g,1,aN⟩) S).trans g1;have bi:g<(wr.alloc (aC #[aS ⟨#[]⟩,.complex .f64 0 0,K aN 0 0,aS ⟨#[]⟩,.complex .f64 0 0] 132)).drew.heap.size:=AK S (Zy wr _).size;have bh:g≠p:=AA
  have bf:∀W f:World,W.grownBy f (some p)->g<W.heap.size->W.cell? ⟨g,0,aN⟩=some (aS L)->W.cell? ⟨g,1,aN⟩=some (.complex .f64 x y)->f.cell? ⟨g,0,aN⟩=some (aS L)/\f.cell? ⟨g,1,aN⟩=some (.complex .f64 x y) :=
   λW f h1 h2 h3 h4=>⟨(Zrj h1 h2 bh).trans h3,(Zrj h1 h2 bh).trans h4⟩
  go_region_with (first
   | (go_at_call 184;refine (Z.out _ (by exact Hr.out)).mono ?_;rintro e f⟨Ar,cr,ck,rfl,au,ax,G,l⟩;obtain⟨f0,f1⟩:=bf _ _ l S g0 g1;have cd:g<f.heap.size:=AK S l.size)
   | (go_at_call 184;refine (Z.out _ (by exact b4.out)).mono ?_;rintro e f⟨Ar,cr,ck,rfl,au,ax,G,l⟩;obtain⟨f0,f1⟩:=bf _ _ l bi a0 a1
      have cd:g<f.heap.size:=AK bi l.size;have j:Blk f wr 132 #[aS ⟨#[]⟩,.complex .f64 0 0,K aN 0 0,aS ⟨#[]⟩,.complex .f64 0 0]:=Blk.grown (Blk.drew (Blk.new wr _ _)) l (by intro e;injection e with e;omega);have v0:=j.frozen 0;have v1:=j.frozen 1;have v2:=j.frozen 2;have v3:=j.frozen 3;have v4:=j.frozen 4;have z0:=j.cell 0;have z1:=j.cell 1;have z2:=j.cell 2;have z3:=j.cell 3;have z4:=j.cell 4;have bu:=LH j;clear j))
  all_goals
   go_wp2_with fail;go_meet
   first
    | exact⟨_,Ar,cr,rfl,Zyt.late l au ax G⟩
    | exact⟨_,Ar,cr,rfl,Zyt.early AA l au ax G bu.out⟩
 obtain⟨B,Ar,cr,rfl,J⟩:=hcut;have M:=J.blk;have k0:=M.cell 0;have k1:=M.cell 1;have k2:=M.cell 2;have k3:=M.cell 3;have k4:=M.cell 4;have Y:=LH (C.out 8 wc J.rd);have HM:=LH J;have a7:=LH (Qg Ho.out J.gr F);have be:z.heap.size<=wc.heap.size:=BC Hg.out.size J.gr.size;have b5:Hid ((Q s)<Zyp wr p):=LH (by rw[Hr.out.rem];omega);have CT:=LH λ(k:Int) (W:World) (E:Wc W p (u::s)) (hk:u.1=k)=>Ca p k k u s W E (by simp[isP,hk]);have cg:d+1+(Q s)<=4000:=AA
 clear M J g0 g1 q3 Z aq bv;rcases b7.out with ⟨H,bl⟩ | ⟨H,rfl,rfl⟩
 ·rw[show isP 8 8 (u::s)=false by simp[isP,H]] at Y;have bx:=LH bl;have O:=LH H;clear bl H;go_wp2_with (first
   | (go_at_call 185;(with_reducible refine Y.out.mono ?_);rintro e f⟨rfl,rfl⟩)
   | (go_at_call 185;(with_reducible refine N.out.mono ?_);rintro e w5⟨rfl,rfl⟩)
   | (go_at_call 132;(with_reducible refine C5.out.mono ?_);rintro e w5⟨⟨x5,y5,rfl⟩,V,D⟩)
   | (at_builtin;refine Ye rfl _ _ 77 rfl z 132 _ 5 88 underlying77 Hi.out AC AC A d c cs rfl a7.out [aS L,.complex .f64 x y,K Ar (Q rs) cr,aS ⟨#[]⟩,.complex .f64 0 0] rfl rfl (by simp[Value.oneCell']) AA AA be ?_;intro A4 c4 X U T P
      have n:=Zs9 F Hg.out Ho.out Hc.out HM.out T P;have HP:=LH n.1;have HG:=LH n.2.1;have N:=LH (C.out 11 X n.2.2);rw[show isP 11 11 (u::s)=true by simp[isP,O.out]] at N;have C5:=LH (CT.out 11 X n.2.2 O.out);have an:=LH U;clear n U T P))
  have b6:Hid (Zyp w5 p<Zyp wr p):=LH (by rw[V.rem];exact b5.out);have bz:=LH (Qg an.out D F);have bt:=LH (HP.out.grown D F);have bs:=LH (Zc HG.out D);have b3:=LH V;have bw:Hid (d+1=(done++[(⟨L,rs,⟨#[]⟩⟩:Prd)]).length):=LH (by rw[AU,<-Hd.out];rfl);have b1:Hid (∃q' bp,L9 L q' s=some (bp,rest)/\(done++[⟨L,rs,⟨#[]⟩⟩])++bp=ps):=LH (by
   obtain⟨q2,m2,h1,h2⟩:=bx.out;exact⟨q2,m2,h1,by rw[<-af,h2];simp⟩)
  clear af V D;go_roundw
  case rel=>exact⟨d+1,c4,A4,_,s,_,rfl,cg,bw,b1,bz,bt,b3,bs⟩
  exact b6.out
 rw[show isP 8 8 (u::rest)=false by simp[isP,H]] at Y;have O:=LH H;clear H;go_wp2_with (first
  | (go_at_call 185;(with_reducible refine Y.out.mono ?_);rintro e f⟨rfl,rfl⟩)
  | (go_at_call 185;(with_reducible refine N.out.mono ?_);rintro e w5⟨rfl,rfl⟩)
  | (go_at_call 132;(with_reducible refine C5.out.mono ?_);rintro e w5⟨⟨x5,y5,rfl⟩,V,D⟩)
  | (at_builtin;refine Ye rfl _ _ 77 rfl z 132 _ 5 88 underlying77 Hi.out AC AC A d c cs rfl a7.out [aS L,.complex .f64 x y,K Ar (Q rs) cr,aS ⟨#[]⟩,.complex .f64 0 0] rfl rfl (by simp[Value.oneCell']) AA AA be ?_;intro A4 c4 X U T P
     have n:=Zs9 F Hg.out Ho.out Hc.out HM.out T P;have HP:=LH n.1;have HG:=LH n.2.1;have N:=LH (C.out 11 X n.2.2);rw[show isP 11 11 (u::rest)=false by simp[isP,O.out]] at N;have C5:=LH (CT.out 12 X n.2.2 O.out);have an:=LH U;clear n U T P))
 go_ret;have av:(Q ps)=d+1:=by rw[<-af,AU,<-Hd.out];rfl
 have a9:w.heap.size<=z.heap.size:=a5.out.size;refine⟨A4,c4,cs++[aS L,.complex .f64 x y,K Ar (Q rs) cr,aS ⟨#[]⟩,.complex .f64 0 0],by rw[av];rfl,?_,?_,V,Zc a5.out (Zc HG.out D)⟩
 ·rw[av];exact Zzw (Qg an.out D F) a9
 rw[av,<-af];exact (HP.out.grown D F).keep (AJ _) λk _ bb=>⟨rfl,BC a9 bb.1,bb.2⟩
def wk_terminal(p:Nat)(h:GH)(G f:Gr)(i:Int)(s:ByteArray)(x y:Nat)(w:World)(k:Wk w p B h G)(O:Zzj G s=some (i,f)):
 Calls prog 187 #[aP (some ⟨p,0,aN⟩),aG #[aS s,.complex .f64 x y]] w λe w'=>e = aR (aI aJ i)/\∃F,Wk w' p B F f/\V6 w w' p h F:=by
 obtain⟨a1,n1,c1,a2,n2,c2,a3,n3,c3⟩:=h;obtain⟨P,l2,l3⟩:=k.lens;have N:=k.st;have a0:n1<=24:=k.b1;have I:=Zy w (aC #[aS s,.complex .f64 x y] 124);have d:=Blk.new w 124 #[aS s,.complex .f64 x y];have m:=k.below I;have L:(prog.info? 140).map (λi=>(i.zero,i.size,i.bytes))=some (some (aG #[aS ⟨#[]⟩,aI aJ 0,aI aJ 0]),3,32):=AB
 have X:=LH L;have n:=LH O;simp only[] at P l2 l3;clear O L k;go_enter func187,ntmps187;go_wp2_with fail;generalize ae:w.alloc (aC #[aS s,.complex .f64 x y] 124)=c at *;have ay:w.heap.size<c.heap.size:=d.lt;obtain⟨hp,R,S,T,z3,z7,ar,v0,v1,v2⟩:=m.cells;have y0:c.cell? ⟨w,0,aN⟩=some (aS s):=d.cell 0;have y1:c.cell? ⟨w,1,aN⟩=some (.complex .f64 x y):=d.cell 1;simp only[] at R S T;have q:=λ(x:Ext c)=>C6 ⟨a1,n1,c1,a2,n2,c2,a3,n3,c3⟩ G s (bl c x) (m.grAt.below (Zr c x)) (by simp only[];omega);rw[N] at q;have CT:=LH q;have Y:=LH m;have W:=LH d;have bc:=Yt c;clear q m d ae N;refine Zs AB AB ?_;repeat (go_big_quiet_step ((go_at_call 114;with_reducible exact Ve (CT.out _))))
 refine BJ ?_;rintro _⟨x,rfl⟩;have j:=Zr c x;generalize bl c x=a at *;have u:=Y.out.below j;have r:=W.out.ext j;have g:=LH u;have z:=LH (Zz I j);obtain⟨a5,u0,u1,u2,u3,u7,u10,a7,a8,a9⟩:=u.cells;have ba:a.cell? ⟨w,0,aN⟩=some (aS s):=r.cell 0;have az:w.heap.size<a.heap.size:=r.lt;simp only[] at u0 u1 u2;clear u r bc CT y0 y1 R S T z3 z7 ar v0 v1 v2 j;by_cases H:0<=G.term s
 ·have E:Hid (i=G.term s/\f=G):=LH (by
   have:=n.out;unfold Zzj at this;rw[if_pos H] at this;simp only[BT,DM] at this;exact⟨this.1.symm,this.2.symm⟩)
  generalize G.term s=ti at *;go_wp2_with fail;go_ret;exact⟨by rw[E.out.1];rfl,_,by rw[E.out.2];exact g.out,V6.of_below z.out _ _⟩
 have ad:¬n1=24/\i=(n1:Int)/\f={ G with T:=G.T++[⟨s,0,0⟩] }:=by
  have:=n.out;unfold Zzj at this;rw[if_neg H] at this;split at this
  ·cases this
  rename_i v;simp only[BT,DM] at this;rw[P] at v this;exact⟨v,this.1.symm,this.2.symm⟩
 obtain⟨v,rfl,rfl⟩:=ad;have aw:((n1:Int)==24)=false:=by rw[AR];omega
 generalize G.term s=ti at *;have Z:=LH (g.out.r1);clear n;go_wp2_with fail;have C:Hid ((a.drew.alloc (aC #[aS s,aI aJ 0,aI aJ 0] 140)).ownsRow (p+1) 140 3 (K a1 n1 c1) n1 (V8 G.T)):=M5 Z.out ((AP a a).drew.alloc (AJ _) _);have l:Below a a (a.drew.alloc (aC #[aS s,aI aJ 0,aI aJ 0] 140)):=(AP a a).drew.alloc (AJ _) _;have V:=LH (g.out.blk.ext l);have A:=LH l;have ag:p+1<=(a.drew.alloc (aC #[aS s,aI aJ 0,aI aJ 0] 140)).heap.size:=by have:=l.size;omega
 clear l;go_region_law (first
  | (refine V5 rfl _ _ 22 rfl (p+1) 140 _ 3 32 underlying22 X.out AC AC a1 n1 c1 (V8 G.T) (by simp[Act.eval,Act.put]) (by exact C.out) ⟨a,0,aN⟩ 1 1 [aS s,aI aJ 0,aI aJ 0] rfl (by simp[Act.eval,Act.put]) (by exact Qn a.drew [aS s,aI aJ 0,aI aJ 0] _) (by simp[Value.oneCell']) AA AA (by exact ag) ?_;intro U c4 w4 M t J
     have o:=V.out.grown t (by intro e;have:=(C.out.lt p e.symm).1;omega);have q0:w4.cell? ⟨p,0,aN⟩=some (K a1 n1 c1):=o.cell 0;have f0:=o.frozen 0;have D:=LH (g.out.put1 ⟨s,0,0⟩ (by simp only[];omega) U c4 M (Zc (Xz _ A.out) t) (λb hb ah=>J b hb (AK ah A.out.size)));clear o M t J))
 all_goals
  go_wp2_with fail;go_ret;refine⟨by congr 2 <;> omega,_,D.out.1,(V6.of_below z.out p _).trans D.out.2⟩
def Zv1(p:Nat)(h:GH)(G d:Gr)(i:Int)(s:ByteArray)(R:Bool)(x y:Nat)(w:World)(k:Wk w p B h G)(O:Nl R G s=some (i,d)):
 Calls prog 137 #[aP (some ⟨p,0,aN⟩),aG #[aS s,.complex .f64 x y],aB R] w λe w'=>e = aR (aI aJ i)/\∃J,Wk w' p B J d/\V6 w w' p h J:=by
 have ar:=Bu O;have I:=λ(W:World) (hW:Wk W p B h G) (o:Zzj G s=some (i,d))=>wk_terminal p h G d i s x y W hW o;obtain⟨a1,n1,c1,a2,n2,c2,a3,n3,c3⟩:=h;obtain⟨l1,P,l3⟩:=k.lens;have C:=k.st;have bb:n1<=24:=k.b1;have bd:n2<=16:=k.b2;have L:=Zy w (aC #[aS s,.complex .f64 x y] 124);have l:=Blk.new w 124 #[aS s,.complex .f64 x y];have m:=k.below L;have Y:=LH I;simp only[] at l1 P l3;have N:=U9 (λt=>decide (t=s)) G.O;have ba:-1<=G.non s/\G.non s<(n2:Int):=by rw[<-P];exact N
 clear k O I N;go_enter func137,ntmps137;go_wp2_with fail;generalize al:w.alloc (aC #[aS s,.complex .f64 x y] 124)=b at *;have a8:w.heap.size<b.heap.size:=l.lt;obtain⟨hp,U,V,X,z3,z7,a0,v0,v1,v2⟩:=m.cells;have y0:=l.cell 0;simp only[] at U V X;have r:=λ(x:Ext b)=>Zu5 ⟨a1,n1,c1,a2,n2,c2,a3,n3,c3⟩ G s (bl b x) (m.grAt.below (Zr b x)) (by simp only[];omega);rw[C] at r;have E:=LH r;have ad:=LH m;have aa:=LH l;have af:=LH C;have bc:=Yt b;clear r m l al C;refine Zs AB AB ?_;repeat (go_big_quiet_step ((go_at_call 74;with_reducible exact Ve (E.out _))))
 refine BJ ?_;rintro _⟨S,rfl⟩;have j:=Zr b S;generalize bl b S=a at *;have n:=ad.out.below j;have f:=aa.out.ext j;have H:=LH n;have ab:=LH f;have F:=LH (Zz L j);obtain⟨bf,u0,u1,u2,u3,u7,u10,bk,bm,bn⟩:=n.cells;have bp:=f.cell 0;have bq:=f.cell 1;have a9:w.heap.size<a.heap.size:=f.lt;simp only[] at u0 u1 u2;have u:=λ(x:Ext a)=>C6 ⟨a1,n1,c1,a2,n2,c2,a3,n3,c3⟩ G s (bl a x) (n.grAt.below (Zr a x)) (by simp only[];omega);rw[af.out] at u;have CT:=LH u;have q:=LH λ(x:Ext a)=>Gb s (bl a x);have bc2:=Yt a;clear n f bc E y0 U V X z3 z7 a0 v0 v1 v2 j u;rcases ar with ⟨an,rfl,rfl,rfl⟩ | ⟨an,o,aq⟩
 ·generalize ao:d.non s=D at *;have bg:IntKind.i64.wrap (-1-D)=-1-D:=BZ _ AA;go_wp2_with fail;go_ret;exact⟨by rw[ao];rfl,_,H.out,V6.of_below F.out _ _⟩
 have ag:=LH o;clear o;generalize G.non s=D at *;rcases aq with g | ⟨g,c⟩ | ⟨g,c,v⟩
 case' inr.inl=>generalize G.term s=ti at *
 case' inr.inr.inl =>
  rw[show G.term s=-1 by have z:=(U9 (λt=>decide (t.name=s)) G.T).1;have h6:G.term s=Y8 (λt=>decide (t.name=s)) G.T:=rfl;omega] at CT;clear g;have e2:H5 (Zh s)=true:=c;rw[c] at q
 case' inr.inr.inr =>
  rw[show G.term s=-1 by have z:=(U9 (λt=>decide (t.name=s)) G.T).1;have h6:G.term s=Y8 (λt=>decide (t.name=s)) G.T:=rfl;omega] at CT;clear g;have e2:(s.toList==[101,114,114,111,114])=true:=by rw[v,ByteArray.toList_eq];rfl
  rw[c] at q
 all_goals
  try have a6:=LH c
  try have a7:=LH v
  try clear c
  try clear v
  go_wp2_with fail;refine Zs AB AB ?_;repeat (go_big_quiet_step (first | (go_at_call 114;with_reducible exact Ve (CT.out _)) | (go_at_call 169;with_reducible exact Qo (q.out _))))
  refine BJ ?_;rintro _⟨T,rfl⟩;have A:=Zr a T;have ae:=LH (H.out.below A);have M:=ab.out.ext A;generalize bl a T=W3 at *;have Z:=LH (Zz F.out A);have t0:=M.cell 0;have t1:=M.cell 1;go_wp2_with (go_at_call 187;(with_reducible refine (Y.out _ ae.out ag.out).mono ?_);rintro e w5⟨rfl,z,am,ap⟩);go_ret;exact⟨rfl,z,am,(V6.of_below Z.out _ _).trans ap⟩
def Zwr.late{W:World}{n:Int}(b:Below W W a):Zwr W (a.alloc (aC #[aI aJ n,K aN 0 0,aI aJ (-1)] 60)) a n :=
 ⟨b.size,Blk.new _ _ _,Zo b _⟩
def wk_prod(p:Nat)(h:GH)(G G':Gr)(q:Prd)(Ar:Option Addr)(cr x y x' y':Nat)(w:World)(k:Wk w p B h G)(hB:B<=w.heap.size)(hR:∀w',Below p w w'->Rfs w' Ar (Q q.rt) cr q.rt)(hn:(Q q.rt)<=4000)(F:prodP G q=some G'):
 Calls prog 73 #[aP (some ⟨p,0,aN⟩),aG #[aS q.L,.complex .f64 x y,K Ar (Q q.rt) cr,aS q.P,.complex .f64 x' y']] w λe w'=>e = aR (.tuple #[])/\∃h',Wk w' p w'.heap.size h' G'/\V6 w w' p h h':=by
 have ff:=(hR w (AP _ _)).1;have gq:=(hR w (AP _ _)).2.1;have gr:=(hR w (AP _ _)).2.2.1;obtain⟨bt,qp,M,l,Y,qr,qG⟩:(Q G.U)≠40/\q.P=⟨#[]⟩/\∃M l Y,Ko G q.rt [] (-1)=some (M,l,Y)/\G'={ M with U:=M.U++[⟨G.non q.L,l,Y⟩] }:=by
  unfold prodP at F;split at F
  ·cases F
  rename_i dw;split at F
  ·rename_i hp;split at F
   ·cases F
   rename_i M l pr hr;injection F with F;exact⟨dw,hp,M,l,pr,hr,F.symm⟩
  cases F
 obtain⟨a1,n1,c1,a2,n2,c2,a3,n3,c3⟩:=h;obtain⟨l1,l2,l3⟩:=k.lens;simp only[] at l1 l2 l3;have gx:n1<=24:=k.b1;have gy:n2<=16:=k.b2;have bp:=k.st;have bl:=U9 (λt=>decide (t=q.L)) G.O;have g0:-1<=G.non q.L/\G.non q.L<(n2:Int):=by rw[<-l2];exact bl
 have av:=Zy w (aC #[aS q.L,.complex .f64 x y,K Ar (Q q.rt) cr,aS q.P,.complex .f64 x' y'] 132);have ai:=Blk.new w 132 #[aS q.L,.complex .f64 x y,K Ar (Q q.rt) cr,aS q.P,.complex .f64 x' y'];have aj:=(k.mono hB).below av;have HR:=LH hR;have Hk:=LH k;have ge:=LH qr;have dp:=LH qG;have gj:((n3:Int)==40)=false:=by rw[AR];rw[l3] at bt;omega
 have gz:n3<40:=by have:n3<=40:=k.b3;rw[l3] at bt;omega
 have d4:Hid (Ko G (q.rt.drop 0) [] (-1)=some (M,l,Y)):=LH qr;rw[qp] at ai av aj ⊢;have ce:(prog.info? 3).map (λi=>(i.zero,i.size,i.bytes))=some (some (aI aJ 0),1,8):=AB
 have cd:(prog.info? 60).map (λi=>(i.zero,i.size,i.bytes))=some (some (aG #[aI aJ 0,K aN 0 0,aI aJ 0]),3,40):=AB
 have dh:=LH ce;have dg:=LH cd;have hc:∀(w:World) (a:Addr) (k:FloatKind) (x y:Nat) (m:Mode),(store a (.complex k x y) m).run prog w=stored prog w a (.complex k x y) m:=λw a k x y m=>run_store prog w a _ m rfl;clear k hR qr qG F bt qp ce cd bl ff;generalize hN:(Q q.rt)=N at *;generalize q.L=L at *;go_enter func73,ntmps73;go_wp2_with fail;generalize d7:w.alloc (aC #[aS L,.complex .f64 x y,K Ar N cr,aS ⟨#[]⟩,.complex .f64 x' y'] 132)=n at *;have gv:w.heap.size<n.heap.size:=ai.lt;obtain⟨hp,z0,z1,z2,z3,z7,f8,v0,v1,v2⟩:=aj.cells;have y0:n.cell? ⟨w.heap.size,0,aN⟩=some (aS L):=ai.cell 0;simp only[] at z0 z1 z2;have T:=λ(W:World) (hW:Below n.heap.size n W)=>Zu5 ⟨a1,n1,c1,a2,n2,c2,a3,n3,c3⟩ G L W (aj.grAt.below hW) (by simp only[];omega);rw[bp] at T;have CN:=LH T;have bx:=LH aj;have dd:=LH ai;have c5:=LH av;generalize g1:G.non L=z at *;have bp:=LH bp;have gt:=LH l1;have gu:=LH l2;have fd:=LH l3;clear T aj ai d7 av l1 l2 l3;go_upto_region 1 with fail;go_cut [4] (λv wx=>∃c,v = aP (some ⟨c,0,aN⟩)/\Zwr n wx c z)
 case first =>
  have hA:=LH ((AP n.heap.size n).drew);have dz:=LH ((Zy n (aC #[aI aJ 0,K aN 0 0,aI aJ 0] 60)).drew);go_region_with (first
   | (go_at_call 74;refine (CN.out _ (by exact hA.out)).mono ?_;rintro e Z⟨rfl,R⟩)
   | (go_at_call 74;refine (CN.out _ (by exact dz.out)).mono ?_;rintro e Z⟨rfl,R⟩
      have S:Blk Z n.heap.size 60 #[aI aJ 0,K aN 0 0,aI aJ 0]:=Blk.ext (Blk.drew (Blk.new n _ _)) R;have r0:=S.frozen 0;have r1:=S.frozen 1;have r2:=S.frozen 2;have s0:Z.cell? ⟨n.heap.size,0,aN⟩=some (aI aJ 0):=S.cell 0;have s1:Z.cell? ⟨n.heap.size,1,aN⟩=some (K aN 0 0):=S.cell 1;have s2:Z.cell? ⟨n.heap.size,2,aN⟩=some (aI aJ 0):=S.cell 2;have db:=LH S;clear S))
  all_goals
   go_wp2_with fail;go_meet
   first
    | exact⟨_,rfl,Zwr.late (Zz ((AP n.heap.size n).drew) R)⟩
    | exact⟨_,rfl,Zwr.early R db.out⟩
 obtain⟨c,rfl,X⟩:=hcut;have bk:=bx.out.below X.bel;have bh:=dd.out.ext X.bel;have bf:=X.blk;have bl:=X.lo;have cp:¬J8 p ⟨a1,n1,c1,a2,n2,c2,a3,n3,c3⟩ c:=λhf=>by have:=bx.out.foot_lt hf;omega
 have co:¬J8 p ⟨a1,n1,c1,a2,n2,c2,a3,n3,c3⟩ w.heap.size:=λhf=>by have:=Hk.out.foot_lt hf;omega
 have ca:=V6.of_below (Zz c5.out X.bel) p ⟨a1,n1,c1,a2,n2,c2,a3,n3,c3⟩;have fa:c<wc.heap.size:=bf.lt;have d9:w.heap.size<wc.heap.size:=bh.lt;obtain⟨g2,cl,cm,cn,fs,ft,fr,_,_,_⟩:=bk.cells;simp only[] at cl cm cn;have dj:=LH bk;have de:=LH bh;have dc:=LH bf;have dl:=LH cp;have dk:=LH co;have c7:=LH ca;have g4:p<w.heap.size:=Hk.out.lt;clear bk bh bf cp co ca X z0 z1 z2 z3 z7 f8 v0 v1 v2 y0 CN;go_wp2_with fail;go_loopw [5] (λv wr=>∃(j:Nat) (r:GH) (P:Gr) (o:List Int) (pr:Int) (d:Option Addr) (f:Nat),v = aI aJ (j:Int)/\j<=N/\wc.heap.size<=wr.heap.size/\Hid (Wk wr p w.heap.size r P)/\Hid (Ko P (q.rt.drop j) o pr=some (M,l,Y))/\Hid (V6 w wr p ⟨a1,n1,c1,a2,n2,c2,a3,n3,c3⟩ r) /\
  Hid (Blk wr c 60 #[aI aJ z,K d j f,aI aJ pr])/\Hid (wr.ownsRow wc.heap.size 3 1 (K d j f) j (ints .i64 o))/\Hid (∀b,(K d j f).ownBlock=some b->¬J8 p r b)/\Hid ((Q o)=j)/\Hid (∀s∈o,-17<=s/\s<=24) /\
  Hid (P.U=G.U)/\Hid (¬J8 p r c)/\Hid (¬J8 p r w.heap.size)/\Hid (Blk wr w.heap.size 132 #[aS L,.complex .f64 x y,K Ar N cr,aS ⟨#[]⟩,.complex .f64 x' y'])) (λv _=>N-(intOf v).toNat)
 case atStart=>exact⟨0,_,G,[],-1,aN,0,rfl,AV _,AJ _,dj,d4,c7,dc,LH (BL _ _ _ _),LH (λb A=>by cases A),LH rfl,LH (λs hs=>by cases hs),LH rfl,dl,dk,de⟩
 clear cl cm cn fs ft fr;obtain⟨j,r,P,o,pr,d,f,rfl,hj,ck,H,b7,HT,ae,Ho,a9,ad,bv,bc,b5,b0,ar⟩:=hrel;obtain⟨b1,b2,b3⟩:∃d1 d2 d3:Nat,r.n1=d1/\r.n2=d2/\r.n3=d3:=⟨_,_,_,rfl,rfl,rfl⟩;obtain⟨g3,t0,t1,t2,t3,t7,hv,f0,f1,f2⟩:=H.out.cells;have r0:wr.cell? ⟨c,0,aN⟩=some (aI aJ z):=ae.out.cell 0;have r1:wr.cell? ⟨c,1,aN⟩=some (K d j f):=ae.out.cell 1;have r2:wr.cell? ⟨c,2,aN⟩=some (aI aJ pr):=ae.out.cell 2;have o2:wr.cell? ⟨w.heap.size,2,aN⟩=some (K Ar N cr):=ar.out.cell 2;have o3:wr.cell? ⟨w.heap.size,3,aN⟩=some (aS ⟨#[]⟩):=ar.out.cell 3;by_cases fb:j<N
 case neg =>
  have fc:j=N:=AA
  subst fc;have ax:M=P/\l=o/\Y=pr:=by
   have:=b7.out;rw[List.drop_eq_nil_of_le AA] at this;unfold Ko at this;injection this with this;simp only[DM] at this;exact⟨this.1.symm,this.2.1.symm,this.2.2.symm⟩
  have dq:Hid (G'={ P with U:=P.U++[⟨z,o,pr⟩] }):=LH (by rw[dp.out,ax.1,ax.2.1,ax.2.2]);obtain⟨gb,m1,g8,gc,m2,g9,a5,m3,br⟩:=r;obtain⟨cs,bd,cb⟩:=H.out.r3;have fg:m3<40:=by
   have h1:=H.out.lens.2.2;have r:=bc.out;have V:=fd.out;simp only[] at h1;rw[r] at h1;omega
  have gd:=LH cb;have c0:=LH bd;have b6:Hid ((wr.drew.alloc (aC #[aI aJ z,K d j f,aI aJ pr] 60)).ownsRow (p+1) 60 3 (K a5 m3 br) m3 cs):=LH (M5 bd ((AP wr.heap.size wr).drew.alloc (AJ _) _));have aw:Below wr.heap.size wr (wr.drew.alloc (aC #[aI aJ z,K d j f,aI aJ pr] 60)):=(AP wr.heap.size wr).drew.alloc (AJ _) _;have da:=LH (H.out.blk.ext aw);have bu:=LH aw;have fe:p+1<=(wr.drew.alloc (aC #[aI aJ z,K d j f,aI aJ pr] 60)).heap.size:=by have:=aw.size;omega
  simp only[] at t0 t1 t2;clear aw bd cb ax;go_wp2_with fail;go_region_law (first
   | (refine V5 rfl _ _ 24 rfl (p+1) 60 _ 3 40 underlying24 dg.out AC AC a5 m3 br cs (by simp[Act.eval,Act.put]) (by exact b6.out) ⟨wr.heap.size,0,aN⟩ 1 1 [aI aJ z,K d j f,aI aJ pr] rfl (by simp[Act.eval,Act.put]) (by exact Qn wr.drew [aI aJ z,K d j f,aI aJ pr] _) (by simp[Value.oneCell']) AA AA (by exact fe) ?_;intro C D J ho U ha
      have I:=da.out.grown U (by intro e;have:=(b6.out.lt p e.symm).1;omega);have i1:J.cell? ⟨p,2,aN⟩=some (K a5 m3 br):=I.cell 2;have i2:=I.frozen 2;have bb:=LH (H.out.put3 wr.heap.size (BC (DS d9) ck) ⟨z,o,pr⟩ (λs hs=>by have:=bv.out s hs;unfold U3;omega) fg C D d f
       (by show Za .i64 wr d (Q o) f o;rw[ad.out];exact Yl Ho.out)
       (λb fu A=>by have h1:=Ho.out.lt b (by rw[A];rfl);exact⟨h1.2,a9.out b (by rw[A];rfl),h1.2,AA⟩)
       (λgi h1 _=>by rw[Cx h1 c0.out];show J.ownsRow _ _ _ _ _ (cs++[aI aJ z,K d (Q o) f,aI aJ pr]);rw[ad.out];exact ho)
       (Zc (Xz _ bu.out) U) (λb A az=>ha b A (AK az bu.out.size)))
      clear I ho U ha))
  all_goals
   go_wp2_with fail;(try simp only[Exit.inBlock,Exit.then]);refine bodyPost_end (results_none rfl _ _ _) rfl ?_;exact⟨rfl,_,by rw[dq.out];exact bb.out.1.mono bb.out.2.size,HT.out.trans bb.out.2⟩
 obtain⟨b,fu,s,xs,ys,rfl,A,Hs,q0,q1⟩:=(HR.out wr (HT.out.below Hk.out)).get fb;obtain⟨ch,h6,g,G3,bq,cj⟩:=rightsP_step b7.out Hs.out;have R:=Zy wr (aC #[aS s,.complex .f64 xs ys] 124);have CS:=LH (Zv1 p r P G3 g s true xs ys _ (H.out.below R) bq);have T:=λw=>Zxg s w;rw[ch] at T;have CN:=LH T;have gn:((j:Int)==6)=false:=by rw[AR];rw[ad.out] at h6;omega
 have ay:=Cm bq (by rw[H.out.lens.1];exact H.out.b1) (by rw[H.out.lens.2.1];exact H.out.b2);have bz:=LH ay;have dr:=LH cj;have O:=LH R;have fm:=ay.2.2.2.1;have fn:=ay.2.2.2.2;have fo:(0<=g/\(if 0<=g then g else pr)=g)\/(¬0<=g/\(if 0<=g then g else pr)=pr):=by
  by_cases h0:0<=g
  ·exact .inl ⟨h0,if_pos h0⟩
  exact .inr ⟨h0,if_neg h0⟩
 clear ch h6 bq cj T ay R;rcases fo with ⟨fl,bm⟩ | ⟨fl,bm⟩;all_goals
  have dn:=LH bm;clear bm;go_wp2_with (first
   | (go_at_call 113;(with_reducible refine (CN.out _).mono ?_);rintro e Z⟨rfl,rfl⟩)
   | (go_at_call 137;(with_reducible refine CS.out.mono ?_);rintro e w3⟨rfl,V,cf,ag⟩
      have be:=ag.blk (ae.out.ext O.out) b5.out;have i1:w3.cell? ⟨c,1,aN⟩=some (K d j f):=be.cell 1;have fj:wr.heap.size<=w3.heap.size:=BC O.out.size ag.size;have fk:wc.heap.size<=w3.heap.size:=BC ck fj;have ba:Hid (w3.ownsRow wc.heap.size 3 1 (K d j f) j (ints .i64 o)):=LH (Wv Ho.out λb A az=>(ag.keep b (AK az O.out.size) (a9.out b A)).trans (O.out.block b az));have c9:=LH be;have di:=LH cf;have ab:=LH ag;clear be cf ag)
   | (at_builtin;refine Ye rfl _ _ 30 rfl wc.heap.size 3 _ 1 8 underlying30 dh.out AC AC d j f (ints .i64 o) rfl ba.out [aI aJ g] rfl rfl (by simp[Value.oneCell']) AA AA AA ?_;intro C D J ho U ha
      have I:=c9.out.grown U (by intro e;have:=(ba.out.lt c e.symm).1;omega);have i2:J.cell? ⟨c,1,aN⟩=some (K d j f):=I.cell 1;have i3:J.cell? ⟨c,2,aN⟩=some (aI aJ pr):=I.cell 2;have j1:=I.frozen 1;have j2:=I.frozen 2;have bw:=LH I;have dm:=LH ho;have df:=LH U;have c8:=LH ha;clear I ho U ha))
  have d5:=(HT.out.trans (V6.of_below O.out p r)).trans ab.out;have fh:∀b,(K d j f).ownBlock=some b->¬J8 p V b:=λb A=>ab.out.nf (AK (Ho.out.lt b A).2 O.out.size) (a9.out b A);have bj:¬J8 p V c:=ab.out.nf (AK ae.out.lt O.out.size) b5.out;have cc:¬J8 p V w.heap.size:=ab.out.nf (AK ar.out.lt O.out.size) b0.out;have d0:=ab.out.blk (ar.out.ext O.out) b0.out;have cg:∀w6,J.grownBy w6 (some c)->_:=λw6 d8=>right_more di.out d5 ba.out fh bj AA fa fk d0 dm.out df.out c8.out d8;have bn:=dr.out;rw[dn.out] at bn
  first
   | (have E:=cg _ (Zd J c 1 (K C (j+1) D))
      have bg:Blk (J.setCell ⟨c,1,aN⟩ (K C (j+1) D)) c 60 #[aI aJ z,K C (j+1) D,aI aJ pr]:=bw.out.set 1 _;refine⟨⟨j+1,V,G3,o++[g],pr,C,D,AF,AA,AA,LH E.1,LH bn,LH E.2.1,LH bg,LH E.2.2.1,LH E.2.2.2.1,LH (by rw[AU,ad.out];rfl),LH ?_,LH (bz.out.2.1.trans bc.out),LH bj,LH cc,LH E.2.2.2.2.1⟩,?_⟩)
   | (have E:=cg _ (Zc (Zd J c 1 (K C (j+1) D)) (Zd _ c 2 (aI aJ g)))
      have bg:Blk ((J.setCell ⟨c,1,aN⟩ (K C (j+1) D)).setCell ⟨c,2,aN⟩ (aI aJ g)) c 60 #[aI aJ z,K C (j+1) D,aI aJ g]:=(bw.out.set 1 (K C (j+1) D)).set 2 (aI aJ g);refine⟨⟨j+1,V,G3,o++[g],g,C,D,AF,AA,AA,LH E.1,LH bn,LH E.2.1,LH bg,LH E.2.2.1,LH E.2.2.2.1,LH (by rw[AU,ad.out];rfl),LH ?_,LH (bz.out.2.1.trans bc.out),LH bj,LH cc,LH E.2.2.2.2.1⟩,?_⟩)
  ·intro u hu;rcases DB.1 hu with hu | hu
   ·exact bv.out u hu
   rw[BO.1 hu];exact⟨fm,fn⟩
  simp[intOf];omega
def tr_cof1(h:GH)(G:Gr)(c:Nat)(s:Int)(w:World)(g:Yf w h G)(j:U3 s)(h1:h.n1<=1000)(d:h.n2<=1000)(k:Y1 w c h G.zt):
 Calls prog 95 #[aI aJ s,aP (some ⟨c,0,aN⟩)] w λe w'=>e = aR (aB (!G.has s))/\Below w w w':=by
 have a:=cf_has h G s w g j h1 d;generalize G.has s=b at *;obtain⟨a1,n1,c1,a2,n2,c2,a3,n3,c3⟩:=h;have⟨z5,z0,z1,z2,z3⟩:=k;simp only[] at z0 z1 z2 z3;have CH:=LH a;clear a;go_enter func95,ntmps95;go_wp2_with fail;refine CH.out.mono ?_;rintro e l⟨rfl,f⟩;go_wp2_with fail;go_ret;exact⟨rfl,f⟩
def Va:Zq3 0=[]:=by
 have:=(Vt 0 0).2 AC;exact BH AA
def Zym(u:Option Addr)(n c1:Nat)(xs:List Nat)(v:Option Addr)(m c2:Nat)(P:List Nat)(w:World)(h1:Zq .u32 w u n c1 xs)(b:Zq .u32 w v m c2 P)(p:Lim xs)(q:Lim P):
 Calls prog 47 #[K u n c1,K v m c2] w (Quiet w (aI aJ (Vq xs P))):=by
 have f:=h1.len;have g:=b.len;by_cases l:Zm xs=true
 case neg =>
  have M:Zm xs=false:=by simpa using l
  have a:Vq xs P=0:=by simp[Vq,M]
  rw[a];clear a l f g;go_enter func47,ntmps47;go_wp2_with (first
   | (go_at_call 42;(with_reducible refine (Zb _ _ _ _ _ h1).mono ?_);rintro e w'⟨rfl,rfl⟩)
   | (go_at_call 42;(with_reducible refine (Zb _ _ _ _ _ b).mono ?_);rintro e w'⟨rfl,rfl⟩))
  go_ret;exact⟨rfl,Uz.refl _⟩
 by_cases o:Zm P=true
 case neg =>
  have N:Zm P=false:=by simpa using o
  have a:Vq xs P=0:=by simp[Vq,N]
  rw[a];clear a o f g;go_enter func47,ntmps47;go_wp2_with (first
   | (go_at_call 42;(with_reducible refine (Zb _ _ _ _ _ h1).mono ?_);rintro e w'⟨rfl,rfl⟩)
   | (go_at_call 42;(with_reducible refine (Zb _ _ _ _ _ b).mono ?_);rintro e w'⟨rfl,rfl⟩))
  go_ret;exact⟨rfl,Uz.refl _⟩
 have Z:n<=32:=by simp[Zm] at l;omega
 have Y:m<=32:=by simp[Zm] at o;omega
 have c:Vq xs P=Vm (val xs) (val P):=by simp[Vq,l,o]
 by_cases B:n<m
 ·have h:=Qu xs P p q (X8 P o) AA;have a:Vq xs P=-1:=by rw[c];simp[Vm,h]
  rw[a];have J:(n:Int)<m:=AA
  clear a c h f g;go_enter func47,ntmps47;go_wp2_with (first
   | (go_at_call 42;(with_reducible refine (Zb _ _ _ _ _ h1).mono ?_);rintro e w'⟨rfl,rfl⟩)
   | (go_at_call 42;(with_reducible refine (Zb _ _ _ _ _ b).mono ?_);rintro e w'⟨rfl,rfl⟩)
   | (go_at_call 106;(with_reducible refine (Ztl _ _ _).mono ?_);rintro e w'⟨rfl,rfl⟩))
  go_ret;exact⟨rfl,Uz.refl _⟩
 by_cases I:m<n
 ·have h:=Qu P xs q p (X8 xs l) AA;have a:Vq xs P=1:=by rw[c];simp[Vm,h];omega
  rw[a];have J:¬(n:Int)<m:=AA
  have W:(m:Int)<n:=AA
  clear a c h f g;go_enter func47,ntmps47;go_wp2_with (first
   | (go_at_call 42;(with_reducible refine (Zb _ _ _ _ _ h1).mono ?_);rintro e w'⟨rfl,rfl⟩)
   | (go_at_call 42;(with_reducible refine (Zb _ _ _ _ _ b).mono ?_);rintro e w'⟨rfl,rfl⟩)
   | (go_at_call 106;(with_reducible refine (Ztl _ _ _).mono ?_);rintro e w'⟨rfl,rfl⟩))
  go_ret;exact⟨rfl,Uz.refl _⟩
 obtain rfl:n=m:=AA
 have G:=LH f;have H:=LH g;have E:=LH c;clear f g c B I;go_enter func47,ntmps47;go_wp2_with (first
  | (go_at_call 42;(with_reducible refine (Zb _ _ _ _ _ h1).mono ?_);rintro e w'⟨rfl,rfl⟩)
  | (go_at_call 42;(with_reducible refine (Zb _ _ _ _ _ b).mono ?_);rintro e w'⟨rfl,rfl⟩)
  | (go_at_call 106;(with_reducible refine (Ztl _ _ _).mono ?_);rintro e w'⟨rfl,rfl⟩))
 go_loopw [6] (λi wr=>∃k:Nat,k<=n/\i = aI aJ ((k:Int)-1)/\Vq xs P=Vm (val (xs.take k)) (val (P.take k))/\Uz w wr) (λi _=>(intOf i+1).toNat)
 case atStart=>exact⟨n,AJ _,rfl,by rw[E.out,AQ (by rw[G.out];omega),AQ (by rw[H.out];omega)],Uz.refl _⟩
 obtain⟨k,X,rfl,hrel,d⟩:=hrel;have z:=LH hrel;clear hrel;by_cases B:0<k
 ·obtain⟨O,o1,x,rfl,S,Hx,U⟩:=(h1.same d).get (j:=k-1) AA;obtain⟨R,o2,y,rfl,T,A,V⟩:=(b.same d).get (j:=k-1) AA;have aa:=p.of_get Hx.out;have ab:=q.of_get A.out;have s:=Zzx xs P p q (k-1);rw[show k-1+1=k from by omega,<-z.out,Yn Hx.out,Yn A.out] at s;have r:=LH s;clear s;have i0:(0:Int)<=(k:Int)-1:=AA
  have i1:(k:Int)-1<(n:Int):=AA
  have i2:((k:Int)-1).toNat=k-1:=AA
  by_cases t:x<y
  ·have C:(x:Int)<(y:Int):=AA
   go_wp2;go_quiet ((go_at_call 107;exact Lk (Zto _ _ _)))
   go_wp2;go_ret;rw[r.out,if_pos t];exact⟨rfl,d.drewN _⟩
  by_cases D:y<x
  ·have C:¬(x:Int)<(y:Int):=AA
   have L:(y:Int)<(x:Int):=AA
   go_wp2;go_quiet ((go_at_call 107;exact Lk (Zto _ _ _)))
   go_wp2;go_ret;rw[r.out,if_neg t,if_pos D];exact⟨rfl,d.drewN _⟩
  have C:¬(x:Int)<(y:Int):=AA
  have L:¬(y:Int)<(x:Int):=AA
  go_wp2;go_quiet ((go_at_call 107;exact Lk (Zto _ _ _)))
  go_wp2;go_roundw
  case rel=>exact⟨k-1,AA,AF,by rw[r.out,if_neg t,if_neg D],d.drewN _⟩
  simp[intOf];omega
 obtain rfl:k=0:=AA
 have a:Vq xs P=0:=by rw[z.out];simp[Vm,val]
 have F:=LH a;clear a;go_wp2;go_ret;rw[F.out];exact⟨rfl,d⟩
def Zqb(f:Option Addr)(n c1:Nat)(xs:List Nat)(w:World)(h1:Zq .u32 w f n c1 xs)(l:Lim xs):
 Calls prog 105 #[K f n c1] w λe w'=>e = aR (aI aJ (Zz9 xs:Int))/\w=w':=by
 obtain rfl:=h1.len;by_cases c:Zm xs=true
 case neg =>
  have s:Zm xs=false:=by simpa using c
  have b:Zz9 xs=0:=by simp[Zz9,s]
  rw[b];clear b c;go_enter func105,ntmps105;go_wp2_with (go_at_call 42;(with_reducible refine (Zb _ _ _ _ _ h1).mono ?_);rintro e w'⟨rfl,rfl⟩);go_ret;exact⟨rfl,rfl⟩
 rcases List.eq_nil_or_concat xs with rfl | ⟨a,z,rfl⟩
 ·have b:Zz9 []=0:=AC
  rw[b];clear b;simp only[DE] at h1 ⊢;go_enter func105,ntmps105;go_wp2_with (go_at_call 42;(with_reducible refine (Zb _ _ _ _ _ h1).mono ?_);rintro e w'⟨rfl,rfl⟩);go_ret;exact⟨rfl,rfl⟩
 rw[List.concat_eq_append] at *;have r:=X8 _ c a z rfl;have d:z<4294967296:=l z AE;have o:Lim a:=λy q=>l y (by simp[q]);have b:Zz9 (a++[z])=32*(Q a)+bitLen z:=by simp only[Zz9,c,if_true];exact Zql a z o r
 have m:=LH b;clear b;have h:(a++[z]).length=(Q a)+1:=AE
 obtain⟨t,C,x,rfl,u,Hx,A⟩:=h1.get (j:=(Q a)) AA;have p:x=z:=by have:=Hx.out;simp at this;omega
 subst p;have B:(Q a)+1<=32:=by simp[Zm] at c;omega
 rw[h] at h1 ⊢;have v:bitLen x<=32:=by
  rw[<-Bm x d];exact Lib.bitLenAux_le 64 x 32 d
 have k:=Bm x d;have g:=LH k;clear k h;go_enter func105,ntmps105;go_wp2_with (first
  | (go_at_call 42;(with_reducible refine (Zb _ _ _ _ _ h1).mono ?_);rintro e w'⟨rfl,rfl⟩)
  | (go_at_call 163;(with_reducible refine (bits_len32 _ _ AA AA).mono ?_);rintro e w'⟨rfl,rfl⟩))
 go_ret;rw[m.out];exact⟨Bo (by rw[Wq _ AA (by have:=g.out;omega),g.out];omega),rfl⟩
def V9(G:Gr)(n:Int)(a:List Nat)(c:List Nat)(b:Nat):Prop :=
 (badU G n a/\c=[]/\b=1) \/
 (¬badU G n a/\(Z2 G n).2≠0/\c=[]/\b=(Z2 G n).2) \/
 (¬badU G n a/\(Z2 G n).2=0/\val (Z2 G n).1<=val a/\c=[]/\b=11) \/
 (¬badU G n a/\(Z2 G n).2=0/\val a<val (Z2 G n).1/\∃t,UnT (Zi G) (Zi G).zt.toNat n.toNat (val a) t /\
   ((300<t.length/\c=[]/\b=13)\/(t.length<=300/\c=t.map (Yr G)/\b=0)))
def Qp(G:Gr)(n:Int)(f:List Nat)(w:World)(e:Ending)(w':World):Prop:=Below w.heap.size w w' /\
 ∃(a:List Nat) (d:Nat) (b:Option Addr) (c:Nat),e = aR (.tuple #[K b a.length c,aI aJ (d:Int)])/\Za .i64 w' b a.length c (a.map λi:Nat=>(i:Int))/\V9 G n f a d
def UnT.kept{G:Gr}{a r d g j:Nat}{u v:List Nat}(h:UnT (Zi G) a n r u)(f:UnT (Zi G) d g j v)(e:u.map (Yr G)=v.map (Yr G)):u=v:=by
 have b:=h.inside.2;have c:=f.inside.2;rw[Fu] at b c;exact Zv9 b c e
def WFC(a:World)(h:GH)(G:Gr)(At:Option Addr)(b j m:Nat):Prop:=∀(d:Nat) (g:List Nat) (l:List Int) (n r:Nat) (t:List Nat) (Al:Option Addr) (f:Nat) (Ar:Option Addr) (cr:Nat) (w:World),t.length<=m->UnL G l n r t->InG G l->Zx (Zv G) l n<big->l.length<=6->n<b->(∀s∈l,G.has s=true)->Za .i64 a Al l.length f l->Zq .u32 w Ar (Zq3 r).length cr (Zq3 r)->WkAt a h G At b j d g false w->
 Calls Tryz.prog 78 #[aP (some ⟨d,0,none⟩),K Al l.length f,aI aJ (n:Int),K Ar (Zq3 r).length cr] w (WkRet a h G At b j d g t w)
def WTC(d:World)(h:GH)(G:Gr)(At:Option Addr)(a g m:Nat):Prop:=∀(b:Nat) (f:List Nat) (s:Int) (n r:Nat) (t:List Nat) (Ar:Option Addr) (cr:Nat) (w:World),t.length<=m->s<0->Zp s<G.O.length->UnT G (Zp s) n r t->Zv G s n<big->n<a->Zq .u32 w Ar (Zq3 r).length cr (Zq3 r)->WkAt d h G At a g b f false w->
 Calls Tryz.prog 37 #[aP (some ⟨b,0,none⟩),aI aJ (Zp s:Int),aI aJ (n:Int),K Ar (Zq3 r).length cr] w (WkRet d h G At a g b f t w)
section
open Ieee
open Go.Maps (Keyed IsMap Tidy)
structure Gk (w:World) (g:Nat) (G:Gr) (S:Nat->Prop) (ts:List ((List Int × Nat) × Nat)):Prop where
 map:Vv Tryz.prog 220 w g (ts.map λp=>(kB p.1.1 p.1.2,p.2))
 key:∀p∈ts,J1 p.1.1 p.1.2
 val:∀p∈ts,Fx w p.2 (Zx (Zv G) p.1.1 p.1.2)/\¬S p.2
structure Wd (W0:World) (k:BkH) (h:GH) (G:Gr) (S:Nat->Prop) (w:World):Prop where
 base:Below W0.heap.size W0 w
 box:Blk w k.c 164 #[K h.a1 h.n1 h.c1,K h.a2 h.n2 h.c2,K h.a3 h.n3 h.c3,aI aJ G.zt,.map (some k.t)]
 low:W0.heap.size<=k.t
 known:∃ts,Gk w k.t G S ts
def Wd.map_noInt{w:World}{k:BkH}{h:GH}{G:Gr}{S:Nat->Prop}(C:Wd a k h G S w):Qf w k.t:=by
 obtain⟨ts,b⟩:=C.known;exact b.map.noInt
end
section
open Go.Maps (Keyed IsMap Tidy)
def Zuw(a:World)(k:BkH)(h:GH)(G:Gr)(S:Nat->Prop)(w:World)(x:Nat)(e:Ending)(w':World):Prop :=
 Wd a k h G S w'/\Off k.map w w'/\∃A n c d,e = aR (aG #[K A n c,aB d])/\Z1 w' A n c d x
structure BkG (W0:World) (h:GH) (G:Gr):Prop where
 told:Zxy G
 at_:Yf W0 h G
 names:∀t∈G.T,t.name.size<=maxLen
 tab:Q2 W0
 n1:h.n1<=100
 n2:h.n2<=100
 n3:h.n3<=100
structure PM (W0:World) (k:BkH) (h:GH) (G:Gr) (S':Nat->Prop) (w:World) (gR:Nat) (b:Nat->Bool) (u:Nat->Value) (X:World):Prop where
 ex:∃S2,Wd W0 k h G S2 X/\(∀q,S' q->S2 q)/\(∀q,S2 q->q<X.heap.size)/\(b 12=true->Cel S2 gR X (u 12) (b 14) (u 4))/\(b 13=true->Cel S2 gR X (u 13) (b 15) (u 11))
 off:Off k.map w X
 res:Blk X gR 168 #[K none 0 0,aB false]
 ne:b 12=true->b 13=true->u 12≠u 13
end
section
open Go.Maps (Keyed IsMap Tidy)
variable {W0:World} {k:BkH} {h:GH} {G:Gr} {S':Nat->Prop} {w:World} {gR:Nat} {b:Nat->Bool} {u:Nat->Value} {X:World}
def PM.idle(H:PM W0 k h G S' w gR b u X)(i:Nat)(v:Value)(hi:i≠4/\i≠11/\i≠12/\i≠13/\i≠14/\i≠15):PM W0 k h G S' w gR (Mz b i) (upd u i v) X:=by
 obtain⟨n,o,a,c,p,q⟩:=hi;obtain⟨⟨d,a1,a2,a3,f,g⟩,j,l,m⟩:=H;refine⟨⟨d,a1,a2,a3,?_,?_⟩,j,l,?_⟩
 ·rw[Ys (Ne.symm a),Ys (Ne.symm p),Yj (Ne.symm a),Yj (Ne.symm n)];exact f
 ·rw[Ys (Ne.symm c),Ys (Ne.symm q),Yj (Ne.symm c),Yj (Ne.symm o)];exact g
 rw[Ys (Ne.symm a),Ys (Ne.symm c),Yj (Ne.symm a),Yj (Ne.symm c)];exact m
end
def Wd.wide{f w:World}{k:BkH}{h:GH}{G:Gr}{S P:Nat->Prop}(C:Wd f k h G S w)(l:∀q,P q->∀g,¬Blk w q 168 g):Wd f k h G (λq=>S q\/P q) w:=by
 refine⟨C.base,C.box,C.low,?_⟩;obtain⟨ts,a⟩:=C.known;refine⟨ts,a.map,a.key,λp b=>⟨(a.val p b).1,?_⟩⟩;rintro (h1 | h1)
 ·exact (a.val p b).2 h1
 obtain⟨A,n,c,d,j,_⟩:=(a.val p b).1;exact l _ h1 _ j
structure Me (W0:World) (k:BkH) (h:GH) (G:Gr) (mk:Nat) (cs:List Nat) (S:Nat->Prop) (A:Option Addr) (c:Nat) (W:World):Prop where
 bk:Wd W0 k h G S W
 box:Blk W mk 99 #[aP (some ⟨k.c,0,none⟩),K A cs.length c]
 row:M4 W W0.heap.size A cs.length c (cs.map λi:Nat=>(i:Int))
 own:S mk/\∀g,(K A cs.length c).ownBlock=some g->S g
 lt:∀q,S q->q<W.heap.size
 low:W0.heap.size<=mk
 few:cs.length<=300
def MkAt(a:World)(k:BkH)(h:GH)(G:Gr)(mk:Nat)(b:List Nat)(W:World):Prop:=∃S A c,Me a k h G mk b S A c W
def MkRet(a:World)(k:BkH)(h:GH)(G:Gr)(mk:Nat)(b t:List Nat)(w:World)(e:Ending)(w':World):Prop :=
 Zu w w'/\((b.length+t.length<=300/\e = aR (aB true)/\MkAt a k h G mk (b++t) w')\/(300<b.length+t.length/\e = aR (aB false)/\Below a.heap.size a w'))
def FC(a:World)(k:BkH)(h:GH)(G:Gr)(m:Nat):Prop:=∀(mk:Nat) (d:List Nat) (l:List Int) (n r:Nat) (t:List Nat) (Al:Option Addr) (b:Nat) (Ar:Option Addr) (cr:Nat) (w:World),t.length<=m->UnL G l n r t->InG G l->Zx (Zv G) l n<big->J1 l n->(∀s∈l,G.has s=true)->Za .i64 a Al l.length b l->Zq .u32 w Ar (Zq3 r).length cr (Zq3 r)->MkAt a k h G mk d w->
 Calls Tryz.prog 110 #[aP (some ⟨mk,0,none⟩),K Al l.length b,aI aJ (n:Int),K Ar (Zq3 r).length cr] w (MkRet a k h G mk d t w)
def TC(a:World)(k:BkH)(h:GH)(G:Gr)(m:Nat):Prop:=∀(mk:Nat) (b:List Nat) (s:Int) (n r:Nat) (t:List Nat) (Ar:Option Addr) (cr:Nat) (w:World),t.length<=m->s<0->Zp s<G.O.length->UnT G (Zp s) n r t->Zv G s n<big->n<=10->Zq .u32 w Ar (Zq3 r).length cr (Zq3 r)->MkAt a k h G mk b w->
 Calls Tryz.prog 49 #[aP (some ⟨mk,0,none⟩),aI aJ (Zp s:Int),aI aJ (n:Int),K Ar (Zq3 r).length cr] w (MkRet a k h G mk b t w)
section
variable {W0:World} {k:BkH} {h:GH} {G:Gr} {mk:Nat} {cs:List Nat} {S:Nat->Prop} {A:Option Addr} {c:Nat} {W:World}
def Me.ne_c(M:Me W0 k h G mk cs S A c W):mk≠k.c:=λe=>by
 have h1:=M.bk.box;rw[<-e] at h1;exact absurd (h1.same_ty M.box) AC
end
section
open Go.RowKit Go.Shelf
attribute [local go_sem] Oper.semAt_some
def chunk1_in(n:Nat)(hn:1<=n)(l f d b A L cap N:Nat)(I:0<N)(ah:N<=1000)(hL:L<=1000)(ai:L<=cap)(aj:cap<=9223372036854775807)(J q:List (Zrl L N)->World->Prop)(O:∀a (x:Zrl L N) W,J a W->(Q a)<L->YieldAt Fence.wide (n-1) prog l (encP b A x) W λe c =>
   (e = aR (aB true)/\J (a++[x]) c/\Zrq f d W c)\/(e = aR (aB false)/\q (a++[x]) c))(G:∀s W m,J s W->J s (W.drewN m))(W:World)(D:W.cell? ⟨f,0,aN⟩=some (K (some ⟨b,A,aN⟩) L cap))(u:W.cell? ⟨d,0,aN⟩=some (aI aJ (N:Int)))(h0:J [] W):
 CallsIn Fence.wide n prog 101 #[.func (.yield l) #[] #[],aP (some ⟨f,0,aN⟩),aP (some ⟨d,0,aN⟩)] W λe c=>(∃v,e = aR v) /\
  ((∃B,(∃k,L<=N*k/\B=Zrw L N k)/\J B c)\/(∃a,(∃k,a=Zrw L N k)/\q a c)):=by
 refine callsIn_of_wp func101 rfl trivial ?_ rfl;simp only[ntmps101,List.size_toArray,AY,DE,Nat.reduceAdd,Nat.reduceSub,Array.replicate_succ,Array.replicate_zero,List.push_toArray,List.append_toArray,DA,DL]
 gi_wp2
 gi_loopw [4] (λi wr=>∃k m:Nat,Hid (m=N*k)/\m<L+N/\k<=L/\i = aI aJ (m:Int)/\J (Zrw L N k) wr/\Zrq f d W wr)
  (λi _=>L+N-(intOf i).toNat)
 case atStart=>exact⟨0,0,LH AE,AA,AV _,rfl,h0,rfl,rfl⟩
 obtain⟨k,m,h,ap,hk,rfl,y,j⟩:=hrel;have af:=(Zrg (o:=0) j.1).trans D;have ad:=(Zrg (o:=0) j.2).trans u;by_cases ao:m<L
 ·have p:(Zre L N k).1=(m,min N (L-m)):=by
   have:=h.out;subst this;show (min (N*k) L,min N (L-N*k))=_;rw[Nat.min_eq_left AA]
  obtain⟨e,g⟩:∃e,Hid (min N (L-m)=e):=⟨_,LH rfl⟩;rw[g] at p;have he:m+e<=L:=by have:=g.out;omega
  have am:e<=N:=by have:=g.out;omega
  have al:0<e:=by have:=g.out;omega
  have P:min (N:Int) ((L-m:Nat):Int)=(e:Int):=by have:=g.out;omega
  have S:k<L:=by
   have:=h.out;have:k*1<=N*k:=by rw[Ef N k];exact Eg k I
   omega
  have U:(0:Int)<=(m:Int):=AA
  have V:(m:Int)<=(L:Int):=AA
  have X:(m:Int)<=(cap:Int):=AA
  gi_wp2
  gi_quiet (fail)
  have F:=G _ _ nq y;have Z:((m:Int)+(e:Int)).toNat-m=e:=AA
  have h6:(m:Int)<=(m:Int)+(e:Int):=AA
  have h7:(m:Int)+(e:Int)<=(cap:Int):=AA
  obtain⟨Y,tmps,assign,body,T,M⟩:=O _ (Zre L N k) (wr.drewN nq) F (by rw[Zr1];exact S);simp only[encP,p] at T
  gi_wp2
  refine M.mono ?_;rintro e r (⟨rfl,E,R⟩ | ⟨rfl,H⟩)
  ·have z:Zrq f d W r:=Zrq.t (C:=r) ⟨j.1,j.2⟩ R;have ae:=(Zrg (o:=0) z.2).trans u
   gi_wp2
   go_roundw
   case rel=>exact⟨k+1,m+N,LH (by rw[h,DK,Eh]),AA,AA,AF,by rw[Zrb];exact E,z⟩
   simp[intOf];omega
  gi_wp2
  refine AW (results_none rfl _ _ _) rfl ?_;exact⟨⟨_,rfl⟩,.inr ⟨_,⟨k+1,(Zrb _ _ _).symm⟩,H⟩⟩
 gi_wp2
 go_end0
 exact⟨⟨_,rfl⟩,.inl ⟨_,⟨k,by have:=h.out;omega,rfl⟩,y⟩⟩
def chunk1_none(n:Nat)(l a b cap N:Nat)(A:Option Addr){L:Nat}(J:List (Zrl L N)->World->Prop)(W:World)(d:W.cell? ⟨a,0,aN⟩=some (K A 0 cap))(h0:J [] W):
 CallsIn Fence.wide n prog 101 #[.func (.yield l) #[] #[],aP (some ⟨a,0,aN⟩),aP (some ⟨b,0,aN⟩)] W λe c=>(∃v,e = aR v)/\J [] c:=by
 refine callsIn_of_wp func101 rfl trivial ?_ rfl;simp only[ntmps101,List.size_toArray,AY,DE,Nat.reduceAdd,Nat.reduceSub,Array.replicate_succ,Array.replicate_zero,List.push_toArray,List.append_toArray,DA,DL]
 gi_wp2
 gi_loopw [4] (λi wr=>i = aI aJ 0/\wr=W) (λ_ _=>0)
 case atStart=>exact⟨rfl,rfl⟩
 obtain⟨rfl,rfl⟩:=hrel
 gi_wp2
 go_end0
 exact⟨⟨_,rfl⟩,h0⟩
def chunk_stops(n:Nat)(F:1<=n)(c a b f L cap N:Nat)(A:Option Addr)(q:0<L->A=some ⟨b,f,aN⟩)(x:0<N)(y:N<=1000)(v:L<=1000)(B:L<=cap)(C:cap<=9223372036854775807)(w:World)(d:c<w.heap.size)(H:a<w.heap.size)(t:w.cell? ⟨c,0,aN⟩=some (K A L cap))(r:w.cell? ⟨a,0,aN⟩=some (aI aJ (N:Int))):
 SeqStopsK Fence.wide n prog 101 #[aP (some ⟨c,0,aN⟩),aP (some ⟨a,0,aN⟩)] (encP b f (L:=L) (N:=N)) (Zrq c a)
  (λM=>∃k,L<=N*k/\M=Zrw L N k) (λI=>∃k,I=Zrw L N k) L w:=λl J o W g u _ z h0=>by
 have j:=(g.cell (p:=⟨c,0,aN⟩) d).trans t;have G:=(g.cell (p:=⟨a,0,aN⟩) H).trans r;rcases BW L with h | h
 ·subst h;exact (chunk1_none n l c a cap N A J W j h0).mono λe O ⟨D,E⟩=>⟨D,.inl ⟨[],⟨0,AV _,rfl⟩,E⟩⟩
 obtain rfl:=q h;exact chunk1_in n F l c a b f L cap N x y v B C J o z (λs W m d=>u s W _ aN d (drewN_grownBy W m) (λ_ e=>by cases e)) W j G h0
end
section
open Go.RowKit Go.Shelf
attribute [local go_sem] Oper.semAt_some
open Go.RowKit Go.Shelf
def Boxed.far{W:World}{b:Nat}(h:Boxed W B t v)(a:B≠b)(u:Value):Boxed (W.setCell ⟨b,0,aN⟩ u) B t v:=Boxed.kept h (grownBy_setCell' W b u) (by simpa using a)
def Zr9{w W:World}(h:Zqy w W v)(a b c:Value):
 Boxed (((W.setCell ⟨w+1,0,aN⟩ a).setCell ⟨w+1+1,0,aN⟩ b).setCell ⟨w+1+1+1,0,aN⟩ c) (w.heap.size+1) 44 a /\
 Boxed (((W.setCell ⟨w+1,0,aN⟩ a).setCell ⟨w+1+1,0,aN⟩ b).setCell ⟨w+1+1+1,0,aN⟩ c) (w.heap.size+1+1) 3 b /\
 Boxed (((W.setCell ⟨w+1,0,aN⟩ a).setCell ⟨w+1+1,0,aN⟩ b).setCell ⟨w+1+1+1,0,aN⟩ c) (w.heap.size+1+1+1) 31 c:=by
 refine⟨?_,?_,?_⟩
 ·exact Boxed.far (Boxed.far (Boxed.set a h.r0) AA _) AA _
 ·exact Boxed.far (Boxed.set b (Boxed.far h.r1 AA _)) AA _
 exact Boxed.set c (Boxed.far (Boxed.far h.r2 AA _) AA _)
end
section
open Go.RowKit Go.Shelf
attribute [local go_sem] Oper.semAt_some
open Go.RowKit Go.Shelf
open Go.RowKit Go.Shelf
attribute [local go_sem] Oper.semAt_some
def Zry{W:World}{row:Option Nat}(h:Boxed W B t v)(d:W.grownBy a row)(f:∀r,row=some r->∃o:Obj,W.heap[r]? = some o/\o.isCells=false):Boxed a B t v:=by
 refine Boxed.kept h d λe=>?_;obtain⟨o,b,c⟩:=f B e.symm;rw[show W.heap[B]? = _ from h] at b;cases b;cases c
def Zqp{w W d:World}{row:Option Nat}(h:Zqy w W v)(a:W.grownBy d row)(c:∀r,row=some r->∃o:Obj,W.heap[r]? = some o/\o.isCells=false):Zqy w d v :=
 ⟨Zry h.b a c,Zry h.r0 a c,Zry h.r1 a c,Zry h.r2 a c⟩
def ib_own(w w1:World)(d:List Nat)(v:Value)(V K N:Nat):_root_.Go.Own (λc W=>IB w w1 d v V K N c W):=λc A B row h a b =>
 ⟨Zqp h.vars a b,Zry h.b7 a b,Zry h.b8 a b,BC h.size a.size,h.fail⟩
def xb_own(w w1:World)(r:List Nat)(V K N:Nat)(c:Code):_root_.Go.Own (λg W=>XB w w1 r V K N c g W):=λg A B row h a b=>by
 obtain⟨q,x,e,o,h⟩:=h;refine⟨q,x,e,o,?_⟩;rcases h with ⟨d,f,p,j,k,h1,l,m,n⟩ | ⟨d,f,v,h⟩
 ·exact .inl ⟨d,f,p,j,k,Zry h1 a b,Zry l a b,Zry m a b,Zqt n a b⟩
 exact .inr ⟨d,f,v,Zqp h a b⟩
def Zqa{w W:World}(h:Zqy w W v){b:Nat}(a:w.heap.size+1+1+1<b)(u:Value):Zqy w (W.setCell ⟨b,0,aN⟩ u) v :=
 ⟨Boxed.far h.b AA u,Boxed.far h.r0 AA u,Boxed.far h.r1 AA u,Boxed.far h.r2 AA u⟩
def nums_sets{w W:World}(h:Zqy w W v){A:Option Addr}{d:Nat}(g:Zq .u32 W A n d xs)(a b c:Value):
 Zq .u32 (((W.setCell ⟨w+1,0,aN⟩ a).setCell ⟨w+1+1,0,aN⟩ b).setCell ⟨w+1+1+1,0,aN⟩ c) A n d xs:=by
 have h1:=Zrd g h.r0 (λ_ e=>by cases e) a;have f:=Zrd h1 (Boxed.far h.r1 AA a) (λ_ e=>by cases e) b;exact Zrd f (Boxed.far (Boxed.far h.r2 AA a) AA b) (λ_ e=>by cases e) c
def L3(G:Gr)(n:Int)(c b:List Nat)(k a:Nat):Prop :=
 ((Z2 G n).2≠0/\b=[]/\k=0/\a=(Z2 G n).2) \/
 ((Z2 G n).2=0/\(Z2 G n).1=[]/\b=[]/\k=0/\a=9) \/
 ((Z2 G n).2=0/\(Z2 G n).1≠[]/\(X5 (Z2 G n).1 c).2.2≠0/\b=[]/\k=0/\a=(X5 (Z2 G n).1 c).2.2) \/
 ((Z2 G n).2=0/\(Z2 G n).1≠[]/\(X5 (Z2 G n).1 c).2.2=0/\∃o e,V9 G n (X5 (Z2 G n).1 c).1 o e /\
   ((e≠0/\b=[]/\k=0/\a=e)\/(e=0/\b=o/\k=(X5 (Z2 G n).1 c).2.1/\a=0)))
def Zrm(G:Gr)(n:Int)(f:List Nat)(w:World)(e:Ending)(w':World):Prop:=Below w.heap.size w w' /\
 ∃(a:List Nat) (k d:Nat) (b:Option Addr) (c:Nat),e = aR (.tuple #[K b a.length c,aI aJ (k:Int),aI aJ (d:Int)])/\Za .i64 w' b a.length c (a.map λi:Nat=>(i:Int))/\L3 G n f a k d
inductive SomGo (G:Gr) (n:Int) (ws:List Nat):Nat->List (List Nat)->Nat->Prop
 | nil:SomGo G n ws 0 [] 0
 | step {i:Nat} {l:List (List Nat)} {at_:Nat} {out:List Nat} {used:Nat}:SomGo G n ws i l at_->L3 G n (ws.drop at_) out used 0->SomGo G n ws (i+1) (l++[out]) (at_+used)
def SomGo.len{G:Gr}{n:Int}{c:List Nat}{i:Nat}{a:Nat}(h:SomGo G n c i l a):(Q l)=i:=by
 induction h with
 | nil=>rfl
 | step h1 d b=>rw[AU,b];rfl
def Zro(G:Gr)(n k:Int)(b:List Nat)(l:List (List Nat))(at_ a:Nat):Prop :=
 ((k<0\/500<k)/\l=[]/\at_=0/\a=1) \/
 (¬(k<0\/500<k)/\SomGo G n b k.toNat l at_/\a=0) \/
 (¬(k<0\/500<k)/\l=[]/\at_=0/\∃i d c f g,i<k.toNat/\SomGo G n b i d c/\L3 G n (b.drop c) f g a/\a≠0)
end
def Zrk.vals{w:World}{A:Option Addr}{c:Nat}{a:List Value}(h:Zrk w B A n c a m):∀u∈a,∀k x,u≠aI k x:=by
 intro u l k x d;subst d;obtain⟨j,b⟩:=BQ l;have g:(Q a)=n:=by have:=h.own.1;simpa using this
 have f:j<n:=by rw[<-g];exact (AN.1 b).1
 obtain⟨o,p,h1,_⟩:=h.row j _ (AL (by rw[h.len];exact f));rw[b] at h1;cases h1
def Zrk.read{w:World}{A:Option Addr}{c:Nat}{k:List (List Nat)}(h:Zrk w B A n c g k):Zrn w A n c k:=by
 have a:=Yl h.own;have f:(Q g)=n:=by have:=h.own.1;simpa using this
 refine⟨h.len,a.2.1,a.2.2.1,λs=>?_⟩;obtain⟨b,t,e,p,q⟩:=a.2.2.2 (by rw[f];exact s);refine⟨b,t,e,p,λj xs d=>?_⟩;obtain⟨l,m,h1,o⟩:=h.row j xs d;have r:j<n:=by rw[<-h.len];exact (AN.1 d).1
 exact⟨l,m,by rw[q j (by rw[f];exact r)];exact h1,o⟩
def RetSom(G:Gr)(n k:Int)(d:List Nat)(w:World)(e:Ending)(w':World):Prop:=Below w.heap.size w w' /\
 ∃(l:List (List Nat)) (a b:Nat) (A:Option Addr) (c:Nat),e = aR (.tuple #[K A l.length c,aI aJ (a:Int),aI aJ (b:Int)])/\Zrn w' A l.length c l/\Zro G n k d l a b
def Fs.len{G:Gr}{ss ps a wd:List Int}{m:Nat}(h:Fs G ss ps a wd m):(Q ps)=(Q a):=by
 induction h with
 | nil=>rfl
 | term _ _ b=>exact b
 | non _ _ _ _ _ c d=>simp only[AY,AU];omega
def Fs.words{G:Gr}(b:G.Fits){ss ps a wd:List Int}{m:Nat}(h:Fs G ss ps a wd m):(Q wd)<=(Q ss)+6*(Q ps):=by
 induction h with
 | nil=>simp
 | term h0 h l =>
   simp only[AY];omega
 | @non s i r ss q t w1 ps a wd p m h0 h1 f g k n o =>
   have d:r∈G.U:=by
    obtain⟨j,_,c⟩:=Uo h1;exact AM c
   have:=b.len r d;simp only[AY,AU];omega
section
open Go.ChangeShapes Go.WideShapes Go.ChangeAt Go.RowKit
open Go.ChangeShapes Go.WideShapes Go.ChangeAt Go.RowKit
open Go.ChangeShapes Go.WideShapes Go.ChangeAt Go.RowKit Go.Lib Go.Deep
open Go.ChangeShapes Go.WideShapes Go.ChangeAt Go.RowKit Go.Lib Go.Deep
def RTC(a:World)(h:GH)(G:Gr)(At:Option Addr)(f k m:Nat):Prop:=∀(s:Int) (n r:Nat) (u:List Nat) (z:List Int) (c:Option Addr) (d:Nat) (w:World),u.length<=m->s<0->Zp s<G.O.length->UnT G (Zp s) n r u->Zv G s n<big->n<f->Za .i64 a c (u.length+z.length) d (u.map (λi:Nat=>(i:Int))++z)->Below a.heap.size a w->
 Calls Tryz.prog 29 #[GV h G.zt,K At f k,K c (u.length+z.length) d] w (Zv7 u.length n r w)
def RFC(a:World)(h:GH)(G:Gr)(At:Option Addr)(k o m:Nat):Prop:=∀(l:List Int) (n r:Nat) (u:List Nat) (z:List Int) (Al:Option Addr) (d:Nat) (c:Option Addr) (f:Nat) (w:World),u.length<=m->UnL G l n r u->InG G l->Zx (Zv G) l n<big->l.length<=6->n<k->(∀s∈l,G.has s=true)->Za .i64 a Al l.length d l->Za .i64 a c (u.length+z.length) f (u.map (λi:Nat=>(i:Int))++z)->Below a.heap.size a w->
 Calls Tryz.prog 64 #[GV h G.zt,K At k o,K Al l.length d,K c (u.length+z.length) f] w (Zv7 u.length n r w)
end
end
section
variable{S:Nat->Prop}{g n x:Nat}{t:TypeId}{cs:Array Value}{d a:World}{o m A At:Option Addr}
def tr_Reachable(h:GH)(G:Gr)(w:World)(v:Yf w h G)(hs:∀t∈G.T,t.name.size<=maxLen)(C:h.n1<=100)(Y:h.n2<=100)(h3:h.n3<=100):
 Calls prog 89 #[GV h G.zt] w λe w'=>Below w w w' /\
  ((G.rt=false/\e = aR (K aN 0 0))\/(G.rt=true/\∃g,w.heap.size<=g/\e = aR (K (some ⟨g,0,aN⟩) h.n2 h.n2)/\Z8 w' g (Z5 G))):=by
 obtain⟨a1,n1,c1,a2,n2,c2,a3,n3,c3⟩:=h;have j:(Q G.O)=n2:=v.O.len;have k2:=v.O.cap;simp only[] at C Y h3 k2;have Z:=Zy w (aC #[K a1 n1 c1,K a2 n2 c2,K a3 n3 c3,aI aJ G.zt] 26);have J:=Y1.new w 26 ⟨a1,n1,c1,a2,n2,c2,a3,n3,c3⟩ G.zt;have bj:=Nt n2 AA;have B:=LH v;have W:=LH hs;clear v hs;go_enter func89,ntmps89;have⟨z5,z0,z1,z2,z3⟩:=J;simp only[] at z0 z1 z2 z3;go_wp2_with fail;generalize w.alloc (aC #[K a1 n1 c1,K a2 n2 c2,K a3 n3 c3,aI aJ G.zt] 26)=W0 at *;(refine (J4 ⟨a1,n1,c1,a2,n2,c2,a3,n3,c3⟩ G W0 (B.out.below Z) W.out (by simp only[];omega) (by simp only[];omega)).mono ?_);rintro e W1⟨rfl,aj⟩;have D:=Zz Z aj;have L:=J.below aj;clear z0 z1 z2 z3 z5 J;have⟨y5,y0,y1,y2,y3⟩:=L;simp only[] at y0 y1 y2 y3;rcases z:G.rt with _ | _
 ·go_wp2_with fail;go_ret;exact⟨D,.inl ⟨z,rfl⟩⟩
 have R:=Gr.fits z;have bs:=R.st;have V:=LH z;have p:=LH R;obtain⟨b,aq⟩:∃b:Nat,G.zt=(b:Int):=⟨G.zt.toNat,AA⟩;have bh:b<n2:=AA
 have U:=LH aq;clear aq;have X:=(N4 ⟨a1,n1,c1,a2,n2,c2,a3,n3,c3⟩ G W1 (B.below D) W (by simp only[];omega) (by simp only[];omega) (by simp only[];omega)).mono λe w' hh=>And.intro hh.1 (hh.2.resolve_left λhc=>by rw[V] at hc;cases hc.1).2;have CP:=LH X;clear z R X;go_wp2_with fail;refine CP.out.mono ?_;rintro e d⟨ak,c,bq,rfl,E⟩;have aa:=Zz D ak;have M:=L.below ak;have br:c<d.heap.size:=E.lt;have u:=Zy d (aC #[K (some ⟨c,0,aN⟩) n2 n2] 103);have ae:=Blk.new d 103 #[K (some ⟨c,0,aN⟩) n2 n2];have ai:=Blk.ext E u;have O:=M.below u;have bm:=Zl d (aC #[K (some ⟨c,0,aN⟩) n2 n2] 103);clear y0 y1 y2 y3 y5 L;go_upto_region 4 with fail;generalize d.alloc (aC #[K (some ⟨c,0,aN⟩) n2 n2] 103)=k at *;generalize y:d.heap.size=a at *;have q:=Z8.new k (List.replicate n2 false);have l:=Zy k (aC (Qk (List.replicate n2 false)).toArray 4);have ab:=ae.ext l;have ag:=Blk.ext ai l;have al:=O.below l;have⟨y5,y0,y1,y2,y3⟩:=O;simp only[] at y0 y1 y2 y3;have H:=u.trans (l.mono AA);go_upto_region 5 with fail;generalize k.alloc (aC (Qk (List.replicate n2 false)).toArray 4)=W3 at *;generalize bp:k.heap.size=gI at *;obtain rfl:gI=a+1:=bm;clear y0 y1 y2 y3 y5;have⟨y5,y0,y1,y2,y3⟩:=al;simp only[] at y0 y1 y2 y3;rw[U] at y3;have bd:=Blk.frozen q b;have bc:=q.at (i:=b) (by simpa using bh);have S:=q.put b true;have av:Xv G=(List.replicate n2 false).set b true:=by unfold Xv;rw[j,U];rfl
 rw[<-av] at S;have bl:(Xv G).length=n2:=by unfold Xv;simp[j]
 have ad:=ab.other (a+1) b (aB true) AA;have ah:Z8 (W3.setCell ⟨(a+1),b,aN⟩ (aB true)) c (Zt G):=Blk.other ag (a+1) b (aB true) AA;have I:=H.trans (Zn (Zd W3 (a+1) b (aB true)) (by have:=H.size;omega) AA);have am:Y1 (W3.setCell ⟨(a+1),b,aN⟩ (aB true)) w ⟨a1,n1,c1,a2,n2,c2,a3,n3,c3⟩ G.zt:=M.below (by rw[y];exact I);have a6:=LH S;have ay:=LH ad;have az:=LH ah;have A:=LH I;have a5:=LH am;have f:=LH aa;have be:(a+1)≠a:=AA
 have bf:(a+1)≠c:=AA
 clear S al ab ag O q l ae ai u H bj ad ah I am aa M av E;go_upto_region 6 with fail;generalize W3.setCell ⟨(a+1),b,aN⟩ (aB true)=W4 at *;clear y0 y1 y2 y3 y5 bd bc;have⟨y5,y0,y1,y2,y3⟩:=a5.out;simp only[] at y0 y1 y2 y3;have hq:=Zte ⟨a1,n1,c1,a2,n2,c2,a3,n3,c3⟩ G 150 #[aP (some ⟨a,0,aN⟩)] enters_reach1 (Yp (Zt G)) (a+1) n2 (Xv G) d W4 (B.below f) (by rw[y];exact A) AA AA a6 bl (by simp only[];omega)
  (λr n N hN s o=>by
    unfold Yp at o;split at o
    ·unfold Uq at o;obtain⟨x,T,rfl⟩:=CX.1 o;rw[List.mem_filter] at T;have C:=p.sym r n x T.1;have Y:x<0:=by simpa using T.2
     rw[j] at C;omega
    cases o)
  (λr n Ar cr N w' m bk hN hl=>tr_reach1 r Ar cr (a+1) c a n2 N (Zt G) w' bk hN (Blk.grown az m (by intro e;injection e with e;exact bf e.symm)) ((ay.grown m (by intro e;injection e with e;exact be e.symm)).cell 0) hl (by rw[Vx];exact j) AA (by have:=p.L r n;rw[j] at this;exact this) (by have:=p.symB n;rwa [j] at this) (by have:=p.len r n;omega))
 have HQ:=LH hq;clear hq;go_wp2_with fail;refine HQ.out.mono ?_;rintro e W5⟨rfl,m,F⟩;have ao:Z5 G=Z3 (Yy (Yp (Zt G)) G.U) n2 (Xv G):=by unfold Z5;rw[j]
 rw[<-ao] at F;have HT:=LH F;have ax:=LH ((f.trans (A.mono (by rw[<-y];exact f.size))).trans (Zn m (f.trans (A.mono (by rw[<-y];exact f.size))).size (by have:=f.size;omega)));have bg:w.heap.size<=(a+1):=by have:=f.size;omega
 clear F ao m y0 y1 y2 y3 y5;go_wp2_with fail;go_ret;exact⟨ax,.inr ⟨V,(a+1),bg,rfl,HT⟩⟩
def nat_mul_ok(t:Option Addr)(n c1:Nat)(xs:List Nat)(u:Option Addr)(m c2:Nat)(ys:List Nat)(w:World)(h1:Zq .u32 w t n c1 xs)(r:Zq .u32 w u m c2 ys)(lx:Lim xs)(M:Lim ys)(N:Zm xs=true)(O:Zm ys=true):
 Calls prog 209 #[K t n c1,K u m c2] w (Xr w (N9 xs ys)):=by
 obtain rfl:=h1.len;obtain rfl:=r.len;have a0:(Q xs)<=32:=by simp[Zm] at N;omega
 have ay:(Q ys)<=32:=by simp[Zm] at O;omega
 have H:=Wm (P:=prog) 44 41 .u32 4 underlying44 Tryz.info34 ((Q xs)+(Q ys)) AA AA;have az:∀w:World,(Instr.makeSlice 44 (aI aJ (((Q xs):Int)+((Q ys):Int))) (aI aJ (((Q xs):Int)+((Q ys):Int)))).run prog w = .ok (K (some ⟨w,0,aN⟩) ((Q xs)+(Q ys)) ((Q xs)+(Q ys))) (w.alloc (aC (nums .u32 (List.replicate ((Q xs)+(Q ys)) 0)).toArray 41)):=H;clear H;have G:N9 xs ys=Xm (val xs*val ys):=by simp[N9,N,O]
 rw[G];clear G;go_enter func209,ntmps209;go_wp2_with (first
  | (go_at_call 42;(with_reducible refine (Zb _ _ _ _ _ h1).mono ?_);rintro e w'⟨rfl,rfl⟩)
  | (go_at_call 42;(with_reducible refine (Zb _ _ _ _ _ r).mono ?_);rintro e w'⟨rfl,rfl⟩))
 go_loopw [29] (MulRel w xs ys) (λi _=>(Q xs)-(intOf i).toNat)
 case atStart =>
  refine⟨0,List.replicate ((Q xs)+(Q ys)) 0,AV _,rfl,AE,?_,?_,?_,Own.new _ _ _ _,(AP _ _).alloc (AJ _) _⟩
  ·intro y hy;have:=List.eq_of_mem_replicate hy;omega
  ·have:=Ns (List.replicate ((Q xs)+(Q ys)) 0) 0 (λi _=>by simp[List.getElem?_replicate];split <;> rfl);simpa [val] using this
  intro j _;simp[List.getElem?_replicate];split <;> rfl
 obtain⟨i,a,hi,rfl,D,g,E,F,b,f⟩:=hrel;have d:=LH D;have B:=LH E;have S:=LH F;clear D E F;by_cases ah:i<(Q xs)
 ·obtain⟨b1,o1,x,rfl,au,Hx,ad⟩:=(h1.below f).get (j:=i) ah;have L:=lx.of_get Hx.out;go_wp2;obtain⟨R,rfl⟩:∃R:World,R=wr:=⟨_,rfl⟩;go_loopw [9,36] (MulRel2 w x ys a i) (λ_ q _=>(Q ys)-(intOf q).toNat)
  case atStart=>exact⟨0,AV _,rfl,rfl,by rw[Zz7];exact b,f⟩
  clear b f ad;obtain⟨k,hk,rfl,rfl,b,f⟩:=hrel;have ae:=Zy8 x ys (a.drop i) L M (g.drop _) k;by_cases ai:k<(Q ys)
  ·obtain⟨b2,o2,y,rfl,av,o,aw⟩:=(r.below f).get (j:=k) ai;have am:=M.of_get o.out;have l:=LH (Nq x ys a i k (by rw[d.out];omega));obtain⟨z,C,af⟩:=b.cell (i:=i+k) (by rw[l.out,d.out];omega);have ag:=b.frozen (i+k);have p:Hid (a[i+k]? = some z):=LH (by rw[<-Zwa x ys a i k (by rw[d.out];omega)];exact C.out);have ao:=g.of_get p.out;have hb:=Ag L am ao ae;have a1:(0:Int)<=(x:Int)*(y:Int):=by rw[<-Int.natCast_mul];omega
   have a2:(x:Int)*(y:Int)+(z:Int)+((Vn x ys (a.drop i) k).2:Int)<18446744073709551616:=by rw[<-Int.natCast_mul];omega
   have U:=LH (Zze x ys a i k (by rw[d.out];omega));clear hb;go_wp2;go_roundw
   case rel =>
    refine⟨k+1,AA,AF,?_,?_,f.setCell AE _⟩
    ·have an:=p.out;simp only[Vn,Yg o.out];rw[show (a.drop i).getD k 0=z from by simp[DX,an]];go_num
    have:=b.set_ (i+k) ((x*y+z+(Vn x ys (a.drop i) k).2) % 4294967296);have J:=U.out;rw[Yg o.out,Yg p.out] at J;rw[J] at this;simpa using this
   simp[intOf];omega
  obtain rfl:k=(Q ys):=AA
  have I:=mul_row x ys a i (by rw[d.out];omega) S.out;have T:=LH I;clear I;have l:=LH (Nq x ys a i (Q ys) (by rw[d.out];omega));obtain⟨z,C,af⟩:=b.cell (i:=i+(Q ys)) (by rw[l.out,d.out];omega);have ag:=b.frozen (i+(Q ys));go_wp2;go_roundw
  case rel =>
   obtain⟨W,X,Y⟩:=T.out;refine⟨i+1,_,AA,AF,?_,?_,?_,Y,?_,f.setCell AE _⟩
   ·rw[X,d.out]
   ·intro v hv;rcases List.mem_or_eq_of_mem_set hv with h | h
    ·exact Zx0 x ys a i (Q ys) g v h
    omega
   ·rw[W,B.out,Y5,Yg Hx.out,Nat.add_mul,DT]
   have:=b.set_ (i+(Q ys)) (Vn x ys (a.drop i) (Q ys)).2;simpa using this
  simp[intOf];omega
 obtain rfl:i=(Q xs):=AA
 have s:=B.out;rw[List.take_length] at s;have aj:=b.nums (n:=(Q xs)+(Q ys)) (c:=(Q xs)+(Q ys)) d.out (AJ _) AA;have V:=LH s;clear s;go_wp2_with (go_at_call 225;(with_reducible refine (Ztv _ _ _ _ _ aj g).mono ?_);rintro e w'⟨A,c,rfl,hN,Z⟩);go_ret2;rw[<-V.out];exact⟨A,c,rfl,hN,Zz f Z⟩
def F2(b:Option Addr)(n c1:Nat)(xs:List Nat)(c:Option Addr)(m c2:Nat)(ys:List Nat)(w:World)(h1:Zq .u32 w b n c1 xs)(d:Zq .u32 w c m c2 ys)(h:Lim xs)(j:Lim ys):
 Calls prog 209 #[K b n c1,K c m c2] w (Xr w (N9 xs ys)):=by
 by_cases f:Zm xs=true
 case neg =>
  have k:Zm xs=false:=by simpa using f
  have a:N9 xs ys=([],1):=by simp[N9,k]
  rw[a];clear a f;go_enter func209,ntmps209;go_wp2_with (first
   | (go_at_call 42;(with_reducible refine (Zb _ _ _ _ _ h1).mono ?_);rintro e w'⟨rfl,rfl⟩)
   | (go_at_call 42;(with_reducible refine (Zb _ _ _ _ _ d).mono ?_);rintro e w'⟨rfl,rfl⟩))
  go_ret2;exact⟨aN,0,rfl,Zq.nil _ _ _ _ AE,AP _ _⟩
 by_cases g:Zm ys=true
 case neg =>
  have l:Zm ys=false:=by simpa using g
  have a:N9 xs ys=([],1):=by simp[N9,l]
  rw[a];clear a g;go_enter func209,ntmps209;go_wp2_with (first
   | (go_at_call 42;(with_reducible refine (Zb _ _ _ _ _ h1).mono ?_);rintro e w'⟨rfl,rfl⟩)
   | (go_at_call 42;(with_reducible refine (Zb _ _ _ _ _ d).mono ?_);rintro e w'⟨rfl,rfl⟩))
  go_ret2;exact⟨aN,0,rfl,Zq.nil _ _ _ _ AE,AP _ _⟩
 exact nat_mul_ok b n c1 xs c m c2 ys w h1 d h j f g
theorem tr_times(g:Option Addr)(n1 c1:Nat)(b:Bool)(x:Nat)(h:Option Addr)(n2 c2:Nat)(c:Bool)(y:Nat)(w:World)(h1:Z1 w g n1 c1 b x)(h2:Z1 w h n2 c2 c y):
 Calls prog 208 #[.agg #[.slice g n1 c1,.bool b],.agg #[.slice h n2 c2,.bool c]] w (RetV w (x*y)):=by
 have r:=h1.cases;have s:=h2.cases;have H1:=LH h1;have H2:=LH h2;clear h1 h2;obtain⟨hB,E,F,ap⟩:=Zy1 w 154 #[.slice g n1 c1,.bool b] #[.slice h n2 c2,.bool c] #[.slice none 0 0,.bool false];go_enter func208,ntmps208;go_upto_region 1 with fail;generalize ((w.alloc (.cells #[.slice g n1 c1,.bool b] 154)).alloc (.cells #[.slice h n2 c2,.bool c] 154)).alloc (.cells #[.slice none 0 0,.bool false] 154)=W at *;have L:=E.lt;have M:=F.lt;have A:=E.cell 0;have B:=E.cell 1;have C:=F.cell 0;have D:=F.cell 1;have d:=LH E;have f:=LH F;have a:=LH ap;have HB:=LH hB;have C1:=LH (Ztk g n1 c1 b x W (H1.out.below hB));clear E F ap hB;go_wp2_with fail;(with_reducible refine C1.out.mono ?_);rintro e k⟨rfl,G⟩;have N:=LH (Zz HB.out G);have d:=LH (d.out.ext G);have f:=LH (f.out.ext G);have a:=LH (a.out.ext G);clear G C1 HB A B C D L M;have L:=d.out.lt;have M:=f.out.lt;have Y:=a.out.lt;have A:=d.out.cell 0;have B:=d.out.cell 1;have C:=f.out.cell 0;have D:=f.out.cell 1;have O:=a.out.cell 0;have P:=a.out.cell 1;have S:=a.out.frozen 0;have T:=a.out.frozen 1;by_cases J:x=0
 case pos =>
  subst J;have hd:decide ((0:Nat)=0)=true:=rfl;have j:=LH (Uc a.out N.out (DC _ _) none 0 0 false);clear r s;go_wp2_with fail;refine AW (AX (p:=4) AB _ _ (w.heap.size+2) 154 #[.slice none 0 0,.bool false] (0,0) _ rfl j.out.2.1 underlying154 rfl AB) rfl ?_;exact⟨j.out.1,_,_,_,_,rfl,by rw[Nat.zero_mul];exact Z1.zero _ _ _ AA⟩
 have hd:decide (x=0)=false:=by rw[AZ];exact J
 have C2:=LH (Ztk h n2 c2 c y k (H2.out.below N.out));have a0:=LH J;clear J;rw[hd];go_wp2_with fail;(with_reducible refine C2.out.mono ?_);rintro e l⟨rfl,H⟩;have v:=LH (Zz N.out H);have d:=LH (d.out.ext H);have f:=LH (f.out.ext H);have a:=LH (a.out.ext H);clear H C2 N A B C D L M Y O P S T hd;have L:=d.out.lt;have M:=f.out.lt;have Y:=a.out.lt;have A:=d.out.cell 0;have B:=d.out.cell 1;have C:=f.out.cell 0;have D:=f.out.cell 1;have O:=a.out.cell 0;have P:=a.out.cell 1;have S:=a.out.frozen 0;have T:=a.out.frozen 1;by_cases X:y=0
 case pos =>
  subst X;have hd:decide ((0:Nat)=0)=true:=rfl;have j:=LH (Uc a.out v.out (DC _ _) none 0 0 false);clear r s;go_wp2_with fail;refine AW (AX (p:=4) AB _ _ (w.heap.size+2) 154 #[.slice none 0 0,.bool false] (0,0) _ rfl j.out.2.1 underlying154 rfl AB) rfl ?_;exact⟨j.out.1,_,_,_,_,rfl,by rw[Nat.mul_zero];exact Z1.zero _ _ _ AA⟩
 have hd:decide (y=0)=false:=by rw[AZ];exact X
 rw[hd];have Z:=LH (Uc a.out v.out (DC _ _) none 0 0 true);by_cases n:b=true\/c=true
 case pos =>
  have Hz:Hid (¬x*y<big):=LH (by
   have a2:x<=x*y:=Nat.le_mul_of_pos_right x AA;have J:=a0.out;have a3:y<=x*y:=Nat.le_mul_of_pos_left y AA;rcases r with ⟨o,e1,_⟩ | ⟨o,e1,_⟩
   ·rcases s with ⟨q,e2,_⟩ | ⟨q,e2,_⟩
    ·rw[e1,e2] at n;simp at n
    omega
   omega)
  clear r s X hd;rcases (by cases b <;> cases c <;> simp at n <;> simp:b=true\/(b=false/\c=true)) with rfl | ⟨rfl,rfl⟩;all_goals
   clear n;go_wp2_with fail;refine AW (AX (p:=4) AB _ _ (w.heap.size+2) 154 #[.slice none 0 0,.bool true] (0,0) _ rfl Z.out.2.1 underlying154 rfl AB) rfl ?_;exact⟨Z.out.1,_,_,_,_,rfl,Z1.over _ Hz.out⟩
 obtain⟨rfl,rfl⟩:b=false/\c=false:=by cases b <;> cases c <;> simp at n <;> simp
 obtain⟨o,ex⟩:x<big/\(Vk x).1=Zq3 x:=by
  rcases r with ⟨o,_,ex⟩ | ⟨_,e,_⟩
  ·exact⟨o,ex⟩
  cases e
 obtain⟨q,R⟩:y<big/\(Vk y).1=Zq3 y:=by
  rcases s with ⟨q,_,R⟩ | ⟨_,e,_⟩
  ·exact⟨q,R⟩
  cases e
 have CA:=F2 g n1 c1 (Vk x).1 h n2 c2 (Vk y).1 l (H1.out.2.below v.out) (H2.out.2.below v.out) (Wx x) (Wx y);rw[ex,R,Nw x y o q] at CA;have CA:=LH CA;clear r s n ex R o q Z X hd;go_wp2_with fail;(with_reducible refine CA.out.mono ?_);rintro e W3⟨u,c3,rfl,ae,ad⟩;generalize hp:Xm (x*y)=p at *;obtain⟨t,er⟩:=p;simp only[] at ae;have Hp:=LH hp;have HN:=LH ae;have X3:=a.out.ext ad;have av:=LH (Zz v.out ad);clear A B C D O P S T L M Y hp ae ad CA;go_wp2_with fail;(with_reducible refine (tr_cof u t.length c3 (er:Int) W3).mono ?_);rintro e W4⟨rfl,U⟩;have m:=X3.ext U;have O:=m.cell 0;have P:=m.cell 1;have S:=m.frozen 0;have T:=m.frozen 1;have Y:=m.lt;have ax:=LH (HN.out.below U);obtain⟨z,V⟩:∃z,z=((er:Int)==2):=⟨_,rfl⟩;have j:=LH (Uc m (Zz av.out U) (DC _ _) u t.length c3 z);rw[<-V];have az:Hid (∀(w':World),Zq .u32 w' u t.length c3 t->Z1 w' u t.length c3 z (x*y)):=LH λw' hn=>by
  have I:=Hp.out;unfold Xm at I;unfold Z1 Vk;by_cases hz:x*y<big
  ·rw[if_pos hz] at I ⊢;obtain⟨rfl,rfl⟩:=Prod.mk.inj I;exact⟨by rw[V];rfl,hn⟩
  rw[if_neg hz] at I ⊢;obtain⟨rfl,rfl⟩:=Prod.mk.inj I;exact⟨by rw[V];rfl,hn⟩
 clear X3 m U V;go_wp2_with fail;refine AW (AX (p:=4) AB _ _ (w.heap.size+2) 154 #[.slice u t.length c3,.bool z] (0,0) _ rfl j.out.2.1 underlying154 rfl AB) rfl ?_;exact⟨j.out.1,_,_,_,_,rfl,az.out _ (ax.out.kept j.out.2.2)⟩
section
open Go.Maps (Keyed IsMap Tidy)
def nat_add_ge(l:Option Addr)(n c1:Nat)(xs:List Nat)(o:Option Addr)(m c2:Nat)(ys:List Nat)(w:World)(h1:Zq .u32 w l n c1 xs)(g:Zq .u32 w o m c2 ys)(G:Lim xs)(H:Lim ys)(I:Zm xs=true)(X:Zm ys=true)(ah:m<=n):
 Calls prog 224 #[K l n c1,K o m c2] w (Xr w (Mu xs ys)):=by
 have E:=h1.len;have F:=g.len;have ai:n<=32:=by simp[Zm] at I;omega
 have t:¬(n<m):=AA
 have u:=Wm (P:=prog) 44 41 .u32 4 underlying44 Tryz.info34 (n+1) AA AA;have ag:∀w:World,(Instr.makeSlice 44 (aI aJ ((n:Int)+1)) (aI aJ ((n:Int)+1))).run prog w = .ok (K (some ⟨w,0,aN⟩) (n+1) (n+1)) (w.alloc (aC (nums .u32 (List.replicate (n+1) 0)).toArray 41)):=u;clear u;have L:=LH E;have p:=LH F;clear E F;go_enter func224,ntmps224;go_wp2_with (first
  | (go_at_call 42;(with_reducible refine (Zb _ _ _ _ _ h1).mono ?_);rintro e w'⟨rfl,rfl⟩)
  | (go_at_call 42;(with_reducible refine (Zb _ _ _ _ _ g).mono ?_);rintro e w'⟨rfl,rfl⟩))
 go_loopw [7,31] (AddRel w xs ys n w) (λ_ i _=>n-(intOf i).toNat)
 case atStart=>exact⟨0,AV _,rfl,rfl,Own.new _ _ _ _,(AP _ _).alloc (AJ _) _⟩
 obtain⟨k,hk,rfl,rfl,a,d⟩:=hrel;have r:=Lg xs ys G H k;have v:=Mq xs ys k;have b:=LH v;clear v;by_cases t:k<n
 ·obtain⟨Y,o1,x,rfl,aa,Hx,ad⟩:=(h1.below d).get (j:=k) t;have C:=G.of_get Hx.out;have T:=a.frozen k;obtain⟨z,N,S⟩:=a.cell (i:=k) (by simp[b.out];omega);by_cases U:k<m
  ·obtain⟨Z,o2,y,rfl,ab,f,ae⟩:=(g.below d).get (j:=k) U;have W:=H.of_get f.out;go_wp2_with (go_at_call 239;(with_reducible refine (Dg x y _ _ C W r).mono ?_);rintro e w'⟨rfl,rfl⟩);go_roundw
   case rel =>
    refine⟨k+1,AA,AF,?_,?_,d.setCell AE _⟩
    ·simp only[V4,Yg Hx.out,Yg f.out];go_num
    have:=a.set_ k ((x+y+(V4 xs ys k).2) % 4294967296);rw[M8 _ k (n+1) _ b.out AA] at this;simpa [V4,Hx.out,f.out] using this
   simp[intOf];omega
  have q:=LH (K8 (xs:=ys) (j:=k) (by have:=p.out;omega));go_wp2_with (go_at_call 239;(with_reducible refine (L5 x _ _ C r).mono ?_);rintro e w'⟨rfl,rfl⟩);go_roundw
  case rel =>
   refine⟨k+1,AA,AF,?_,?_,d.setCell AE _⟩
   ·simp only[V4,Yg Hx.out,q.out];go_num
   have:=a.set_ k ((x+0+(V4 xs ys k).2) % 4294967296);rw[M8 _ k (n+1) _ b.out AA] at this;have D:=q.out;rw[AO] at D;simpa [V4,Hx.out,D] using this
  simp[intOf];omega
 obtain rfl:k=n:=AA
 have T:=a.frozen k;obtain⟨z,N,S⟩:=a.cell (i:=k) (by simp[b.out]);have h:=a.set_ k (V4 xs ys k).2;rw[M8 _ k (k+1) _ b.out AA,Nat.sub_self,List.replicate_zero,DJ] at h;have V:=h.nums (n:=k+1) (c:=k+1) (by simp[b.out]) (AJ _) AA;have B:=Zx4 xs ys k (by have:=L.out;omega) (by have:=p.out;omega);have M:=LH B;have s:Mu xs ys=Xm (val xs+val ys):=by simp[Mu,I,X]
 have J:=LH s;clear B s h;go_wp2_with (go_at_call 225;(with_reducible refine (Ztv _ _ _ _ _ V ((Zxn xs ys k).append (Lim.mk AA Lim.nil))).mono ?_);rintro e w'⟨A,c,rfl,R,O⟩);go_ret2;rw[J.out,<-M.out];exact⟨A,c,rfl,R,Zz (d.setCell AE _) O⟩
def nat_add_lt(l:Option Addr)(n c1:Nat)(xs:List Nat)(o:Option Addr)(m c2:Nat)(ys:List Nat)(w:World)(h1:Zq .u32 w l n c1 xs)(g:Zq .u32 w o m c2 ys)(G:Lim xs)(H:Lim ys)(I:Zm xs=true)(Y:Zm ys=true)(V:m<n):
 Calls prog 224 #[K o m c2,K l n c1] w (Xr w (Mu ys xs)):=by
 have E:=h1.len;have F:=g.len;have ai:n<=32:=by simp[Zm] at I;omega
 have t:m<n:=V;have u:=Wm (P:=prog) 44 41 .u32 4 underlying44 Tryz.info34 (n+1) AA AA;have ah:∀w:World,(Instr.makeSlice 44 (aI aJ ((n:Int)+1)) (aI aJ ((n:Int)+1))).run prog w = .ok (K (some ⟨w,0,aN⟩) (n+1) (n+1)) (w.alloc (aC (nums .u32 (List.replicate (n+1) 0)).toArray 41)):=u;clear u;have L:=LH E;have p:=LH F;clear E F;go_enter func224,ntmps224;go_wp2_with (first
  | (go_at_call 42;(with_reducible refine (Zb _ _ _ _ _ g).mono ?_);rintro e w'⟨rfl,rfl⟩)
  | (go_at_call 42;(with_reducible refine (Zb _ _ _ _ _ h1).mono ?_);rintro e w'⟨rfl,rfl⟩))
 go_loopw [7,31] (AddRel w xs ys n w) (λ_ i _=>n-(intOf i).toNat)
 case atStart=>exact⟨0,AV _,rfl,rfl,Own.new _ _ _ _,(AP _ _).alloc (AJ _) _⟩
 obtain⟨k,hk,rfl,rfl,a,d⟩:=hrel;have r:=Lg xs ys G H k;have v:=Mq xs ys k;have b:=LH v;clear v;by_cases t:k<n
 ·obtain⟨Z,o1,x,rfl,ab,Hx,ae⟩:=(h1.below d).get (j:=k) t;have C:=G.of_get Hx.out;have T:=a.frozen k;obtain⟨z,N,S⟩:=a.cell (i:=k) (by simp[b.out];omega);by_cases U:k<m
  ·obtain⟨b2,o2,y,rfl,ad,f,af⟩:=(g.below d).get (j:=k) U;have X:=H.of_get f.out;go_wp2_with (go_at_call 239;(with_reducible refine (Dg x y _ _ C X r).mono ?_);rintro e w'⟨rfl,rfl⟩);go_roundw
   case rel =>
    refine⟨k+1,AA,AF,?_,?_,d.setCell AE _⟩
    ·simp only[V4,Yg Hx.out,Yg f.out];go_num
    have:=a.set_ k ((x+y+(V4 xs ys k).2) % 4294967296);rw[M8 _ k (n+1) _ b.out AA] at this;simpa [V4,Hx.out,f.out] using this
   simp[intOf];omega
  have q:=LH (K8 (xs:=ys) (j:=k) (by have:=p.out;omega));go_wp2_with (go_at_call 239;(with_reducible refine (L5 x _ _ C r).mono ?_);rintro e w'⟨rfl,rfl⟩);go_roundw
  case rel =>
   refine⟨k+1,AA,AF,?_,?_,d.setCell AE _⟩
   ·simp only[V4,Yg Hx.out,q.out];go_num
   have:=a.set_ k ((x+0+(V4 xs ys k).2) % 4294967296);rw[M8 _ k (n+1) _ b.out AA] at this;have D:=q.out;rw[AO] at D;simpa [V4,Hx.out,D] using this
  simp[intOf];omega
 obtain rfl:k=n:=AA
 have T:=a.frozen k;obtain⟨z,N,S⟩:=a.cell (i:=k) (by simp[b.out]);have h:=a.set_ k (V4 xs ys k).2;rw[M8 _ k (k+1) _ b.out AA,Nat.sub_self,List.replicate_zero,DJ] at h;have W:=h.nums (n:=k+1) (c:=k+1) (by simp[b.out]) (AJ _) AA;have B:=Zx4 xs ys k (by have:=L.out;omega) (by have:=p.out;omega);have M:=LH B;have s:Mu ys xs=Xm (val xs+val ys):=by simp[Mu,I,Y,Em]
 have J:=LH s;clear B s h;go_wp2_with (go_at_call 225;(with_reducible refine (Ztv _ _ _ _ _ W ((Zxn xs ys k).append (Lim.mk AA Lim.nil))).mono ?_);rintro e w'⟨A,c,rfl,R,O⟩);go_ret2;rw[J.out,<-M.out];exact⟨A,c,rfl,R,Zz (d.setCell AE _) O⟩
def nat_add(b:Option Addr)(n c1:Nat)(xs:List Nat)(c:Option Addr)(m c2:Nat)(ys:List Nat)(w:World)(h1:Zq .u32 w b n c1 xs)(d:Zq .u32 w c m c2 ys)(h:Lim xs)(j:Lim ys):
 Calls prog 224 #[K b n c1,K c m c2] w (Xr w (Mu xs ys)):=by
 by_cases f:Zm xs=true
 ·by_cases g:Zm ys=true
  ·by_cases k:m<=n
   ·exact nat_add_ge b n c1 xs c m c2 ys w h1 d h j f g k
   exact nat_add_lt c m c2 ys b n c1 xs w d h1 j h g f AA
  have o:Zm ys=false:=by simpa using g
  have a:Mu xs ys=([],1):=by simp[Mu,o]
  rw[a];clear a g;go_enter func224,ntmps224;go_wp2_with (first
   | (go_at_call 42;(with_reducible refine (Zb _ _ _ _ _ h1).mono ?_);rintro e w'⟨rfl,rfl⟩)
   | (go_at_call 42;(with_reducible refine (Zb _ _ _ _ _ d).mono ?_);rintro e w'⟨rfl,rfl⟩))
  go_ret2;exact⟨aN,0,rfl,Zq.nil _ _ _ _ AE,AP _ _⟩
 have l:Zm xs=false:=by simpa using f
 have a:Mu xs ys=([],1):=by simp[Mu,l]
 rw[a];clear a f;go_enter func224,ntmps224;go_wp2_with (first
  | (go_at_call 42;(with_reducible refine (Zb _ _ _ _ _ h1).mono ?_);rintro e w'⟨rfl,rfl⟩)
  | (go_at_call 42;(with_reducible refine (Zb _ _ _ _ _ d).mono ?_);rintro e w'⟨rfl,rfl⟩))
 go_ret2;exact⟨aN,0,rfl,Zq.nil _ _ _ _ AE,AP _ _⟩
end
section
open Go.Maps (Keyed IsMap Tidy)
open Go.Maps (Keyed IsMap Tidy)
def Yo.not_map{b w:World}{k:CH}{h:GH}{G:Gr}(C:Yo b k h G S w)(a:Blk w g t cs):¬k.maps g:=by
 obtain⟨ts,d⟩:=C.trees;obtain⟨f,c⟩:=C.forts;rintro (e | e)
 ·exact d.map.ne_blk a e
 exact c.map.ne_blk a e
def Yo.store{w:World}{k:CH}{h:GH}{G:Gr}(C:Yo d k h G S w){ns cs:Nat}{p:Bool}(a:Blk w g 154 #[K o ns cs,aB p])(r:S g)(s:d.heap.size<=g)(A:Option Addr)(n c:Nat)(b:Bool):
 Yo d k h G S ((w.setCell ⟨g,0,aN⟩ (K A n c)).setCell ⟨g,1,aN⟩ (aB b))/\Off (λq=>q=g) w ((w.setCell ⟨g,0,aN⟩ (K A n c)).setCell ⟨g,1,aN⟩ (aB b))/\Zf w ((w.setCell ⟨g,0,aN⟩ (K A n c)).setCell ⟨g,1,aN⟩ (aB b)) /\
  Blk ((w.setCell ⟨g,0,aN⟩ (K A n c)).setCell ⟨g,1,aN⟩ (aB b)) g 154 #[K A n c,aB b]:=by
 have f:Off (λq=>q=g) w ((w.setCell ⟨g,0,aN⟩ (K A n c)).setCell ⟨g,1,aN⟩ (aB b)):=(Off.of_set w g 0 (K A n c)).trans (Off.of_set _ g 1 (aB b)) λ_ _ h=>h;have l:Zf w ((w.setCell ⟨g,0,aN⟩ (K A n c)).setCell ⟨g,1,aN⟩ (aB b)):=Zf.of_off f λq j=>by rw[j];exact Jk a
 have m:=C.not_map a;refine⟨C.move f l λq j=>?_,f,l,(a.set 0 _).set 1 _⟩;subst j;refine⟨r,s,?_,?_,λe=>m (.inl e),λe=>m (.inr e)⟩
 ·rintro rfl;have h1:=C.box;unfold Blk at h1 a;rw[h1] at a;injection a with a;injection a with _ h3 _;exact absurd h3 AC
 rintro rfl;have h1:=C.nul;unfold Z8 Blk at h1;unfold Blk at a;rw[h1] at a;injection a with a;injection a with _ h3 _;exact absurd h3 AC
end
theorem Zu2(f:Option Addr)(n1 c1:Nat)(a:Bool)(x:Nat)(g:Option Addr)(n2 c2:Nat)(b:Bool)(y:Nat)(w:World)(h1:Z1 w f n1 c1 a x)(D:Z1 w g n2 c2 b y):
 Calls prog 207 #[.agg #[.slice f n1 c1,.bool a],.agg #[.slice g n2 c2,.bool b]] w (RetV w (x+y)):=by
 have z:=h1.cases;have A:=D.cases;have U:=LH h1.2;have V:=LH D.2;clear h1 D;obtain⟨h,q,r,c⟩:=Zy1 w 154 #[.slice f n1 c1,.bool a] #[.slice g n2 c2,.bool b] #[.slice none 0 0,.bool false];go_enter func207,ntmps207;go_upto_region 1 with fail;generalize ((w.alloc (.cells #[.slice f n1 c1,.bool a] 154)).alloc (.cells #[.slice g n2 c2,.bool b] 154)).alloc (.cells #[.slice none 0 0,.bool false] 154)=W at *;have l1:=q.lt;have l2:=r.lt;have T:=c.lt;have ah:=q.cell 0;have ai:=q.cell 1;have aj:=r.cell 0;have ak:=r.cell 1;have H:=c.cell 0;have I:=c.cell 1;have N:=c.frozen 0;have O:=c.frozen 1;have ab:=LH c;have X:=LH h;have B:=LH (Uc c h (DC _ _) none 0 0 true);by_cases j:a=true\/b=true
 case pos =>
  have Hz:Hid (¬x+y<big):=LH (by
   rcases z with ⟨k,J,_⟩ | ⟨k,J,_⟩
   ·rcases A with ⟨l,L,_⟩ | ⟨l,L,_⟩
    ·rw[J,L] at j;simp at j
    omega
   omega)
  clear q r c h z A;rcases (by cases a <;> cases b <;> simp at j <;> simp:a=true\/(a=false/\b=true)) with rfl | ⟨rfl,rfl⟩;all_goals
   clear j;go_wp2_with fail;refine AW (AX (p:=4) AB _ _ (w.heap.size+2) 154 #[.slice none 0 0,.bool true] (0,0) _ rfl B.out.2.1 underlying154 rfl AB) rfl ?_;exact⟨B.out.1,_,_,_,_,rfl,Z1.over _ Hz.out⟩
 obtain⟨rfl,rfl⟩:a=false/\b=false:=by cases a <;> cases b <;> simp at j <;> simp
 obtain⟨k,ex⟩:x<big/\(Vk x).1=Zq3 x:=by
  rcases z with ⟨k,_,ex⟩ | ⟨_,e,_⟩
  ·exact⟨k,ex⟩
  cases e
 obtain⟨l,t⟩:y<big/\(Vk y).1=Zq3 y:=by
  rcases A with ⟨l,_,t⟩ | ⟨_,e,_⟩
  ·exact⟨l,t⟩
  cases e
 have CA:=nat_add f n1 c1 (Vk x).1 g n2 c2 (Vk y).1 W (U.out.below h) (V.out.below h) (Wx x) (Wx y);rw[ex,t,Nz x y k l] at CA;have CA:=LH CA;clear q r c h z A j ex t k l B;go_wp2_with fail;(with_reducible refine CA.out.mono ?_);rintro e W2⟨n,c3,rfl,F,E⟩;generalize R:Xm (x+y)=p at *;obtain⟨m,M⟩:=p;simp only[] at F;have Hp:=LH R;have Z:=LH F;have G:=ab.out.ext E;have Y:=LH (Zz X.out E);clear ah ai aj ak H I N O l1 l2 T R F E CA;go_wp2_with fail;(with_reducible refine (tr_cof n m.length c3 (M:Int) W2).mono ?_);rintro e W3⟨rfl,u⟩;have d:=G.ext u;have H:=d.cell 0;have I:=d.cell 1;have N:=d.frozen 0;have O:=d.frozen 1;have T:=d.lt;have aa:=LH (Z.out.below u);obtain⟨o,v⟩:∃o,o=((M:Int)==2):=⟨_,rfl⟩;have C:=LH (Uc d (Zz Y.out u) (DC _ _) n m.length c3 o);rw[<-v];have ae:Hid (∀(w':World),Zq .u32 w' n m.length c3 m->Z1 w' n m.length c3 o (x+y)):=LH λw' P=>by
  have s:=Hp.out;unfold Xm at s;unfold Z1 Vk;by_cases S:x+y<big
  ·rw[if_pos S] at s ⊢;obtain⟨rfl,rfl⟩:=Prod.mk.inj s;exact⟨by rw[v];rfl,P⟩
  rw[if_neg S] at s ⊢;obtain⟨rfl,rfl⟩:=Prod.mk.inj s;exact⟨by rw[v];rfl,P⟩
 clear G d u v;go_wp2_with fail;refine AW (AX (p:=4) AB _ _ (w.heap.size+2) 154 #[.slice n m.length c3,.bool o] (0,0) _ rfl C.out.2.1 underlying154 rfl AB) rfl ?_;exact⟨C.out.1,_,_,_,_,rfl,ae.out _ (aa.out.kept C.out.2.2)⟩
def Yo.apart{w:World}{k:CH}{h:GH}{G:Gr}(C:Yo d k h G S w)(a:Blk w g 154 cs):g≠k.c/\g≠k.n/\g≠k.t/\g≠k.f:=by
 have b:=C.not_map a;refine⟨?_,?_,λe=>b (.inl e),λe=>b (.inr e)⟩
 ·rintro rfl;have h1:=C.box;unfold Blk at h1 a;rw[h1] at a;injection a with a;injection a with _ h3 _;exact absurd h3 AC
 rintro rfl;have h1:=C.nul;unfold Z8 Blk at h1;unfold Blk at a;rw[h1] at a;injection a with a;injection a with _ h3 _;exact absurd h3 AC
def Yo.store0{w:World}{k:CH}{h:GH}{G:Gr}(C:Yo a k h G S w){ns cs:Nat}{j:Bool}(b:Blk w g 154 #[K m ns cs,aB j])(o:S g)(p:a.heap.size<=g)(A:Option Addr)(n c:Nat):
 Yo a k h G S (w.setCell ⟨g,0,aN⟩ (K A n c))/\Off (λq=>q=g) w (w.setCell ⟨g,0,aN⟩ (K A n c))/\Zf w (w.setCell ⟨g,0,aN⟩ (K A n c))/\Blk (w.setCell ⟨g,0,aN⟩ (K A n c)) g 154 #[K A n c,aB j]:=by
 have d:=Off.of_set w g 0 (K A n c);have l:Zf w (w.setCell ⟨g,0,aN⟩ (K A n c)):=Zf.of_off d λq f=>by rw[f];exact Jk b
 refine⟨C.move d l λq f=>?_,d,l,b.set 0 _⟩;subst f;exact⟨o,p,C.apart b⟩
def Zu1{w:World}{k:CH}{h:GH}{G:Gr}{S':Nat->Prop}(C:Yo a k h G S w){c:Nat}{b:Bool}(r:Blk w g 154 #[K A n c,aB b])(p:Z1 w A n c b x)(m:Off k.maps d w)(o:S g)(t:a.heap.size<=g)(s:d.heap.size<=g)(u:∀q,S' q->S q):
 Blk ((w.setCell ⟨g,0,aN⟩ (K A n c)).setCell ⟨g,1,aN⟩ (aB b)) g 154 #[K A n c,aB b] /\
  CRet a k h G S' d x (aR (aG #[K A n c,aB b])) ((w.setCell ⟨g,0,aN⟩ (K A n c)).setCell ⟨g,1,aN⟩ (aB b)):=by
 obtain⟨h1,f,j,l⟩:=C.store r o t A n c b;exact⟨l,h1.less u,m.maps_new f s,A,n,c,b,rfl,p.kept j⟩
theorem Zwe{E:World}{k:CH}{h:GH}{G:Gr}{x:Nat->Prop}(hP:Xq G)(gf:FuncId)(ay:Array Value)(eg:∀args w,(callFunc gf args).run prog w = .ok (.enter gf args) w)(Al:Option Addr)(t:Nat)(l:List Int)(n:Nat)(a:World)(C0:Yo E k h G x a)(dm:∀b,x b->b<a.heap.size)(hl:Za .i64 E Al l.length t l)(hN:(Zj G).length=h.n2)(hs:∀s∈l,-(h.n2:Int)<=s/\s<=1000)(h2:h.n2<=1000)(gr:l.length<=1000)(hn:n<=100)(hT:∀s f,l=s::f->∀i,i+Uy (Zj G) f<=n->Zw5 E k h G s i)(hO:∀s f,l=s::f->∀i,i+Uy (Zj G) f<=n->Zv G s i≠0->OthC E k h G a gf ay (n-i) (Zx (Zv G) f (n-i))):
 Calls prog 159 #[.pointer (some ⟨k.c,0,none⟩),.slice Al l.length t,.int .i64 (n:Int),.func (.func gf) #[] ay] a (CRet E k h G x a (Zx (Zv G) l n)):=by
 have gp:=hl.cap;have b4:=Zy a (.cells #[.slice none 0 0,.bool false] 154);have aj:=Blk.new a 154 #[.slice none 0 0,.bool false];have df:=C0.more b4 (AJ a);have ar:=LH C0.base.size;have Hl:=LH hl;have Hs:=LH hs;have HN:=LH hN;have bp:=LH dm;have HT:=LH hT;have HO:=LH hO;have HP:=LH hP;clear hs hN hl dm hT hO hP C0;go_enter func159,ntmps159;go_upto_region 1 with fail;have dj:Off k.maps a (a.alloc (.cells #[.slice none 0 0,.bool false] 154)):=Off.of_below b4;generalize a.alloc (.cells #[.slice none 0 0,.bool false] 154)=W1 at *;have au:=LH df;have a9:=LH aj;have a8:=LH dj;have l1:=aj.lt;have c0:=aj.cell 0;have c1:=aj.cell 1;have f0:=aj.frozen 0;have f1:=aj.frozen 1;clear df aj dj b4;cases l with
 | nil =>
   by_cases ca:n=0
   case pos =>
    subst ca;have Hf:Hid (Zx (Zv G) [] 0=1):=rfl;have CO:Calls prog 104 #[.int .u64 1] W1 (Bq W1 (Zq3 1)):=nat_of 1 W1 AA;go_wp2_with fail;(with_reducible refine CO.mono ?_);rintro e Z⟨I,c3,rfl,bf,J⟩;have a3:Zq3 1=[1]:=rfl;rw[a3] at bf;simp only[a3,CW] at bf ⊢;have X3:=a9.out.ext J;have C3:=au.out.below J;have O3:=a8.out.maps_trans (Off.of_below J);obtain⟨C4,O4,K4,X4⟩:=C3.store0 X3 (.inr rfl) ar.out I 1 c3;have am:Z1 (Z.setCell ⟨a,0,none⟩ (.slice I 1 c3)) I 1 c3 false 1:=by
     unfold Z1;rw[Zw2];exact⟨rfl,bf.kept K4⟩
    have Y:=LH (Zu1 (S':=x) C4 X4 am (O3.maps_new O4 (AJ _)) (.inr rfl) ar.out (AJ _) λq T => .inl T);have d0:=X3.cell 0;have d1:=X3.cell 1;have g0:=X3.frozen 0;have g1:=X3.frozen 1;have l2:=X3.lt;have e1:=X4.cell 0;have e2:=X4.cell 1;have i0:=X4.frozen 0;have i1:=X4.frozen 1;have l4:=X4.lt;clear c0 c1 f0 f1 l1 bf J X3 C3 O3 C4 O4 K4 X4 am CO;go_wp2_with fail;refine AW (AX (p:=8) AB _ _ a 154 #[.slice I 1 c3,.bool false] (0,0) _ rfl Y.out.1 underlying154 rfl AB) rfl ?_;rw[Hf.out];exact Y.out.2
   case neg =>
    have Hf:Hid (Zx (Zv G) [] n=0):=LH (by unfold Zx;rw[if_neg ca]);have gw:((n:Int)==0)=false:=by rw[AR];omega
    have Y:=LH (Zu1 (S':=x) au.out a9.out (Z1.zero _ _ _ AA) a8.out (.inr rfl) ar.out (AJ _) λq T => .inl T);clear ca;go_wp2_with fail;refine AW (AX (p:=8) AB _ _ a 154 #[.slice none 0 0,.bool false] (0,0) _ rfl Y.out.1 underlying154 rfl AB) rfl ?_;rw[Hf.out];exact Y.out.2
 | cons s f =>
   rw[AY] at *;obtain⟨B,F,s',rfl,b6,cv,q0⟩:=Hl.out.get (j:=0) AA;have fx:s=s':=by have:=cv.out;simpa using this
   subst fx;rw[DN] at q0;have a3:Za .i64 E (some ⟨B,F,none⟩) 1 t [s]:=Hl.out.take 1 t AA AA AA;have bh:=Hl.out.tail1;rw[Nat.add_sub_cancel] at bh;have gs:((f.length+1:Nat):Int)=(f.length:Int)+1:=AA
   obtain⟨At,b3⟩:∃At:Option Addr,At=(if t=1 then some ⟨B,F,none⟩ else some ⟨B,F+1,none⟩):=⟨_,rfl⟩;have gz:∀w:World,(Instr.sliceAt 30 (.slice (some ⟨B,F,none⟩) (f.length+1) t) (some (.int .i64 1)) none none).run prog w = .ok (.slice At f.length (t-1)) w:=λw=>by
    rw[b3];have gy:¬((f.length:Int)+1<1):=AA
    go_simp
   rw[<-b3] at bh;clear b3;have hz:(((f.length+1:Nat):Int)==0)=false:=by rw[AR];omega
   have gd:Hid (∀b,(x b\/b=a.heap.size)->b<a.heap.size+1):=LH λb y=>by
    rcases y with y | rfl
    ·exact Nat.lt_succ_of_lt (bp.out b y)
    exact Ek _
   obtain⟨g,bz⟩:∃g,Hid (g=Uy (Zj G) [s]):=⟨_,LH rfl⟩;obtain⟨z,aw⟩:∃z,Hid (z=Uy (Zj G) f):=⟨_,LH rfl⟩;have gt:g<=1:=by have:=Ztr (Zj G) [s];rw[bz.out];simpa using this
   have gu:z<=f.length:=by rw[aw.out];exact Ztr _ _
   have ck:Hid (∀X,Yo E k h G (λb=>x b\/b=a.heap.size) X->Calls prog 204 #[.pointer (some ⟨k.c,0,none⟩),.slice (some ⟨B,F,none⟩) 1 t] X λe w'=>e = .returned (.int .i64 (g:Int))/\X=w'):=LH λX C=>by
    rw[bz.out];exact Zta _ t 1 [s] X C (a3.below C.base) HN.out (λq T=>Hs.out q (by rw[BO.1 T];exact By ..)) h2 AA
   have bm:Hid (∀X,Yo E k h G (λb=>x b\/b=a.heap.size) X->Calls prog 204 #[.pointer (some ⟨k.c,0,none⟩),.slice At f.length (t-1)] X λe w'=>e = .returned (.int .i64 (z:Int))/\X=w'):=LH λX C=>by
    rw[aw.out];exact Zta _ (t-1) f.length f X C (bh.below C.base) HN.out (λq T=>Hs.out q (BN _ T)) h2 AA
   have fo:Hid (∀X,Yo E k h G (λb=>x b\/b=a.heap.size) X->B<X.heap.size/\X.cell? ⟨B,F,none⟩=some (.int .i64 s)):=LH λX C=>⟨AK b6 C.base.size,(C.base.cell (p:=⟨B,F,none⟩) b6).trans q0⟩;have fp:Hid (Jt (Zv G) s f n g (n+1-z-g)=Zx (Zv G) (s::f) n):=LH (by
    rw[bz.out,aw.out];exact splitN_all (λs hs=>Jw HP.out hs) s f n)
   have fh:Hid (∀i,i+z<=n->Zw5 E k h G s i):=LH λi hi=>HT.out s f rfl i (by rw[<-aw.out];exact hi);have fc:Hid (∀i,i+z<=n->Zv G s i≠0->OthC E k h G a gf ay (n-i) (Zx (Zv G) f (n-i))):=LH λi hi hx=>HO.out s f rfl i (by rw[<-aw.out];exact hi) hx;clear HT HO a3 bh q0 b6 cv Hl;go_wp2_with (go_at_call 204;(with_reducible refine (ck.out W1 au.out).mono ?_);rintro e Z⟨rfl,rfl⟩);go_loopw [9] (λi wr=>∃(d:Nat) (L:Option Addr) (ns cs:Nat) (N:Bool),i = .int .i64 ((g+d:Nat):Int)/\d<=n+1-z-g/\Hid (Yo E k h G (λb=>x b\/b=a.heap.size) wr)/\Hid (Off k.maps a wr)/\Hid (Blk wr a 154 #[.slice L ns cs,.bool N])/\Hid (Z1 wr L ns cs N (Jt (Zv G) s f n g d))) (λi _=>n+3-(intOf i).toNat)
   case atStart=>exact⟨0,none,0,0,false,AF,AV _,au,a8,a9,LH (Z1.zero _ _ _ AA)⟩
   clear c0 c1 f0 f1 l1 au a8 a9;obtain⟨d,L,ns,cs,N,rfl,hd,V,HO,S,HV⟩:=hrel;obtain⟨qb,qc⟩:=fo.out wr V.out;have xl:=S.out.lt;have x0:=S.out.cell 0;have x1:=S.out.cell 1;have da:=S.out.frozen 0;have db:=S.out.frozen 1;have fy:IntKind.i64.wrap ((n:Int)-(z:Int))=(n:Int)-(z:Int):=BZ _ AA;by_cases dr:g+d+z<=n
   case neg =>
    obtain rfl:d=n+1-z-g:=AA
    have dt:¬(((g+(n+1-z-g):Nat):Int)<=(n:Int)-(z:Int)):=AA
    have Y:=LH (Zu1 (S':=x) V.out S.out HV.out HO.out (.inr rfl) ar.out (AJ _) λq T => .inl T);go_wp2_with (go_at_call 204;(with_reducible refine (bm.out wr V.out).mono ?_);rintro e Z⟨rfl,rfl⟩);refine AW (AX (p:=8) AB _ _ a 154 #[.slice L ns cs,.bool N] (0,0) _ rfl Y.out.1 underlying154 rfl AB) rfl ?_;rw[<-fp.out];exact Y.out.2
   have dt:((g+d:Nat):Int)<=(n:Int)-(z:Int):=AA
   have dn:∀b,(x b\/b=a.heap.size)->b<wr.heap.size:=λb y=>by
    rcases y with y | rfl
    ·exact AK (bp.out b y) HO.out.size
    exact xl
   have CT:=LH (fh.out (g+d) dr (λb=>x b\/b=a.heap.size) wr V.out dn);have du:=Gm (Zv G) s f n g d;have fd:=LH (fc.out (g+d) dr);clear dn;generalize dy:Zv G s (g+d)=xv at *;generalize Zx (Zv G) f (n-(g+d))=fv at *;have b7:((g+d:Nat):Int)=(g:Int)+(d:Int):=AA
   rw[b7] at CT;have ge:=LH b7;clear b7;have gg:=LH dy;have ct:=LH du;clear dy du;go_wp2_with (go_at_call 204;(with_reducible refine (bm.out wr V.out).mono ?_);rintro e Z⟨rfl,rfl⟩);clear x0 x1 da db xl qb qc dt fy ck bm;(with_reducible refine CT.out.mono ?_);rintro e w2⟨dg,bg,M,R,O,P,rfl,dv⟩;have ds:=V.out.keep bg;have b5:=bg.blk S.out (V.out.not_map S.out);have dq:=HV.out.kept ds;have J:=Zy w2 (.cells #[.slice M R O,.bool P] 154);have a2:=Blk.new w2 154 #[.slice M R O,.bool P];have bn:=LH (dg.below J);have bo:=LH ((HO.out.maps_trans bg).maps_trans (Off.of_below J));have bw:=LH (b5.ext J);have bt:=LH (dq.below J);have bv:=LH (dv.below J);have gq:a.heap.size<w2.heap.size:=b5.lt;have CN:=λX hX=>Ztk M R O P xv X hX;go_upto_region 9 with fail;generalize w2.alloc (.cells #[.slice M R O,.bool P] 154)=w3 at *;generalize w2.heap.size=gx at *;have cn:=LH a2;have g0:=a2.cell 0;have g1:=a2.cell 1;have gl:=a2.lt;clear dg bg dv ds b5 dq J a2 V HO S HV;have ap:=LH (CN w3 bv.out);clear CN;by_cases an:xv=0
   case pos =>
    have b8:decide (xv=0)=true:=DV an;have fn:Hid (Jt (Zv G) s f n g (d+1)=Jt (Zv G) s f n g d):=LH (by rw[ct.out,an,Nat.zero_mul,DN]);rw[b8] at ap;clear an;go_wp2_with (go_at_call 206;(with_reducible refine ap.out.mono ?_);rintro e w4⟨rfl,H⟩);have W:=LH (bn.out.below H);have av:=LH (bo.out.maps_trans (Off.of_below H));have af:=LH (bw.out.ext H);have bu:=LH (bt.out.below H);go_roundw
    case rel=>exact⟨d+1,L,ns,cs,N,AF,AA,W,av,af,by rw[fn.out];exact bu⟩
    simp[intOf];omega
   have b8:decide (xv=0)=false:=BV an;have ff:=LH (fd.out an);rw[b8] at ap;clear an;go_upto_region 10 with (go_at_call 206;(with_reducible refine ap.out.mono ?_);rintro e w4⟨rfl,H⟩);have W:=LH (bn.out.below H);have av:=LH (bo.out.maps_trans (Off.of_below H));have af:=LH (bw.out.ext H);have bu:=LH (bt.out.below H);have co:=LH (cn.out.ext H);have fj:=LH (bv.out.below H);clear bn bo bw bt cn bv H g0 g1 gl ap;have fl:Hid (((n-(g+d):Nat):Int)=(n:Int)-((g:Int)+(d:Int))):=LH AA;have g5:IntKind.i64.wrap ((n:Int)-((g:Int)+(d:Int)))=(n:Int)-((g:Int)+(d:Int)):=BZ _ AA;refine Xh (λX=>MidC E k h G (λb=>x b\/b=a.heap.size) w4 X) (λX X'=>Zf X X') (λu=>(⟨(Value.pointer (some ⟨k.c,0,none⟩)::Value.slice (some ⟨B,F,none⟩) (f.length+1) t::Value.int IntKind.i64 (n:Int)::Value.func (Fn.func gf) #[] ay::undef::undef::undef::undef::Value.pointer (some ⟨a,0,none⟩)::Value.int IntKind.i64 ((g:Int)+(d:Int))::Value.pointer (some ⟨gx,0,none⟩)::Value.slice (some ⟨B,F,none⟩) (f.length+1) t::Value.int IntKind.i64 ((f.length:Int)+1)::Value.bool false::undef::undef::undef::undef::undef::Value.pointer (some ⟨k.c,0,none⟩)::Value.slice (some ⟨B,F,none⟩) (f.length+1) t::Value.slice (some ⟨B,F,none⟩) 1 t::Value.int IntKind.i64 (g:Int)::Value.int IntKind.i64 ((g:Int)+(d:Int))::Value.int IntKind.i64 (n:Int)::Value.pointer (some ⟨k.c,0,none⟩)::Value.slice (some ⟨B,F,none⟩) (f.length+1) t::Value.slice At f.length (t-1)::Value.int IntKind.i64 (z:Int)::Value.int IntKind.i64 ((n:Int)-(z:Int))::Value.bool true::u31::u32::Value.pointer (some ⟨k.c,0,none⟩)::Value.slice (some ⟨B,F,none⟩) (f.length+1) t::Value.pointer (some ⟨B,F,none⟩)::Value.int IntKind.i64 s::Value.int IntKind.i64 ((g:Int)+(d:Int))::Value.agg #[Value.slice M R O,Value.bool P]::Value.agg #[Value.slice M R O,Value.bool P]::Value.bool false::Value.bool true::u 0::u 1::u 2::u 3::u 4::u 5::u 6::u 7::u 8::undef::[]).toArray,[]⟩:Act)) [u42,u43,u44,u45,u46,u47,u48,u49,u50] [λv X=>v=Value.agg #[Value.slice L ns cs,Value.bool N],λv X=>v=Value.agg #[Value.slice M R O,Value.bool P],λv X=>v=Value.func (Fn.func gf) #[] ay,λv X=>v=Value.int .i64 (n:Int),λv X=>v=Value.int .i64 ((g:Int)+(d:Int)),λv X=>v=Value.int .i64 ((n:Int)-((g:Int)+(d:Int))),λv X=>∃U nq cq bq,v=Value.agg #[Value.slice U nq cq,Value.bool bq]/\Z1 X U nq cq bq (fv),λv X=>∃U nq cq bq,v=Value.agg #[Value.slice U nq cq,Value.bool bq]/\Z1 X U nq cq bq (xv*fv),λv X=>∃U nq cq bq,v=Value.agg #[Value.slice U nq cq,Value.bool bq]/\Z1 X U nq cq bq (Jt (Zv G) s f n g d+xv*fv)] (λu X=>∃A9 n9 c9 d9,Yo E k h G (λb=>x b\/b=a.heap.size) X/\Off k.maps a X/\Blk X a 154 #[Value.slice A9 n9 c9,Value.bool d9]/\Z1 X A9 n9 c9 d9 (Jt (Zv G) s f n g d+xv*fv)) (l:=[_,_,_,_,_,_,_,_,_]) AB AB AB rfl rfl ⟨W.out.below (AP _ _).drew,Off.of_below (AP _ _).drew⟩ ⟨AI,AI,AI,AI,AI,AI,(λ_ _ _ ⟨A,n,c,b,e,h⟩ y=>⟨A,n,c,b,e,h.kept y⟩),(λ_ _ _ ⟨A,n,c,b,e,h⟩ y=>⟨A,n,c,b,e,h.kept y⟩),(λ_ _ _ ⟨A,n,c,b,e,h⟩ y=>⟨A,n,c,b,e,h.kept y⟩),trivial⟩ ?_ ?_ ?_
   ·refine Zk.vf (λQ u X KK m o r=>?_) ?_
    ·have D:=m.2.blk af.out (W.out.not_map af.out);have c5:=D.cell 0;have c6:=D.cell 1;have dw:=D.lt;go_simp;exact r
    refine Zk.vf (λQ u X KK m o r=>?_) ?_
    ·have D:=m.2.blk co.out (W.out.not_map co.out);have c5:=D.cell 0;have c6:=D.cell 1;have dw:=D.lt;go_simp;exact r
    refine Zk.v0 ?_;refine Zk.v0 ?_;refine Zk.v0 ?_;refine Zk.vf (λQ u X KK m o r=>?_) ?_
    ·have p3:u 3=_:=o 3 rfl;have p4:u 4=_:=o 4 rfl;clear o;generalize u 3=x3 at *;subst p3;generalize u 4=x4 at *;subst p4;go_simp;exact r
    refine Zk.con (λQ u X m o KK r=>?_) ?_
    ·have p2:u 2=_:=o 2 rfl;have p5:u 5=_:=o 5 rfl;clear o;generalize u 2=x2 at *;subst p2;generalize u 5=x5 at *;subst p5;have ft:∀b,(x b\/b=a.heap.size)->b<X.heap.size:=λb y=>by
      rcases y with y | rfl
      ·exact AK (bp.out b y) (BC av.out.size m.2.size)
      exact AK af.out.lt m.2.size
     have CO:=ff.out (λb=>x b\/b=a.heap.size) X m.1 ft (av.out.maps_trans m.2);rw[fl.out] at CO;go_simp;(with_reducible refine CO.mono ?_);rintro e w5⟨fs,dk,A2,m2,c2,d2,rfl,cb⟩;go_simp;exact r _ _ (⟨fs,m.2.maps_trans dk⟩) (m.1.keep dk) ⟨A2,m2,c2,d2,rfl,cb⟩
    refine Zk.con (λQ u X m o KK r=>?_) ?_
    ·have p1:u 1=_:=o 1 rfl;obtain⟨A2,m2,c2,d2,p6,cb⟩:=o 6 rfl;clear o;rw[p1] at r⊢;generalize u 6=x6 at *;subst p6;have cd:=fj.out.kept (W.out.keep m.2);go_simp;(with_reducible refine (tr_times M R O P _ A2 m2 c2 d2 _ X cd cb).mono ?_);rintro e w5⟨ai,I,m3,c3,d3,rfl,cc⟩;go_simp;exact r _ _ (⟨m.1.below ai,m.2.maps_trans (Off.of_below ai)⟩) (Zf.of_below ai) ⟨I,m3,c3,d3,rfl,cc⟩
    refine Zk.con (λQ u X m o KK r=>?_) ?_
    ·have p0:u 0=_:=o 0 rfl;obtain⟨I,m3,c3,d3,p7,cc⟩:=o 7 rfl;clear o;rw[p0] at r⊢;generalize u 7=x7 at *;subst p7;have cd:=bu.out.kept (W.out.keep m.2);go_simp;(with_reducible refine (Zu2 L ns cs N _ I m3 c3 d3 _ X cd cc).mono ?_);rintro e w5⟨ai,A4,m4,c4,d4,rfl,am⟩;go_simp;exact r _ _ (⟨m.1.below ai,m.2.maps_trans (Off.of_below ai)⟩) (Zf.of_below ai) ⟨A4,m4,c4,d4,rfl,am⟩
    exact Zk.nil
   ·intro Q u X m o KK r;obtain⟨A4,m4,c4,d4,p8,am⟩:=o 8 AC;clear o;generalize u 8=x8 at *;subst p8;have D:=m.2.blk af.out (W.out.not_map af.out);have c5:=D.cell 0;have c6:=D.cell 1;have dw:=D.lt;have da:=D.frozen 0;have db:=D.frozen 1;have a4:=m.1.store D (.inr rfl) ar.out A4 m4 c4 d4;have fm:=LH (And.intro a4.1 (And.intro ((av.out.maps_trans m.2).maps_new a4.2.1 (AJ _)) (And.intro a4.2.2.2 (am.kept a4.2.2.1))));clear a4 D;go_simp;exact r (λi=>([u 0,u 1,u 2,u 3,u 4,u 5,u 6,u 7,Value.agg #[Value.slice A4 m4 c4,Value.bool d4]]:List Value).getD i undef) _ (⟨A4,m4,c4,d4,fm.out⟩)
   intro u W9 fw;obtain⟨A9,n9,c9,d9,g1,g2,g3,g4⟩:=fw;have fb:=LH g1;have fe:=LH g2;have fk:=LH g3;rw[<-ct.out] at g4;have fi:=LH g4;clear g1 g2 g3 g4;go_wp2_with fail;go_roundw
   case rel=>exact⟨d+1,A9,n9,c9,d9,AF,AA,fb,fe,fk,fi⟩
   simp[intOf];omega
def Uw{w:World}{k:CH}{h:GH}{G:Gr}{S':Nat->Prop}(C:Yo a k h G S w){A0:Option Addr}{n0 c0 c:Nat}{b0 b:Bool}(r:Blk w g 154 #[K A0 n0 c0,aB b0])(p:Z1 w A n c b x)(m:Off k.maps d w)(o:S g)(t:a.heap.size<=g)(s:d.heap.size<=g)(u:∀q,S' q->S q):
 Blk ((w.setCell ⟨g,0,aN⟩ (K A n c)).setCell ⟨g,1,aN⟩ (aB b)) g 154 #[K A n c,aB b] /\
  CRet a k h G S' d x (aR (aG #[K A n c,aB b])) ((w.setCell ⟨g,0,aN⟩ (K A n c)).setCell ⟨g,1,aN⟩ (aB b)):=by
 obtain⟨h1,f,j,l⟩:=C.store r o t A n c b;exact⟨l,h1.less u,m.maps_new f s,A,n,c,b,rfl,p.kept j⟩
def tr_rule1{n:World}{k:CH}{h:GH}{G:Gr}(x:Rul)(i d Z m s l:Nat)(X:World)(C:Yo n k h G S X)(I:∀b,S b->b<X.heap.size)(B:Blk X s 155 #[aP (some ⟨k.c,0,aN⟩)])(D:Blk X l 261 #[aI aJ (i:Int),aI aJ (d:Int),aI aJ (Z:Int)])(H:RuleC n k h G x i (d+1) m)(hd:d<=1000):
 Calls prog 238 #[aI aJ (m:Int),aP (some ⟨s,0,aN⟩),aP (some ⟨l,0,aN⟩)] X (CRet n k h G S X (Zx (Zv G) (x.rt.drop (d+1)) m)):=by
 have f:=Zy X (aC #[K aN 0 0,aB false] 154);have v:=Blk.new X 154 #[K aN 0 0,aB false];have t:=C.more f (AJ X);have F:Off k.maps X (X.alloc (aC #[K aN 0 0,aB false] 154)):=Off.of_below f;have r:=B.ext f;have j:=D.ext f;have L:(X.alloc (aC #[K aN 0 0,aB false] 154)).heap.size=X.heap.size+1:=Zl _ _;have W:=C.base.size;go_enter func238,ntmps238;go_upto_region 1 with fail;have g:=H _ _ t (λb y=>by
  rw[L];rcases y with y | rfl
  ·exact Nat.lt_succ_of_lt (I b y)
  exact Ek _)
 unfold kF at g;have V:((d+1:Nat):Int)=(d:Int)+1:=AA
 rw[V] at g;generalize X.alloc (aC #[K aN 0 0,aB false] 154)=o at *;have P:=LH t;have z:=LH v;have T:=LH F;have R:=LH g;have l1:=v.lt;have l2:=r.lt;have l3:=j.lt;have p0:=r.cell 0;have t0:=j.cell 0;have t1:=j.cell 1;have ae:IntKind.i64.wrap ((d:Int)+1)=(d:Int)+1:=BZ _ AA;clear C B D r j t v F f g H I L;go_wp2_with fail;(with_reducible refine R.out.mono ?_);rintro e N⟨E,u,O,n2,c2,U,rfl,M⟩;have a:=u.blk z.out (P.out.not_map z.out);have J:=Uw (S':=S) E a M (T.out.maps_trans u) (.inr rfl) W (AJ _) λq Y => .inl Y;have A:=LH J;have c0:=a.cell 0;have c1:=a.cell 1;have f0:=a.frozen 0;have f1:=a.frozen 1;have l4:=a.lt;clear E u M a J p0 t0 t1;go_wp2_with fail;refine AW (AX (p:=4) AB _ _ X 154 #[K O n2 c2,aB U] (0,0) _ rfl A.out.1 underlying154 rfl AB) rfl ?_;exact A.out.2
def Di{y:World}{k:CH}{h:GH}{G:Gr}{s:Int}(h0:0<=s)(O:n<=100):Zw5 y k h G s n:=by
 intro S w C D;have f:=Zy w (aC #[K aN 0 0,aB false] 154);have b:=Blk.new w 154 #[K aN 0 0,aB false];have j:=C.more f (AJ w);have l:Off k.maps w (w.alloc (aC #[K aN 0 0,aB false] 154)):=Off.of_below f;have E:=C.base.size;go_enter func205,ntmps205;go_upto_region 1 with fail;generalize w.alloc (aC #[K aN 0 0,aB false] 154)=d at *;have t:=LH j;have v:=LH b;have u:=LH l;have H:=b.lt;have c0:=b.cell 0;have c1:=b.cell 1;have A:=b.frozen 0;have B:=b.frozen 1;have x:Hid (Zv G s n=K0 n):=Xb G h0 n;clear j b l f C D;go_wp2_with fail;(with_reducible refine (tr_exactly n d AA).mono ?_);rintro e g⟨c,r,I,c3,z,rfl,o⟩;have a:=v.out.ext c;have m:=LH (Uw (S':=S) (t.out.below c) a o (u.out.maps_trans (Off.of_below c)) (.inr rfl) E (AJ _) λq F => .inl F);have J:=a.cell 0;have L:=a.cell 1;have M:=a.frozen 0;have N:=a.frozen 1;have P:=a.lt;clear c0 c1 A B H a o c;go_wp2_with fail;refine AW (AX (p:=6) AB _ _ w 154 #[K r I c3,aB z] (0,0) _ rfl m.out.1 underlying154 rfl AB) rfl ?_;rw[x.out];exact m.out.2
def tr_forest1{o:World}{k:CH}{h:GH}{G:Gr}(s:Int)(d:List Int)(Al:Option Addr)(g m u v:Nat)(X:World)(C:Yo o k h G S X)(O:∀b,S b->b<X.heap.size)(H:Blk X u 155 #[aP (some ⟨k.c,0,aN⟩)])(I:Blk X v 30 #[K Al ((Q d)+1) g])(ag:∀w:World,(Instr.sliceAt 30 (K Al ((Q d)+1) g) (some (aI aJ 1)) aN aN).run prog w = .ok (K At (Q d) (g-1)) w)(M:ForC o k h G At (Q d) (g-1) d m):
 Calls prog 160 #[aI aJ (m:Int),aP (some ⟨u,0,aN⟩),aP (some ⟨v,0,aN⟩)] X (CRet o k h G S X (Zx (Zv G) d m)):=by
 have j:=Zy X (aC #[K aN 0 0,aB false] 154);have R:=Blk.new X 154 #[K aN 0 0,aB false];have J:=C.more j (AJ X);have N:Off k.maps X (X.alloc (aC #[K aN 0 0,aB false] 154)):=Off.of_below j;have r:=H.ext j;have t:=I.ext j;have ae:=C.base.size;have P:∀b,(S b\/b=X.heap.size)->b<(X.alloc (aC #[K aN 0 0,aB false] 154)).heap.size:=λb l=>by
  rw[Zl];rcases l with l | rfl
  ·exact Nat.lt_succ_of_lt (O b l)
  exact Ek _
 go_enter func160,ntmps160;go_upto_region 1 with fail;generalize X.alloc (aC #[K aN 0 0,aB false] 154)=f at *;have z:=LH J;have D:=LH R;have B:=LH N;have aa:=LH P;have Y:=LH M;have l2:=r.lt;have l3:=t.lt;have p0:=r.cell 0;have t0:=t.cell 0;clear C H I r t J R N j M O P;have bc:=Yt f;refine Yx 4 AB AB ?_;simp only[List.take_succ_cons,List.take_zero,List.drop_succ_cons,Ed];repeat (go_big_quiet_step (fail))
 refine BJ ?_;rintro _⟨y,rfl⟩;have n:=Zr f y;have A:=LH (z.out.below n);have Z:=LH (B.out.maps_trans (Off.of_below n));have E:=LH (D.out.ext n);have W:=LH (Y.out _ _ A.out λb l=>AK (aa.out b l) n.size);clear ag bc n p0 t0 l2 l3 z B D;generalize bl f y=W2 at *;go_wp2_with (
  go_at_call 100;(with_reducible refine W.out.mono ?_);rintro e U⟨L,x,V,n2,c2,d2,rfl,T⟩;have a:=x.blk E.out (A.out.not_map E.out);have F:=LH (Uw (S':=S) L a T (Z.out.maps_trans x) (.inr rfl) ae (AJ _) λq hq => .inl hq);have c0:=a.cell 0;have c1:=a.cell 1;have f0:=a.frozen 0;have f1:=a.frozen 1;have l4:=a.lt;clear L x T a)
 refine AW (AX (p:=4) AB _ _ X 154 #[K V n2 c2,aB d2] (0,0) _ rfl F.out.1 underlying154 rfl AB) rfl ?_;exact F.out.2
section
open Ieee
open Go.Maps (Keyed IsMap Tidy)
def Wd.not_map{w:World}{k:BkH}{h:GH}{G:Gr}(C:Wd a k h G S w){b:Array Value}(c:Blk w g t b):¬k.map g:=by
 obtain⟨ts,d⟩:=C.known;exact λe=>d.map.ne_blk c e
end
section
open Go.Maps (Keyed IsMap Tidy)
variable {W0:World} {k:BkH} {h:GH} {G:Gr} {S':Nat->Prop} {w:World} {gR:Nat} {b:Nat->Bool} {u:Nat->Value} {X:World}
def PM.asked(H:PM W0 k h G S' w gR b u X)(i:Nat)(hi:i=4/\b 14=false\/i=11/\b 15=false):(∃f,Wd W0 k h G f X/\(∀q,f q->q<X.heap.size)/\∀j v,Wd W0 k h G f j->Off k.map X j->PM W0 k h G S' w gR (Mz b i) (upd u i v) j):=by
 obtain⟨⟨f,a1,a2,a3,D,E⟩,F,I,J⟩:=H;refine⟨f,a1,a3,λj v L z=>?_⟩;have o:12≠i:=AA
 have p:13≠i:=AA
 have M:14≠i:=AA
 have N:15≠i:=AA
 have B:∀g t a,Blk X g t a->Blk j g t a:=λg t a C=>z.blk C (a1.not_map C);refine⟨⟨f,L,a2,λq m=>AK (a3 q m) z.size,?_,?_⟩,F.map_trans z,B _ _ _ I,?_⟩
 ·rw[Ys o,Ys M,Yj o];intro y;have h1:=(D y).mono (λq m=>m) λg t a _=>B g t a;rcases hi with ⟨rfl,l⟩ | ⟨rfl,l⟩
  ·rw[l] at h1 ⊢;obtain⟨g,A,n,c,d,e,r,s,x,_⟩:=h1;exact⟨g,A,n,c,d,e,r,s,x,nofun⟩
  rw[Yj AA];exact h1
 ·rw[Ys p,Ys N,Yj p];intro y;have h1:=(E y).mono (λq m=>m) λg t a _=>B g t a;rcases hi with ⟨rfl,l⟩ | ⟨rfl,l⟩
  ·rw[Yj AA];exact h1
  rw[l] at h1 ⊢;obtain⟨g,A,n,c,d,e,r,s,x,_⟩:=h1;exact⟨g,A,n,c,d,e,r,s,x,nofun⟩
 rw[Ys o,Ys p,Yj o,Yj p];exact J
end
end
end Go.Proofs.YtaagompdgiobeaaGreatDoor
