/- nullable: the reference's, walked. -/
import Derived.Test.YtaagompdgiobeaaGreatDoorV08
import Derived.Test.YtaagompdgiobeaaGreatDoorV09
import Derived.Test.YtaagompdgiobeaaGreatDoorV10
set_option linter.all false
set_option maxHeartbeats 1500000
set_option maxRecDepth 100000
namespace Go.Proofs.YtaagompdgiobeaaGreatDoor
open Go.RowKit Go.Proofs.Tryz
variable{s:Int}{tab:Nat->Nat->Nat}{ops:Array Oper}{rest:List Oper}{Q:Exit->Act->World->Prop}
theorem Zsq(h:GH)(G:Gr)(b:Bool)(w:World)(l:Yf w h G)(X:h.n1<=100)(Y:h.n2<=100)(Z:h.n3<=100):
 Calls prog 117 #[GV h G.start,.bool b] w λe w'=>Below w w w' /\
  ((G.right=false/\e = .returned (.slice none 0 0))\/(G.right=true/\∃g,w.heap.size<=g/\e = .returned (.slice (some ⟨g,0,none⟩) h.n2 h.n2)/\Z8 w' g (U5 b G))):=by
 obtain⟨a1,n1,c1,a2,n2,c2,a3,n3,c3⟩:=h;have e1:G.terms.length=n1:=l.terms.len;have z:G.nons.length=n2:=l.nons.len;have e3:G.rules.length=n3:=l.rules.len;have k3:=l.rules.cap;have k2:=l.nons.cap;simp only[] at X Y Z k3 k2;have R:=LH l;have A:=Zy w (.cells #[.slice a1 n1 c1,.slice a2 n2 c2,.slice a3 n3 c3,.int .i64 G.start] 26);have E:=Y1.new w 26 ⟨a1,n1,c1,a2,n2,c2,a3,n3,c3⟩ G.start;have a8:=Nt n2 AA;have ay:=Blk.new w 26 #[.slice a1 n1 c1,.slice a2 n2 c2,.slice a3 n3 c3,.int .i64 G.start];go_enter func117,ntmps117;have⟨z5,z0,z1,z2,z3⟩:=E;simp only[] at z0 z1 z2 z3;go_wp2_with fail;generalize w.alloc (.cells #[.slice a1 n1 c1,.slice a2 n2 c2,.slice a3 n3 c3,.int .i64 G.start] 26)=V at *;have W:=Jr ⟨a1,n1,c1,a2,n2,c2,a3,n3,c3⟩ G V (l.below A) (by simp only[];omega) (by simp only[];omega) (by simp only[];omega);refine W.mono ?_;rintro e a⟨rfl,D⟩;have n:=Zz A D;have s:=E.below D;have⟨y5,y0,y1,y2,y3⟩:=s;simp only[] at y0 y1 y2 y3;rcases p:G.right with _ | _
 ·go_wp2_with fail;go_ret;exact⟨n,.inl ⟨p,rfl⟩⟩
 have t:=Gr.fits p;have U:=LH p;have P:=LH t;have m:=λAr cr (r:Rul) (N:List Bool) w' (hr:r∈G.rules) (o:Za .i64 w' Ar r.right.length cr r.right) (hN:Z8 w' a N) (hl:N.length=n2)=>rf_all Ar r.right.length cr a n2 r.right N b w' o hN hl AA (by have:=t.symB hr;rwa [z] at this);have CA:=LH m;clear p t m;go_wp2_with fail;have q:=Z8.new a (List.replicate n2 false);have B:=Zy a (.cells (Qk (List.replicate n2 false)).toArray 4);generalize a.alloc (.cells (Qk (List.replicate n2 false)).toArray 4)=W2 at *;have ak:=q.lt;clear y0 y1 y2 y3 z0 z1 z2 z3;go_loopw [6,7] (λi _ wr=>∃(k:Nat),k<=n2/\i = .int .i64 (k:Int)/\Below a a wr/\Z8 wr a (Z3 (Xs (Xo b) G.rules) k (List.replicate n2 false))) (λi _ _=>n2-(intOf i).toNat)
 case atStart=>exact⟨0,AS _,rfl,B,q⟩
 clear q B ak;obtain⟨k,hk,rfl,d,c⟩:=hrel;have⟨y5,y0,y1,y2,y3⟩:=s.below d;simp only[] at y0 y1 y2 y3;by_cases a7:k<n2
 ·go_wp2_with fail;clear y0 y1 y2 y3;have ad:(Z3 (Xs (Xo b) G.rules) k (List.replicate n2 false)).length=n2:=by rw[Ad];simp
  have S:Hid (Xs (Xo b) G.rules (Z3 (Xs (Xo b) G.rules) k (List.replicate n2 false))=Z3 (Xs (Xo b) G.rules) (k+1) (List.replicate n2 false)):=rfl;generalize Z3 (Xs (Xo b) G.rules) k (List.replicate n2 false)=N at *;go_loopw [7] (λi M=>∃(j:Nat),j<=n3/\i = .int .i64 (j:Int)/\Below a a M/\Z8 M a (Xs (Xo b) (G.rules.take j) N)) (λi _=>n3-(intOf i).toNat)
  case atStart=>exact⟨0,AS _,rfl,d,by simpa [Xs] using c⟩
  clear d c;obtain⟨j,hj,rfl,d,c⟩:=hrel;have⟨y5,y0,y1,y2,y3⟩:=s.below d;simp only[] at y0 y1 y2 y3;by_cases ag:j<n3
  ·obtain⟨bb,a9,r,Ar,cr,rfl,hb,y,L,q1,q2,o⟩:=R.rules.get ag;have C:=Zz n d;rw[<-C.cell (by exact hb)] at L q1 q2;have H:=AN y;have ab:(Xs (Xo b) (G.rules.take j) N).length=n2:=by rw[Zvy];exact ad
   have I:Xs (Xo b) (G.rules.take (j+1)) N=Qa (Xo b) r (Xs (Xo b) (G.rules.take j) N):=by rw[Ya y,passN_snoc]
   have ai:a.heap.size<wr.heap.size:=c.lt;have a0:∀i,wr.frozen? ⟨a,i,none⟩=false:=λi=>Blk.frozen c i;have m:=CA Ar cr r _ wr H (o.below C) c ab;obtain⟨l1,l2⟩:=P.left r H;obtain⟨f,F⟩:∃f:Nat,r.left=(f:Int):=⟨r.left.toNat,AA⟩;have J:Xs (Xo b) (G.rules.take (j+1)) N=if Xj b (Xs (Xo b) (G.rules.take j) N) r.right then (Xs (Xo b) (G.rules.take j) N).set f true else Xs (Xo b) (G.rules.take j) N:=by
    rw[I];unfold Qa Xo;rw[show r.left.toNat=f by omega]
   rw[F] at L;have a5:f<n2:=AA
   have T:=LH (c.put f true);have x:=LH J;have O:=LH c;have v:=LH d;have az:=c.at (i:=f) AA;generalize (Xs (Xo b) (G.rules.take j) N).getD f false=ba at *;generalize Xj b (Xs (Xo b) (G.rules.take j) N) r.right=tst at *;have u:=LH m;clear m I J c o d F l1 l2;rcases (by cases tst <;> simp:tst=false\/tst=true) with rfl | rfl
   ·go_wp2_with (go_at_call 58;refine u.out.mono ?_;rintro e w3⟨rfl,rfl⟩);go_roundw
    case rel=>exact⟨j+1,AA,AF,v,by rw[x];exact O⟩
    simp[intOf];omega
   go_wp2_with (go_at_call 58;refine u.out.mono ?_;rintro e w3⟨rfl,rfl⟩);go_roundw
   case rel=>exact⟨j+1,AA,AF,v.trans (Zn (Zd _ _ _ _) (DT ai) (AJ _)),by rw[x];exact T⟩
   simp[intOf];omega
  obtain rfl:j=n3:=AA
  rw[AR AA,S] at c;go_wp2_with fail;go_roundw
  case rel=>exact⟨k+1,AA,AF,d,c⟩
  simp[intOf];omega
 obtain rfl:k=n2:=AA
 have af:U5 b G=Z3 (Xs (Xo b) G.rules) k (List.replicate k false):=by unfold U5;rw[z]
 rw[<-af] at c;go_wp2_with fail;go_ret;exact⟨Zz n d,.inr ⟨U,a.heap.size,n.size,rfl,c⟩⟩
theorem rf_Nullable(h:GH)(G:Gr)(w:World)(n:Yf w h G)(f:h.n1<=100)(j:h.n2<=100)(k:h.n3<=100):
 Calls prog 172 #[GV h G.start] w λe w'=>Below w w w' /\
  ((G.right=false/\e = .returned (.slice none 0 0))\/(G.right=true/\∃g,w.heap.size<=g/\e = .returned (.slice (some ⟨g,0,none⟩) h.n2 h.n2)/\Z8 w' g (Zj G))):=by
 obtain⟨a1,n1,c1,a2,n2,c2,a3,n3,c3⟩:=h;simp only[] at f j k;have a:=Zy w (.cells #[.slice a1 n1 c1,.slice a2 n2 c2,.slice a3 n3 c3,.int .i64 G.start] 26);have m:=Y1.new w 26 ⟨a1,n1,c1,a2,n2,c2,a3,n3,c3⟩ G.start;go_enter func172,ntmps172;have⟨z5,z0,z1,z2,z3⟩:=m;simp only[] at z0 z1 z2 z3;go_wp2_with fail;generalize w.alloc (.cells #[.slice a1 n1 c1,.slice a2 n2 c2,.slice a3 n3 c3,.int .i64 G.start] 26)=d at *;(refine (Zsq ⟨a1,n1,c1,a2,n2,c2,a3,n3,c3⟩ G false d (n.below a) (by simp only[];omega) (by simp only[];omega) (by simp only[];omega)).mono ?_);rintro e p⟨c,⟨b,rfl⟩ | ⟨b,g,o,rfl,l⟩⟩
 ·go_wp2_with fail;go_ret;exact⟨Zz a c,.inl ⟨b,rfl⟩⟩
 go_wp2_with fail;go_ret;exact⟨Zz a c,.inr ⟨b,g,BC a.size o,rfl,l⟩⟩
theorem tr_bare(left:Int)(Ar:Option Addr)(cr:Nat)(ss:List Int)(a:Int)(w:World)(j:Za .i64 w Ar ss.length cr ss):
 Calls prog 203 #[.agg #[.int .i64 left,.slice Ar ss.length cr,.int .i64 a]] w λe w'=>e = .returned (.bool (!ss.any λs=>decide (0<=s)))/\Below w w w':=by
 have c:=Zy w (.cells #[.int .i64 left,.slice Ar ss.length cr,.int .i64 a] 60);have h:=Fl.new w 60 left Ar ss.length cr a;go_enter func203,ntmps203;have⟨z5,z0,z1,z2⟩:=h;go_wp2_with fail;generalize w.alloc (.cells #[.int .i64 left,.slice Ar ss.length cr,.int .i64 a] 60)=b at *;have f:Zyw 220 #[] (Value.int .i64) b ss (λs=>decide (0<=s)):=λs _ w' _=>by
  show Calls prog 220 #[.int .i64 s] w' _;exact (tr_bare1 s w').mono λe l d=>⟨d.1,by rw[<-d.2];exact AL _ _⟩
 refine (U1 Ar ss.length cr ss 220 #[] (λs=>decide (0<=s)) b enters_bare1 (j.below c) f).mono ?_;rintro e k⟨rfl,g⟩;go_wp2_with fail;go_ret;exact⟨rfl,Zz c g⟩
theorem Qt(h:GH)(G:Gr)(w:World)(n:Yf w h G)(f:h.n1<=100)(j:h.n2<=100)(k:h.n3<=100):
 Calls prog 56 #[GV h G.start] w λe w'=>Below w w w' /\
  ((G.right=false/\e = .returned (.slice none 0 0))\/(G.right=true/\∃g,w.heap.size<=g/\e = .returned (.slice (some ⟨g,0,none⟩) h.n2 h.n2)/\Z8 w' g (Zt G))):=by
 obtain⟨a1,n1,c1,a2,n2,c2,a3,n3,c3⟩:=h;simp only[] at f j k;have a:=Zy w (.cells #[.slice a1 n1 c1,.slice a2 n2 c2,.slice a3 n3 c3,.int .i64 G.start] 26);have m:=Y1.new w 26 ⟨a1,n1,c1,a2,n2,c2,a3,n3,c3⟩ G.start;go_enter func56,ntmps56;have⟨z5,z0,z1,z2,z3⟩:=m;simp only[] at z0 z1 z2 z3;go_wp2_with fail;generalize w.alloc (.cells #[.slice a1 n1 c1,.slice a2 n2 c2,.slice a3 n3 c3,.int .i64 G.start] 26)=d at *;(refine (Zsq ⟨a1,n1,c1,a2,n2,c2,a3,n3,c3⟩ G true d (n.below a) (by simp only[];omega) (by simp only[];omega) (by simp only[];omega)).mono ?_);rintro e p⟨c,⟨b,rfl⟩ | ⟨b,g,o,rfl,l⟩⟩
 ·go_wp2_with fail;go_ret;exact⟨Zz a c,.inl ⟨b,rfl⟩⟩
 go_wp2_with fail;go_ret;exact⟨Zz a c,.inr ⟨b,g,BC a.size o,rfl,l⟩⟩
theorem Lw(h:GH)(G:Gr)(w:World)(x:Yf w h G)(h1:h.n1<=100)(h2:h.n2<=100)(h3:h.n3<=100):
 Calls prog 57 #[GV h G.start] w λe w'=>Below w w w' /\
  ((G.right=false/\e = .returned (.slice none 0 0))\/(G.right=true/\∃g,w.heap.size<=g/\e = .returned (.slice (some ⟨g,0,none⟩) h.n2 h.n2)/\Z8 w' g (Z5 G))):=by
 obtain⟨a1,n1,c1,a2,n2,c2,a3,n3,c3⟩:=h;have y:G.nons.length=n2:=x.nons.len;have e3:G.rules.length=n3:=x.rules.len;have k3:=x.rules.cap;have k2:=x.nons.cap;simp only[] at h1 h2 h3 k3 k2;have Hg:=LH x;have a9:=Zy w (.cells #[.slice a1 n1 c1,.slice a2 n2 c2,.slice a3 n3 c3,.int .i64 G.start] 26);have ak:=Y1.new w 26 ⟨a1,n1,c1,a2,n2,c2,a3,n3,c3⟩ G.start;have cx:=Nt n2 AA;clear x;go_enter func57,ntmps57;have⟨z5,z0,z1,z2,z3⟩:=ak;simp only[] at z0 z1 z2 z3;go_wp2_with fail;generalize w.alloc (.cells #[.slice a1 n1 c1,.slice a2 n2 c2,.slice a3 n3 c3,.int .i64 G.start] 26)=W0 at *;(with_reducible refine (Jr ⟨a1,n1,c1,a2,n2,c2,a3,n3,c3⟩ G W0 (Hg.out.below a9) (by simp only[];omega) (by simp only[];omega) (by simp only[];omega)).mono ?_);rintro e W1⟨rfl,bg⟩;have ai:=Zz a9 bg;have al:=ak.below bg;clear z0 z1 z2 z3 z5 ak;have⟨y5,y0,y1,y2,y3⟩:=al;simp only[] at y0 y1 y2 y3;rcases T:G.right with _ | _
 ·go_wp2_with fail;go_ret;exact⟨ai,.inl ⟨T,rfl⟩⟩
 have am:=Gr.fits T;have dn:=am.st;have a5:=LH T;have ab:=LH am;obtain⟨n,bs⟩:∃n:Nat,G.start=(n:Int):=⟨G.start.toNat,AA⟩;have cs:n<n2:=AA
 have aw:=LH bs;clear bs;have cP:=(Qt ⟨a1,n1,c1,a2,n2,c2,a3,n3,c3⟩ G W1 (Hg.out.below ai) (by simp only[];omega) (by simp only[];omega) (by simp only[];omega)).mono λe w' hh=>And.intro hh.1 (hh.2.resolve_left λhc=>by rw[a5.out] at hc;cases hc.1).2;have CP:=LH cP;clear T am cP;go_wp2_with fail;(with_reducible refine CP.out.mono ?_);rintro e f⟨bh,gp,dg,rfl,J⟩;have ba:=Zz ai bh;have P:=al.below bh;clear y0 y1 y2 y3 y5 al;have A:=Z8.new f (List.replicate n2 false);have I:=Zy f (.cells (Qk (List.replicate n2 false)).toArray 4);have ck:Z8 (f.alloc (.cells (Qk (List.replicate n2 false)).toArray 4)) gp (Zt G):=Blk.ext J I;have bi:=P.below I;have⟨y5,y0,y1,y2,y3⟩:=P;simp only[] at y0 y1 y2 y3;have cn:gp<f.heap.size:=J.lt;go_upto_region 5 with fail;generalize f.alloc (.cells (Qk (List.replicate n2 false)).toArray 4)=W3 at *;clear y0 y1 y2 y3 y5;have⟨y5,y0,y1,y2,y3⟩:=bi;simp only[] at y0 y1 y2 y3;rw[aw.out] at y3;have dp:=A.lt;have C:=Blk.frozen A n;have L:=A.at (i:=n) (by simpa using cs);have an:=A.put n true;have bc:=bD_set I (AJ _) f n (.bool true) (AJ _);have bv:Xv G=(List.replicate n2 false).set n true:=by unfold Xv;rw[y,aw.out];rfl
 rw[<-bv] at an;have H:=LH an;have b2:=LH bc;have b5:=LH J;have o:=LH ba;have ax:=LH P;clear an bc J ck I ba P bi bv cx A;have bu:(Xv G).length=n2:=by unfold Xv;simp[y]
 have cc:=LH bu;clear bu;go_wp2_with fail;generalize W3.setCell ⟨f,n,none⟩ (.bool true)=W4 at *;generalize bo:f.heap.size=a at *;have u:=LH bo;clear bo y0 y1 y2 y3 y5 C L;have dk:=H.out.lt;go_loopw [5] (λi wr=>∃k:Nat,k<=n2/\i = .int .i64 (k:Int)/\Hid (Below a f wr)/\Hid (Z8 wr a (Z3 (Yy (Yp (Zt G)) G.rules) k (Xv G)))) (λi _=>n2-(intOf i).toNat)
 case atStart=>exact⟨0,AS _,rfl,b2,H⟩
 obtain⟨k,hk,rfl,l,b⟩:=hrel;have B:=ax.out.below (by rw[u.out];exact l.out);have⟨y5,y0,y1,y2,y3⟩:=B;simp only[] at y0 y1 y2 y3;by_cases ct:k<n2
 case neg =>
  obtain rfl:k=n2:=AA
  have b6:Hid (Z5 G=Z3 (Yy (Yp (Zt G)) G.rules) k (Xv G)):=LH (by unfold Z5;rw[y]);go_wp2_with fail;go_ret;exact⟨o.out.trans (l.out.mono (by rw[<-u.out];exact o.out.size)),.inr ⟨a5.out,a,by rw[<-u.out];exact o.out.size,rfl,by rw[b6.out];exact b.out⟩⟩
 have bd:(Z3 (Yy (Yp (Zt G)) G.rules) k (Xv G)).length=n2:=by rw[Dw];exact cc.out
 have b9:Hid (Yy (Yp (Zt G)) G.rules (Z3 (Yy (Yp (Zt G)) G.rules) k (Xv G))=Z3 (Yy (Yp (Zt G)) G.rules) (k+1) (Xv G)):=rfl;generalize Z3 (Yy (Yp (Zt G)) G.rules) k (Xv G)=N at *;have b4:=LH bd;clear bd;go_wp2_with fail;clear y0 y1 y2 y3 y5 B;go_loopw [6] (λi t=>∃j:Nat,j<=n3/\i = .int .i64 (j:Int)/\Hid (Below a f t)/\Hid (Z8 t a (Yy (Yp (Zt G)) (G.rules.take j) N))) (λi _=>n3-(intOf i).toNat)
 case atStart=>exact⟨0,AS _,rfl,l,LH (by simpa [Yy] using b.out)⟩
 clear l b;obtain⟨j,hj,rfl,l,b⟩:=hrel;have B:=ax.out.below (by rw[u.out];exact l.out);have⟨y5,y0,y1,y2,y3⟩:=B;simp only[] at y0 y1 y2 y3;by_cases cp:j<n3
 case neg =>
  obtain rfl:j=n3:=AA
  have Hf:Hid (Z8 wr a (Z3 (Yy (Yp (Zt G)) G.rules) (k+1) (Xv G))):=LH (by rw[<-b9.out];have:=b.out;rw[AR AA] at this;exact this);go_wp2_with fail;go_roundw
  case rel=>exact⟨k+1,AA,AF,l,Hf⟩
  simp[intOf];omega
 have V:=LH (o.out.trans (l.out.mono (by rw[<-u.out];exact o.out.size)));obtain⟨bb,ds,r,Ar,cr,rfl,bf,Hr,q0,q1,q2,ao⟩:=Hg.out.rules.get cp;rw[<-V.out.cell (by exact bf)] at q0 q1 q2;have hb:bb<wr.heap.size:=AK bf V.out.size;have cb:=LH ao;have bt:=ao.below V.out;clear ao;have R:=AN Hr.out;have bk:(Yy (Yp (Zt G)) (G.rules.take j) N).length=n2:=by rw[passI_len'];exact b4.out
 have az:Hid (Yy (Yp (Zt G)) (G.rules.take (j+1)) N=Jz (Yy (Yp (Zt G)) (G.rules.take j) N) (Yp (Zt G) r (Yy (Yp (Zt G)) (G.rules.take j) N))):=LH (by rw[Ya Hr.out,Zwt];rfl);generalize Yy (Yp (Zt G)) (G.rules.take j) N=d at *;obtain⟨l1,l2⟩:=ab.out.left r R;obtain⟨c,bq⟩:∃c:Nat,r.left=(c:Int):=⟨r.left.toNat,AA⟩;have br:c<n2:=AA
 have dl:=ab.out.len r R;have aq:=ab.out.symB R;rw[y] at aq;rw[bq] at q0;have m:Dr (Zt G) r d=(d.getD c false&&Xj true (Zt G) r.right):=by unfold Dr;rw[show r.left.toNat=c by omega]
 have ay:=LH m;have ca:=LH bt;have a7:=LH aq;have Z:=LH bk;have O:=Zy wr (.cells #[.int .i64 (c:Int),.slice Ar r.right.length cr,.int .i64 r.prec] 60);have be:=Blk.new wr 60 #[.int .i64 (c:Int),.slice Ar r.right.length cr,.int .i64 r.prec];have co:a<wr.heap.size:=b.out.lt;clear m bt aq bk l1 l2 bq R;go_wp2_with fail;have E:Hid (Z8 (wr.alloc (.cells #[.int .i64 (c:Int),.slice Ar r.right.length cr,.int .i64 r.prec] 60)) a d):=Blk.ext b.out O;have U:=LH (l.out.trans (O.mono (DT co)));have Y:=LH be;have a4:=LH (ca.out.below O);have dq:=Zl wr (.cells #[.int .i64 (c:Int),.slice Ar r.right.length cr,.int .i64 r.prec] 60);generalize wr.alloc (.cells #[.int .i64 (c:Int),.slice Ar r.right.length cr,.int .i64 r.prec] 60)=v at *;generalize wr.heap.size=z at *;clear O be y0 y1 y2 y3 y5 q0 q1 q2 B b l;have cw:a<v.heap.size:=E.out.lt;have r0:v.cell? ⟨z,0,none⟩=some (.int .i64 (c:Int)):=Y.out.cell 0;have r1:v.cell? ⟨z,1,none⟩=some (.slice Ar r.right.length cr):=Y.out.cell 1;have de:=a4.out.cap;have CA:=LH λ(W:World) (M:List Bool) (hW:Below a f W) (hr:Za .i64 W Ar r.right.length cr r.right)=>rf_all Ar r.right.length cr gp n2 r.right (Zt G) true W hr (b5.out.below hW cn) (by rw[Vx];exact y) AA a7.out;rcases m:Dr (Zt G) r d with _ | _
 case false =>
  have ae:Hid (Yy (Yp (Zt G)) (G.rules.take (j+1)) N=d):=LH (by rw[az.out];unfold Yp;rw[m];rfl);have L:=E.out.at (i:=c) (by rw[Z.out];exact br);have p:=ay.out.symm.trans m;have av:=CA.out v d U.out a4.out;generalize d.getD c false=tl at *;generalize Xj true (Zt G) r.right=ta at *;have D:=LH av;clear m av;go_loopw [8] (λi t=>i = .int .i64 0/\v=t) (λi _=>0)
  case atStart=>exact⟨rfl,rfl⟩
  obtain⟨rfl,rfl⟩:=hrel;by_cases cv:r.right.length=0
  case' pos =>
   rw[cv] at r1;clear p;go_wp2_with fail
  case' neg =>
   have dj:0<r.right.length:=AA
   rcases (by cases tl <;> cases ta <;> simp at p ⊢:tl=false\/(tl=true/\ta=false)) with rfl | ⟨rfl,rfl⟩
   case' inl =>
    clear p;go_wp2_with fail
   case' inr =>
    clear p;go_wp2_with (go_at_call 58;(with_reducible refine D.out.mono ?_);rintro e w'⟨rfl,rfl⟩)
  all_goals
   go_roundw
   case rel=>exact⟨j+1,AA,AF,U,LH (by rw[ae.out];exact E.out)⟩
   simp[intOf];omega
 have p:=ay.out.symm.trans m;simp only[AU] at p;obtain⟨bm,bn⟩:=p;have ae:Hid (Yy (Yp (Zt G)) (G.rules.take (j+1)) N=Jz d (Uq r.right)):=LH (by rw[az.out];unfold Yp;rw[m];rfl);have b7:=LH bm;have b8:=LH bn;clear m bm bn;go_loopw [8] (λi t=>∃kk:Nat,kk<=r.right.length/\i = .int .i64 (kk:Int)/\Hid (Z8 t a (Jz d (Uq (r.right.take kk))))/\Hid (v.grownBy t (some a))) (λi _=>r.right.length-(intOf i).toNat)
 case atStart=>exact⟨0,AS _,rfl,E,LH (Jl _ _)⟩
 obtain⟨kk,ct,rfl,b,F⟩:=hrel;have cm:z≠a:=AA
 have aj:=Y.out.grown F.out (by intro e;injection e with e;exact cm e);have r0:wr.cell? ⟨z,0,none⟩=some (.int .i64 (c:Int)):=aj.cell 0;have r1:wr.cell? ⟨z,1,none⟩=some (.slice Ar r.right.length cr):=aj.cell 1;have X:=LH (U.out.trans (Zn F.out (DT cw) (AJ _)));have b3:=LH (o.out.trans (X.out.mono (by rw[<-u.out];exact o.out.size)));have bl:(Jz d (Uq (r.right.take kk))).length=n2:=by rw[Zwc];exact Z.out
 have L:=b.out.at (i:=c) (by rw[bl];exact br);rw[Zuy _ b7.out] at L;have ap:Za .i64 wr Ar r.right.length cr r.right:=cb.out.below b3.out;by_cases cu:kk<r.right.length
 case neg =>
  obtain rfl:kk=r.right.length:=AA
  have Hf:Hid (Z8 wr a (Jz d (Uq r.right))):=LH (by have:=b.out;rw[AR (AJ _)] at this;exact this);go_wp2_with fail;go_roundw
  case rel=>exact⟨j+1,AA,AF,X,LH (by rw[ae.out];exact Hf.out)⟩
  simp[intOf];omega
 have cA:=CA.out wr d X.out ap;rw[b8.out] at cA;have D:=LH cA;obtain⟨sb,so,s,rfl,dm,Hs,qs⟩:=ap.get cu;have c0:=a7.out s (AN Hs.out);have S:=Zxl Hs.out;have c9:=b;have C:=λq=>Blk.frozen b.out q;clear cA bl ap aj;by_cases h0:s<0
 ·obtain⟨q,cq,cy,dr⟩:=Vy h0 c0.1 AA;have df:=C q;have dc:=b.out.at (i:=q) (by rw[Zwc];rw[Z.out];exact cq);have H:Hid (Z8 (wr.setCell ⟨a,q,none⟩ (.bool true)) a (Jz d (Uq (r.right.take (kk+1))))):=LH (by
   rw[S,if_pos h0,Zw9,show (-1-s).toNat=q from cy];exact b.out.put q true)
  clear S C;go_wp2_with (go_at_call 58;(with_reducible refine D.out.mono ?_);rintro e w'⟨rfl,rfl⟩);go_roundw
  case rel=>exact⟨kk+1,AA,AF,H,LH (Zc F.out (Zd _ _ _ _))⟩
  simp[intOf];omega
 have cd:Hid (Z8 wr a (Jz d (Uq (r.right.take (kk+1))))):=LH (by rw[S,if_neg h0];exact b.out);clear S C;go_wp2_with (go_at_call 58;(with_reducible refine D.out.mono ?_);rintro e w'⟨rfl,rfl⟩);go_roundw
 case rel=>exact⟨kk+1,AA,AF,cd,F⟩
 simp[intOf];omega
theorem Zss(h:GH)(G:Gr)(w:World)(t:Yf w h G)(h1:h.n1<=100)(h2:h.n2<=100)(h3:h.n3<=100):
 Calls prog 119 #[GV h G.start] w λe w'=>Below w.heap.size w w' /\
  ((G.right=false/\e = .returned (.slice none 0 0))\/(G.right=true/\∃g,w.heap.size<=g/\e = .returned (.slice (some ⟨g,0,none⟩) h.n2 h.n2)/\V0 w' g (Yz G))):=by
 obtain⟨a1,n1,c1,a2,n2,c2,a3,n3,c3⟩:=h;have J:G.nons.length=n2:=t.nons.len;have e3:G.rules.length=n3:=t.rules.len;have k3:=t.rules.cap;have k2:=t.nons.cap;simp only[] at h1 h2 h3 k3 k2;have H:=LH t;have ad:=Zy w (.cells #[.slice a1 n1 c1,.slice a2 n2 c2,.slice a3 n3 c3,.int .i64 G.start] 26);have ah:=Y1.new w 26 ⟨a1,n1,c1,a2,n2,c2,a3,n3,c3⟩ G.start;have cz:=Zvx n2 AA;clear t;go_enter func119,ntmps119;have⟨z5,z0,z1,z2,z3⟩:=ah;simp only[] at z0 z1 z2 z3;go_wp2_with fail;generalize w.alloc (.cells #[.slice a1 n1 c1,.slice a2 n2 c2,.slice a3 n3 c3,.int .i64 G.start] 26)=W0 at *;(with_reducible refine (Jr ⟨a1,n1,c1,a2,n2,c2,a3,n3,c3⟩ G W0 (H.out.below ad) (by simp only[];omega) (by simp only[];omega) (by simp only[];omega)).mono ?_);rintro e l⟨rfl,af⟩;have A:=Zz ad af;have ai:=ah.below af;clear z0 z1 z2 z3 z5 ah;have⟨y5,y0,y1,y2,y3⟩:=ai;simp only[] at y0 y1 y2 y3;rcases S:G.right with _ | _
 ·go_wp2_with fail;go_ret;exact⟨A,.inl ⟨S,rfl⟩⟩
 have bn:=Gr.fits S;have W:=LH S;have U:=LH bn;have CN:=LH λX (f:Below l.heap.size l X)=>(rf_Nullable ⟨a1,n1,c1,a2,n2,c2,a3,n3,c3⟩ G X ((H.out.below A).below f) (by simp only[];omega) (by simp only[];omega) (by simp only[];omega)).mono λe w' o=>And.intro (Zz f o.1) (And.intro (LH o.1) (o.2.resolve_left λC=>by rw[W.out] at C;cases C.1).2);have CP:=LH λX (f:Below l.heap.size l X)=>(Qt ⟨a1,n1,c1,a2,n2,c2,a3,n3,c3⟩ G X ((H.out.below A).below f) (by simp only[];omega) (by simp only[];omega) (by simp only[];omega)).mono λe w' o=>And.intro (Zz f o.1) (And.intro (LH o.1) (o.2.resolve_left λC=>by rw[W.out] at C;cases C.1).2);have HS:Hid (∀d,Below l.heap.size l d->d.cell? ⟨w.heap.size,0,none⟩=some (.slice a1 n1 c1)/\d.cell? ⟨w.heap.size,1,none⟩=some (.slice a2 n2 c2)/\d.cell? ⟨w.heap.size,2,none⟩=some (.slice a3 n3 c3)/\d.cell? ⟨w.heap.size,3,none⟩=some (.int .i64 G.start)/\Below l.heap.size l d):=LH λd f=>⟨by rw[f.cell (by exact y5)];exact y0,by rw[f.cell (by exact y5)];exact y1,by rw[f.cell (by exact y5)];exact y2,by rw[f.cell (by exact y5)];exact y3,f⟩;have b3:=LH A;have ca:=LH ai;clear S bn A ai ad af;go_wp2_with fail;go_region_held3 (λd=>d.cell? ⟨w.heap.size,0,none⟩=some (.slice a1 n1 c1)/\d.cell? ⟨w.heap.size,1,none⟩=some (.slice a2 n2 c2)/\d.cell? ⟨w.heap.size,2,none⟩=some (.slice a3 n3 c3)/\d.cell? ⟨w.heap.size,3,none⟩=some (.int .i64 G.start)/\Below l.heap.size l d)
  ((refine HS.out _ ?_;(repeat (first | assumption | exact AL _ _ | refine Below.drew ?_ | refine Zo ?_ _ | refine Zg ?_ _ _ _ (by (first | exact AJ _ | exact DP _ | exact Below.size AH | exact Nat.le_succ_of_le (Below.size AH) | (simp;done) | omega))));done))
  (first
    | (go_at_call 172;refine (CN.out _ (by (repeat (first | assumption | exact AL _ _ | refine Below.drew ?_ | refine Zo ?_ _ | refine Zg ?_ _ _ _ (by (first | exact AJ _ | exact DP _ | exact Below.size AH | exact Nat.le_succ_of_le (Below.size AH) | (simp;done) | omega)))))).mono ?_;rintro e w2⟨cn,b9,gN,M,rfl,ax⟩)
    | (go_at_call 56;refine (CP.out _ (by (repeat (first | assumption | exact AL _ _ | refine Below.drew ?_ | refine Zo ?_ _ | refine Zg ?_ _ _ _ (by (first | exact AJ _ | exact DP _ | exact Below.size AH | exact Nat.le_succ_of_le (Below.size AH) | (simp;done) | omega)))))).mono ?_;rintro e m⟨ae,az,gP,N,rfl,ay⟩))
 have ar:Hid (Z8 m gN (Zj G)):=LH (Blk.hidden ax az);have au:Hid (Z8 m gP (Zt G)):=LH ay;have v:=LH (Zz b3.out ae);have a0:=LH (ca.out.below ae);clear cn b9 M ax az N ay ae CN CP HS y0 y1 y2 y3 y5;have⟨y5,y0,y1,y2,y3⟩:=a0.out;simp only[] at y0 y1 y2 y3;go_upto_region 5 with fail;have bh:=V0.new m (List.replicate n2 0);have be:=Zy m (.cells (nums .u32 (List.replicate n2 0)).toArray 41);generalize m.alloc (.cells (nums .u32 (List.replicate n2 0)).toArray 41)=W4 at *;generalize bo:m.heap.size=b at *;have y:=LH bo;have b8:=LH bh;have b4:=LH be;clear bo bh be y0 y1 y2 y3 y5 cz;go_wp2_with fail;go_loopw [6] (λi wr=>∃j:Nat,j<=n3/\i = .int .i64 (j:Int)/\Hid (Below b m wr)/\Hid (V0 wr b (Wo (Zj G) (Zt G) (G.rules.take j) (List.replicate n2 0)))) (λi _=>n3-(intOf i).toNat)
 case atStart=>exact⟨0,AS _,rfl,b4,LH (by simpa [Wo] using b8.out)⟩
 obtain⟨j,hj,rfl,D,k⟩:=hrel;have aj:m.heap.size=b:=y.out;have E:=LH (v.out.trans (D.out.mono (by rw[<-aj];exact v.out.size)));have bj:=a0.out.below (by rw[aj];exact D.out);have⟨y5,y0,y1,y2,y3⟩:=bj;simp only[] at y0 y1 y2 y3;clear aj;by_cases cu:j<n3
 case neg =>
  obtain rfl:j=n3:=AA
  have n:Hid (V0 wr b (Yz G)):=LH (by have:=k.out;rw[AR AA] at this;unfold Yz;rw[J];exact this);go_wp2_with fail;go_ret;exact⟨E.out,.inr ⟨W.out,b,by rw[<-y.out];exact v.out.size,rfl,n.out⟩⟩
 obtain⟨bb,dn,r,Ar,cr,rfl,bi,Hr,q0,q1,q2,bs⟩:=H.out.rules.get cu;rw[<-E.out.cell (by exact bi)] at q0 q1 q2;have f:bb<wr.heap.size:=AK bi E.out.size;have a7:=LH bs;have R:=AN Hr.out;have ce:Hid (Wo (Zj G) (Zt G) (G.rules.take (j+1)) (List.replicate n2 0)=Y2 (Zj G) (Zt G) r r.right.length (Wo (Zj G) (Zt G) (G.rules.take j) (List.replicate n2 0))):=LH (by rw[Ya Hr.out,Zz0]);have bk:(Wo (Zj G) (Zt G) (G.rules.take j) (List.replicate n2 0)).length=n2:=by rw[De];simp
 have bm:=Lm (Zj G) (Zt G) (G.rules.take j) (We.zero n2);generalize Wo (Zj G) (Zt G) (G.rules.take j) (List.replicate n2 0)=c at *;obtain⟨l1,l2⟩:=U.out.left r R;obtain⟨a,bq⟩:∃a:Nat,r.left=(a:Int):=⟨r.left.toNat,AA⟩;have cv:a<n2:=AA
 have cd:Hid (r.left.toNat=a):=LH AA;have dh:=U.out.len r R;have al:=U.out.symB R;rw[J] at al;rw[bq] at q0;have Z:=LH al;have cb:=LH bk;have cc:=LH bm;have ag:=Zy wr (.cells #[.int .i64 (a:Int),.slice Ar r.right.length cr,.int .i64 r.prec] 60);have bg:=Blk.new wr 60 #[.int .i64 (a:Int),.slice Ar r.right.length cr,.int .i64 r.prec];have O:b<wr.heap.size:=k.out.lt;clear bs al bk bm l1 l2 bq R bj;go_wp2_with fail;have aw:Hid (V0 (wr.alloc (.cells #[.int .i64 (a:Int),.slice Ar r.right.length cr,.int .i64 r.prec] 60)) b c):=LH (Blk.ext k.out ag);have b5:=LH (D.out.trans (ag.mono (DT O)));have b7:=LH bg;generalize wr.alloc (.cells #[.int .i64 (a:Int),.slice Ar r.right.length cr,.int .i64 r.prec] 60)=WA at *;generalize wr.heap.size=L at *;clear ag bg y0 y1 y2 y3 y5 q0 q1 q2 k D E;have cx:b<WA.heap.size:=aw.out.lt;have dc:=a7.out.cap;go_loopw [8] (λi wz=>∃kk:Nat,kk<=r.right.length/\i = .int .i64 (kk:Int)/\Hid (V0 wz b (Y2 (Zj G) (Zt G) r kk c))/\Hid (WA.grownBy wz (some b))) (λi _=>r.right.length-(intOf i).toNat)
 case atStart=>exact⟨0,AS _,rfl,aw,LH (Jl _ _)⟩
 obtain⟨kk,dg,rfl,k,p⟩:=hrel;have cs:L≠b:=AA
 have B:=b7.out.grown p.out (by intro e;injection e with e;exact cs e);have r0:wr.cell? ⟨L,0,none⟩=some (.int .i64 (a:Int)):=B.cell 0;have r1:wr.cell? ⟨L,1,none⟩=some (.slice Ar r.right.length cr):=B.cell 1;have db:L<wr.heap.size:=B.lt;have F:=LH (b5.out.trans (Zn p.out (DT cx) (AJ _)));have b6:=LH (v.out.trans (F.out.mono (by rw[<-y.out];exact v.out.size)));have q:(Y2 (Zj G) (Zt G) r kk c).length=n2:=by rw[Kb];exact cb.out
 have u:=N1 (Zj G) (Zt G) r cc.out kk;have V:=LH (a7.out.below b6.out);have O:b<wr.heap.size:=k.out.lt;by_cases cw:kk<r.right.length
 case neg =>
  obtain rfl:kk=r.right.length:=AA
  clear q u B;go_wp2_with fail;go_roundw
  case rel=>exact⟨j+1,AA,AF,F,LH (by rw[ce.out];exact k.out)⟩
  simp[intOf];omega
 obtain⟨sb,so,s,rfl,dk,Hs,qs⟩:=V.out.get cw;have dj:=Z.out s (AN Hs.out);have br:=Uk (Zj G) (Zt G) r kk c;have bp:Um (Zj G) (Zt G) r kk (Y2 (Zj G) (Zt G) r kk c)=if Xk (Zj G) (Zt G) r.right kk s then addAt a (Y6 (-1-s)) (Y2 (Zj G) (Zt G) r kk c) else Y2 (Zj G) (Zt G) r kk c:=by unfold Um;rw[Hs.out];simp only[cd.out]
 have a4:=LH (br.trans bp);have co:=k.out.at (i:=a) (by rw[q];exact cv);have M:gN<b:=by have:=ar.out.lt;rw[y.out] at this;exact this
 have N:gP<b:=by have:=au.out.lt;rw[y.out] at this;exact this
 have cA:=rf_alone (some ⟨sb,so,none⟩) r.right.length cr gN n2 kk r.right (Zj G) wr V.out (Blk.below ar.out F.out M) (by rw[Qe,Qq];exact J) AA Z.out AA AA;have cM:=rf_made (some ⟨sb,so,none⟩) r.right.length cr gP n2 r.right (Zt G) wr V.out (Blk.below au.out F.out N) (by rw[Vx];exact J) AA Z.out;have bt:Xk (Zj G) (Zt G) r.right kk s=(decide (s<0)&&J6 (Zj G) r.right kk&&Xj true (Zt G) r.right):=rfl;have I:=LH bt;generalize J6 (Zj G) r.right kk=T at *;generalize Xj true (Zt G) r.right=tm at *;have CA:=LH cA;have CM:=LH cM;clear br bp cA cM bt M N B;have skip:Xk (Zj G) (Zt G) r.right kk s=false->Hid (V0 wr b (Y2 (Zj G) (Zt G) r (kk+1) c)):=λhf=>LH (by rw[a4.out,hf];exact k.out);have Y:=LH skip;clear skip;by_cases h0:0<=s
 ·have n:=Y.out (by rw[I.out,show decide (s<0)=false by rw[AZ];omega];rfl);clear q u;go_wp2_with fail;go_roundw
  case rel=>exact⟨kk+1,AA,AF,n,p⟩
  simp[intOf];omega
 have ak:decide (s<0)=true:=by rw[BA];omega
 rcases (by cases T <;> cases tm <;> simp:T=false\/(T=true/\tm=false)\/(T=true/\tm=true)) with rfl | ⟨rfl,rfl⟩ | ⟨rfl,rfl⟩
 ·have n:=Y.out (by rw[I.out,ak];rfl);clear q u;go_wp2_with (go_at_call 173;(with_reducible refine CA.out.mono ?_);rintro e w'⟨rfl,rfl⟩);go_roundw
  case rel=>exact⟨kk+1,AA,AF,n,p⟩
  simp[intOf];omega
 ·have n:=Y.out (by rw[I.out,ak];rfl);clear q u;go_wp2_with (first
   | (go_at_call 173;(with_reducible refine CA.out.mono ?_);rintro e w'⟨rfl,rfl⟩)
   | (go_at_call 174;(with_reducible refine CM.out.mono ?_);rintro e w'⟨rfl,rfl⟩))
  go_roundw
  case rel=>exact⟨kk+1,AA,AF,n,p⟩
  simp[intOf];omega
 have bu:Xk (Zj G) (Zt G) r.right kk s=true:=by rw[I.out,ak];rfl
 have a5:Hid (Y2 (Zj G) (Zt G) r (kk+1) c=addAt a (Y6 (-1-s)) (Y2 (Zj G) (Zt G) r kk c)):=LH (by rw[a4.out,bu];rfl);have dm:IntKind.i64.wrap (-1-s)=-1-s:=Cc _ AA;have cy:=u.get a;have ct:=Ua (-1-s);have di:=or32 ((Y2 (Zj G) (Zt G) r kk c).getD a 0) (Y6 (-1-s)) cy ct;have cf:=LH λx:Ext wr=>V0.put (Blk.ext k.out (Zr wr x):V0 (bl wr x) b (Y2 (Zj G) (Zt G) r kk c)) a ((Y2 (Zj G) (Zt G) r kk c).getD a 0 ||| Y6 (-1-s));have cq:=Blk.frozen k.out a;have CB:=LH λx:Ext wr=>Ch (-1-s) (bl wr x);unfold addAt at a5;generalize (Y2 (Zj G) (Zt G) r kk c).getD a 0 ||| Y6 (-1-s)=z at *
 generalize (Y2 (Zj G) (Zt G) r kk c).getD a 0=dp at *;generalize Y6 (-1-s)=bv at *;have bc:=Yt wr;have bf:=Kh wr;clear bu q u;go_wp2_with (first
  | (go_at_call 173;(with_reducible refine CA.out.mono ?_);rintro e w'⟨rfl,rfl⟩)
  | (go_at_call 174;(with_reducible refine CM.out.mono ?_);rintro e w'⟨rfl,rfl⟩))
 refine Yx 17 AB AB ?_;simp only[List.take_succ_cons,List.take_zero,List.drop_succ_cons,Ed];repeat (go_big_quiet_step ((go_at_call 121;with_reducible exact Qo (CB.out _))))
 refine BL ?_;rintro _⟨x,rfl⟩;have dd:=(bc x b a O).trans co;have de:=(bf x b a O).trans cq;have dl:=Lb wr x;go_wp2_with fail;go_roundw
 case rel=>exact⟨kk+1,AA,AF,LH (by rw[a5.out];exact cf.out x),LH (Zc (Zc p.out (Xz _ (Zr wr x))) (Zd _ _ _ _))⟩
 simp[intOf];omega
theorem Zvc(h:GH)(G:Gr)(w:World)(B:Yf w h G)(h1:h.n1<=100)(h2:h.n2<=100)(h3:h.n3<=100):
 Calls prog 61 #[GV h G.start] w λe w'=>Below w w w'/\e = .returned (.int .u32 ((Vh G:Nat):Int)):=by
 obtain⟨a1,n1,c1,a2,n2,c2,a3,n3,c3⟩:=h;have T:G.nons.length=n2:=B.nons.len;have k2:=B.nons.cap;simp only[] at h1 h2 h3 k2;have Hg:=LH B;have u:=Zy w (.cells #[.slice a1 n1 c1,.slice a2 n2 c2,.slice a3 n3 c3,.int .i64 G.start] 26);have A:=Y1.new w 26 ⟨a1,n1,c1,a2,n2,c2,a3,n3,c3⟩ G.start;clear B;go_enter func61,ntmps61;have⟨z5,z0,z1,z2,z3⟩:=A;simp only[] at z0 z1 z2 z3;go_wp2_with fail;generalize w.alloc (.cells #[.slice a1 n1 c1,.slice a2 n2 c2,.slice a3 n3 c3,.int .i64 G.start] 26)=m at *;have af:=LH A;have ad:=LH u;(with_reducible refine (Zss ⟨a1,n1,c1,a2,n2,c2,a3,n3,c3⟩ G m (Hg.out.below u) (by simp only[];omega) (by simp only[];omega) (by simp only[];omega)).mono ?_);rintro e W1⟨y,ba⟩;have N:=LH (Zz u y);have ae:=LH y;have E:=A.below y;clear z0 z1 z2 z3 z5 A u y;rcases ba with ⟨o,rfl⟩ | ⟨o,l,W,rfl,C⟩
 ·have⟨y5,y0,y1,y2,y3⟩:=E;simp only[] at y0 y1 y2 y3;have t:Hid (Vh G=0):=LH (by unfold Vh;rw[o];rfl);clear o E;go_wp2_with fail;go_loop [4] (λi=>i = .int .i64 0) (λi=>0)
  case atStart=>rfl
  subst hrel;rcases BY n2 with rfl | bo
  ·go_wp2_with fail;go_loop [7,8] (λs i=>s = .int .u32 0/\i = .int .i64 0) (λs i=>0)
   case atStart=>exact⟨rfl,rfl⟩
   obtain⟨rfl,rfl⟩:=hrel;go_wp2_with fail;go_ret;exact⟨N.out,by rw[t.out];rfl⟩
  go_wp2_with fail;go_loop [7,8] (λs i=>s = .int .u32 0/\i = .int .i64 0) (λs i=>0)
  case atStart=>exact⟨rfl,rfl⟩
  obtain⟨rfl,rfl⟩:=hrel;go_wp2_with fail;go_ret;exact⟨N.out,by rw[t.out];rfl⟩
 have H:=Gr.fits o;have ap:=H.n2.2;have ao:=H.n2.1;rw[T] at ap ao;have J:(Yz G).length=n2:=by rw[Wh];exact T
 have L:=Ks G;have t:Hid (Vh G=cycS (Yz G)):=LH (by unfold Vh;rw[o];rfl);have a:=LH C;have al:=LH W;have bm:l<W1.heap.size:=C.lt;generalize Yz G=S at *;subst J;have bh:decide (0<S.length)=true:=by rw[BA];omega
 have bi:decide ((0:Int)<(S.length:Int))=true:=by rw[BA];omega
 have ax:=LH L;have aj:=LH (Zsf S);have c:=Lv L;have ai:=LH c;have ah:=LH (Li S);clear H o C W L c E;go_wp2_with fail;go_loopw [4] (λi wr=>∃q:Nat,q<=S.length/\i = .int .i64 (q:Int)/\Hid (Below m m wr)/\Hid (V0 wr l (Z3 (fwI S.length S.length) q S))) (λi _=>S.length-(intOf i).toNat)
 case atStart=>exact⟨0,AS _,rfl,ae,a⟩
 obtain⟨q,hq,rfl,g,a⟩:=hrel;have D:=af.out.below g.out;have⟨y5,y0,y1,y2,y3⟩:=D;simp only[] at y0 y1 y2 y3;by_cases bq:q<S.length
 case neg =>
  obtain rfl:q=S.length:=AA
  rw[aj.out] at a;have V:cycS S=Jb (λi=>Yw S i i) S.length:=rfl;have ag:=LH V;clear V D;go_wp2_with fail;go_loop [7,8] (λs i=>∃j:Nat,j<=S.length/\i = .int .i64 (j:Int)/\s = .int .u32 ((Jb (λi=>Yw S i i) j:Nat):Int)) (λs i=>S.length-(intOf i).toNat)
  case atStart=>exact⟨0,AS _,rfl,rfl⟩
  obtain⟨j,hj,rfl,rfl⟩:=hrel;by_cases I:j<S.length
  case neg =>
   obtain rfl:j=S.length:=AA
   go_wp2_with fail;go_ret;exact⟨Zz ad.out g.out,by rw[t.out,ag.out];rfl⟩
  have U:=a.out.at (i:=j) (by rw[ah.out];exact I);have Y:=ai.out.get j;have n:=Bl ((Xu S).getD j 0) j wr Y;have hx:((Xu S).getD j 0).testBit j=Yw S j j:=rfl;have Z:=Mp (λi=>Yw S i i) j;have J:=Jg (λi=>Yw S i i) j;have a9:=or32 (Jb (λi=>Yw S i i) j) (Y6 (j:Int)) J (Ua _);have R:=Ch (j:Int) wr;rw[hx] at n;generalize (Xu S).getD j 0=v at *;generalize Yw S j j=b at *;generalize Jb (λi=>Yw S i i) j=s0 at *;generalize Y6 (j:Int)=bj at *;have O:=LH Z;have CH:=LH n;have CB:=LH R;clear hx Z n R Y;cases b
  ·go_wp2_with (go_at_call 120;(with_reducible refine CH.out.mono ?_);rintro e w'⟨rfl,rfl⟩);go_round
   case rel=>exact⟨j+1,AA,AF,by rw[O.out];rfl⟩
   simp[intOf];omega
  go_wp2_with (first
   | (go_at_call 120;(with_reducible refine CH.out.mono ?_);rintro e w'⟨rfl,rfl⟩)
   | (go_at_call 121;(with_reducible refine CB.out.mono ?_);rintro e w'⟨rfl,rfl⟩))
  go_round
  case rel=>exact⟨j+1,AA,AF,by rw[O.out];rfl⟩
  simp[intOf];omega
 have ar:Hid (Z3 (fwI S.length S.length) (q+1) S=fwI S.length S.length (Z3 (fwI S.length S.length) q S)):=rfl;have f:=K5 S.length S.length S q;have c:=Lo S.length S.length ax.out q;generalize Z3 (fwI S.length S.length) q S=F at *;have an:=LH f;have aw:=LH c;clear f c D;go_wp2_with fail;clear y0 y1 y2 y3 y5;go_loopw [5] (λi p=>∃j:Nat,j<=S.length/\i = .int .i64 (j:Int)/\Hid (Below m m p)/\Hid (V0 p l (fwI S.length j F))) (λi _=>S.length-(intOf i).toNat)
 case atStart=>exact⟨0,AS _,rfl,g,a⟩
 obtain⟨j,hj,rfl,g,a⟩:=hrel;by_cases I:j<S.length
 case neg =>
  obtain rfl:j=S.length:=AA
  go_wp2_with fail;go_roundw
  case rel=>exact⟨q+1,AA,AF,g,LH (by rw[ar.out];exact a.out)⟩
  simp[intOf];omega
 have aq:=LH (M9 S.length j F);have f:=Zyc S.length F j;have c:=Zzu S.length aw.out j;rw[an.out] at f;generalize fwI S.length j F=r at *;have am:=LH f;have av:=LH c;clear f c;go_wp2_with fail;go_loopw [6] (λi p=>∃k:Nat,k<=S.length/\i = .int .i64 (k:Int)/\Hid (Below m m p)/\Hid (V0 p l (fwR j k r))) (λi _=>S.length-(intOf i).toNat)
 case atStart=>exact⟨0,AS _,rfl,g,a⟩
 obtain⟨k,hk,rfl,g,a⟩:=hrel;by_cases a8:k<S.length
 case neg =>
  obtain rfl:k=S.length:=AA
  go_wp2_with fail;go_roundw
  case rel=>exact⟨j+1,AA,AF,g,LH (by rw[aq.out];exact a.out)⟩
  simp[intOf];omega
 have M:=Mm j k r;have f:=Zyi j r k;have c:=Zzp j av.out k;rw[am.out] at f;generalize fwR j k r=d at *;unfold fwK addAt at M;have U:=a.out.at (i:=j) (by rw[f];exact I);have be:=a.out.at (i:=k) (by rw[f];exact a8);have a6:=Blk.frozen a.out j;have X:l<wr.heap.size:=a.out.lt;have n:=Bl (d.getD j 0) k wr (c.get j);have a9:=or32 (d.getD j 0) (d.getD k 0) (c.get j) (c.get k);have au:=LH λx:Ext wr=>V0.put (Blk.ext a.out (Zr wr x):V0 (bl wr x) l d) j (d.getD j 0 ||| d.getD k 0);have CH:=LH n;have bc:=Yt wr;have bf:=Kh wr;generalize (d.getD j 0).testBit k=b at *;generalize d.getD j 0 ||| d.getD k 0=z at *
 generalize d.getD j 0=vj at *;generalize d.getD k 0=vk at *;have P:=LH M;clear M f c n;cases b
 ·go_wp2_with (go_at_call 120;(with_reducible refine CH.out.mono ?_);rintro e w'⟨rfl,rfl⟩);go_roundw
  case rel=>exact⟨k+1,AA,AF,g,LH (by rw[P.out];exact a.out)⟩
  simp[intOf];omega
 go_wp2_with (go_at_call 120;(with_reducible refine CH.out.mono ?_);rintro e w'⟨rfl,rfl⟩);refine Yx 12 AB AB ?_;simp only[List.take_succ_cons,List.take_zero,List.drop_succ_cons,Ed];repeat (go_big_quiet_step (fail))
 refine BL ?_;rintro _⟨x,rfl⟩;have bg:=(bc x l j X).trans U;have bk:=(bf x l j X).trans a6;have br:=Lb wr x;go_wp2_with fail;go_roundw
 case rel=>exact⟨k+1,AA,AF,LH (Zg (Zz g.out (Zr wr x)) _ _ _ al.out),LH (by rw[P.out];exact au.out x)⟩
 simp[intOf];omega
theorem Zz1{G:Gr}(d:G.Fits):(Z5 G).getD G.start.toNat false=true:=by
 have key:∀(k:Nat),(Z3 (Yy (Yp (Zt G)) G.rules) k (Xv G)).getD G.start.toNat false=true:=by
  intro k
  induction k with
  | zero =>
    rw[Z3];unfold Xv;exact (Uh _ _ _).2 (.inr ⟨rfl,by rw[Eg];have:=d.st;omega⟩)
  | succ k a =>
    rw[Z3];have h1:=(Wn (Yp (Zt G)) G.rules);have b:=getD_lt a;generalize Z3 (Yy (Yp (Zt G)) G.rules) k (Xv G)=N at *;have c:N[G.start.toNat]? = some true:=by
     rw[AP,AM b] at a;rw[AM b];exact congrArg some a
    have:=h1.up N _ c;rw[AP,this];rfl
 exact key _
theorem Jm{G:Gr}(a:G.Fits)(h:(Zt G).getD G.start.toNat false=true):G.start.toNat∈Ze G:=(N0 a).2 ⟨h,Zz1 a⟩
theorem tree_stable{G:Gr}(c:Xq G):∀(m n:Nat) (s:Int),s<0->Zp s<G.nons.length->mu G n s=m->∀f o,m<f->m<o->Qw G f s n=Qw G o s n:=by
 intro m
 induction m using Nat.strongRecOn with
 | ind m F =>
   intro n s h0 I z f o N O;obtain⟨g,rfl⟩:∃g,f=g+1:=⟨f-1,AA⟩;obtain⟨a,rfl⟩:∃a,o=a+1:=⟨o-1,AA⟩;rw[Fg G g h0,Fg G a h0];refine Lu λr D L=>?_;have C:∀q∈r.right,q<0->Zp q<G.nons.length:=λq t l=>by
    have:=c.fits.sym r D q t;unfold Zp;omega
   have M:∀q∈r.right,∀k,k<n->Qw G g q k=Qw G a q k:=λq t k H=>by
    by_cases l:0<=q
    ·rw[Un G g l,Un G a l]
    have h1:=Gc G (Zp q);have:mu G k q<m:=by unfold mu at z ⊢;omega
    exact F _ this k q AA (C q t AA) rfl g a AA AA
   have top:∀(p:Nat) q,r.right[p]? = some q->(∀(j:Nat) b,j≠p->r.right[j]? = some b->Xg (Zj G) b=true)->Qw G g q n=Qw G a q n:=λp q d x=>by
    by_cases l:0<=q
    ·rw[Un G g l,Un G a l]
    have E:=D2 c D d AA x;rw[L] at E;have hd:=Zv8 c I E;have:mu G n q<m:=by unfold mu at z ⊢;omega
    exact F _ this n q AA (C q (AN d) AA) rfl g a AA AA
   by_cases B:n=0
   ·subst B;by_cases y:(∃q∈r.right,Qw G g q 0=0)/\∃q∈r.right,Qw G a q 0=0
    ·rw[Uf.2 y.1,Uf.2 y.2]
    refine Wp λq t k H=>?_;obtain rfl:k=0:=AA
    obtain⟨p,d⟩:=BU t;refine top p q d λj b _ v=>?_;have A:=AN v;by_cases h1:∃q∈r.right,Qw G g q 0=0
    ·refine Ms c.fits a λu=>y ⟨h1,b,A,u⟩
    exact Ms c.fits g λu=>h1 ⟨b,A,u⟩
   refine Zzb M (λp q d x=>top p q d λj b v J=>Ms c.fits g (x j b v J)) λh=>absurd h B
theorem treeN_fuel{G:Gr}(a:Xq G){f n:Nat}(c:s<0->Zp s<G.nons.length)(b:n*4294967296+4294967296<=f):Qw G f s n=Zv G s n:=by
 unfold Zv;by_cases h0:0<=s
 ·rw[Un G _ h0,Un G _ h0]
 exact tree_stable a _ n s AA (c AA) rfl _ _ (mu_lt G n s b) (mu_lt G n s (fuelN_le n))
theorem Uu{G:Gr}(a:Xq G)(h0:s<0)(l:Zp s<G.nons.length)(n:Nat):Zv G s n=Yc (Zv G) G.rules (Zp s) n:=by
 obtain⟨f,b,c⟩:=fuelN_succ n;have e:Zv G s n=Qw G (f+1) s n:=by unfold Zv;rw[b]
 rw[e,Fg G f h0];refine Lu λr j o=>Wp λq h k d=>?_;have g:q<0->Zp q<G.nons.length:=λm=>by
  have:=a.fits.sym r j q h;unfold Zp;omega
 exact treeN_fuel a g (BC (Nat.add_le_add_right (Es _ d) _) c)
theorem Ll.next{G:Gr}(a:Xq G){c:List Nat}(d:Ni G c){m p i:Nat}(h:Ll G c tab m p)(hi:c[p]? = some i):
 Yc (Yk tab) G.rules i m=Zv G (-1-(i:Int)) m:=by
 have o:=d.lt i (AN hi);rw[Uu a AA (by rw[nonI_of];exact o),nonI_of];refine (Lu λr l y=>?_).symm;have u:∀q∈r.right,q<0->Zp q<G.nons.length:=λq b C=>by
  have:=a.fits.sym r l q b;unfold Zp;omega
 refine Zzb (λq b k t=>?_) (λj q s v=>?_) λg q b h0=>?_
 ·unfold Yk;split
  ·rename_i h0;exact Xb G h0 k
  rename_i h0;rw[h.low k t _ (u q b AA),Fr AA]
 ·unfold Yk;split
  ·rename_i h0;exact Xb G h0 m
  rename_i h0;have n:=D2 a l s AA λA B x z=>Jw a (v A B x z);rw[y] at n;rw[h.now _ (d.pre p i hi _ n),Fr AA]
 unfold Yk;split
 ·rename_i h1;rw[<-Xb G h1];exact h0
 rename_i h1;by_cases f:Zp q∈c.take p
 ·subst g;rw[h.now _ f,Fr AA];exact h0
 subst g;exact h.rest _ f
theorem Zt9{G:Gr}(v:Xq G){a:List Nat}(f:Ni G a){n:Nat}(h:chkT G a tab n=true):∀k,k<=n->∀i,i<G.nons.length->tab k i=Zv G (-1-(i:Int)) k:=by
 unfold chkT at h;simp only[BG,BQ] at h;have row:∀m,m<=n->Ll G a (B6 tab a m 0) m 0->∀p,p<=a.length->Ll G a (B6 tab a m p) m p:=by
  intro m x h0 p
  induction p with
  | zero=>intro _;exact h0
  | succ p q =>
    intro y;have t:=q AA;have hi:a[p]? = some (a[p]' AA):=AM AA;have e:a.getD p 0=a[p]' AA:=by rw[AP,hi];rfl
    have r:=Nat.eq_of_beq_eq_true (h m AA p AA);rw[e,t.next v f hi] at r;have s:=t.put hi (tab m (a[p]' AA)) r.symm;have u:U6 (B6 tab a m p) m (a[p]' AA) (tab m (a[p]' AA))=B6 tab a m (p+1):=by
     funext k j;unfold U6 B6;have o:a.take (p+1)=a.take p++[a[p]' AA]:=by rw[Du,hi];rfl
     by_cases c:k<m
     ·rw[if_neg AA,if_pos c,if_pos c]
     rw[if_neg c,if_neg c];by_cases d:k=m
     ·subst d;by_cases l:j=a[p]' AA
      ·subst l;rw[if_pos ⟨rfl,rfl⟩,if_pos ⟨rfl,by rw[List.contains_iff_mem,o];exact List.mem_append_right _ (BP.2 rfl)⟩]
      rw[if_neg λb=>l b.2];by_cases g:(a.take p).contains j=true
      ·rw[if_pos ⟨rfl,g⟩,if_pos ⟨rfl,by rw[List.contains_iff_mem] at g ⊢;rw[o];exact List.mem_append_left _ g⟩]
      rw[if_neg λb=>g b.2,if_neg λb=>g ?_];have:=b.2;rw[List.contains_iff_mem,o,DD,BP] at this;rw[List.contains_iff_mem];exact this.resolve_right l
     rw[if_neg λb=>d b.1,if_neg λb=>d b.1,if_neg λb=>d b.1]
    rw[u] at s;exact s
 have all:∀m,m<=n->Ll G a (B6 tab a m 0) m 0:=by
  intro m
  induction m with
  | zero=>intro _;rw[cut_zero];exact Ll.start G a
  | succ m q =>
    intro x;have h1:=row m AA (q AA) a.length (AJ _);refine⟨λk c i hi=>?_,λi hi=>by simp at hi,λi _=>?_⟩
    ·rcases (AA:k<m\/k=m) with d | rfl
     ·have:=h1.low k d i hi;unfold B6 at this ⊢;rw[if_pos d] at this;rw[if_pos AA];exact this
     have:=h1.now i (by rw[List.take_length];exact f.all i hi);unfold B6 at this ⊢;rw[if_neg AA,if_pos ⟨rfl,by simpa using f.all i hi⟩] at this;rw[if_pos AA];exact this
    unfold B6;rw[if_neg AA,if_neg];rintro⟨_,h⟩;simp at h
 intro k c i hi;have h1:=row k c (all k c) a.length (AJ _);have:=h1.now i (by rw[List.take_length];exact f.all i hi);unfold B6 at this;rw[if_neg AA,if_pos ⟨rfl,by simpa using f.all i hi⟩] at this;exact this
theorem tr_reach(g n i:Nat)(S:List Nat)(w:World)(r:V0 w g S)(hn:S.length=n)(av:n<=1000)(hi:i<n)(u:We S)(q:InS S)(C:Q2 w):
 Calls prog 156 #[.slice (some ⟨g,0,none⟩) n n,.int .i64 (i:Int)] w λe w'=>e = .returned (.int .u32 (((Xu S).getD i 0:Nat):Int))/\Below w w w':=by
 subst hn;have aa:=r.at hi;have J:=LH r;have l:=LH u;have j:=LH q;have O:=LH C;have v:=LH (J5.start u q hi);have hd:=j.out;have T:=LH λR (h:J5 S i R) (he:Qd S R (Wy R)=R)=>J5.done j hi h he;generalize S.getD i 0=v0 at aa v;generalize (Xu S).getD i 0=cl at *;clear r u q C hd;go_enter func156,ntmps156;go_wp2_with fail;go_loopw [5] (λa wr=>∃R:Nat,a = .int .u32 (R:Int)/\Hid (J5 S i R)/\Hid (Below w w wr)) (λa _=>4294967296-(intOf a).toNat)
 case atStart=>exact⟨v0,rfl,v,LH (AL _ _)⟩
 obtain⟨R,rfl,b,x⟩:=hrel;have F:=b.1;have z:=set_members R wr F (O.below x);have I:=LH z;have V:=LH (Zt7 R);clear z;go_wp2_with (go_at_call 200;refine I.out.mono ?_;rintro e w2⟨A,c,rfl,G,E⟩);have f:=LH (Zz x E);have X:=LH G;have N:Hid (V0 w2 g S):=Blk.ext J f;have y:=LH (J5.next l j hi b);have U:=LH (moreN_le S (Wy R) R);clear E G F;have t:(Z6 (Wy R)).length=(Wy R).length:=Mv _;have W:=LH t;have aq:(Z6 (Wy R)).length<=32:=by rw[t];exact V
 generalize B:(Z6 (Wy R)).length=L at *;have HL:=LH B;clear B t;go_wp2_with fail;go_loop [6,17] (λm k=>∃p:Nat,p<=L/\k = .int .i64 (p:Int)/\m = .int .u32 ((Qd S R ((Wy R).take p):Nat):Int)) (λm k=>L-(intOf k).toNat)
 case atStart=>exact⟨0,AS _,rfl,by simp[Qd]⟩
 obtain⟨p,hp,rfl,rfl⟩:=hrel;by_cases ah:p<L
 case neg =>
  obtain rfl:p=L:=AA
  have D:Qd S R ((Wy R).take p)=Qd S R (Wy R):=by rw[AR (by rw[<-W];exact AJ _)]
  rw[D];have o:=T R b;have au:=y.1;clear D;generalize Qd S R (Wy R)=M at *;by_cases ae:M=R
  ·subst ae;have ab:=o (by trivial);clear o;go_wp2_with fail;go_ret;exact⟨by rw[<-ab];rfl,f⟩
  have aw:((M:Int)==(R:Int))=false:=by rw[AQ];omega
  have ar:=U.out;clear o;go_wp2_with fail;go_roundw
  case rel=>exact⟨M,rfl,y,f⟩
  simp[intOf];omega
 obtain⟨bb,a0,s,rfl,hb,Z,q0⟩:=X.get ah;obtain⟨k,rfl,d⟩:=mems_get Z;have af:k<S.length:=((b.2.2 k ((Zwo R k).1 (AN d)).2)).1;have ao:=N.at af;have H:Qd S R ((Wy R).take (p+1))=Qd S R ((Wy R).take p) ||| S.getD k 0:=by rw[Ya d,moreN_snoc]
 have ax:=or32 (Qd S R ((Wy R).take p)) (S.getD k 0) (Zxv l _ b.1) (l.get k);generalize Qd S R ((Wy R).take p)=m0 at *;generalize S.getD k 0=vk at *;have Y:=LH H;have Hk:=LH d;clear H d;go_wp2_with fail;go_round
 case rel=>exact⟨p+1,AA,AF,by rw[Y]⟩
 simp[intOf];omega
def B5:Prop:=∀(h:GH) (G:Gr) (w:World),Yf w h G->(∀t∈G.terms,t.name.size<=maxLen)->h.n1<=100->h.n2<=100->h.n3<=100->
    Calls Tryz.prog 155 #[GV h G.start] w λe w'=>Below w.heap.size w w' /\
     ((G.right=false/\e = .returned (.slice none 0 0))\/(G.right=true/\∃g,w.heap.size<=g/\e = .returned (.slice (some ⟨g,0,none⟩) h.n2 h.n2)/\V0 w' g (Yz G)))
theorem tr_cof1(h:GH)(G:Gr)(c:Nat)(s:Int)(w:World)(g:Yf w h G)(j:U3 s)(h1:h.n1<=1000)(d:h.n2<=1000)(k:Y1 w c h G.start):
 Calls prog 95 #[.int .i64 s,.pointer (some ⟨c,0,none⟩)] w λe w'=>e = .returned (.bool (!G.has s))/\Below w w w':=by
 have a:=cf_has h G s w g j h1 d;generalize G.has s=b at *;obtain⟨a1,n1,c1,a2,n2,c2,a3,n3,c3⟩:=h;have⟨z5,z0,z1,z2,z3⟩:=k;simp only[] at z0 z1 z2 z3;have CH:=LH a;clear a;go_enter func95,ntmps95;go_wp2_with fail;refine CH.out.mono ?_;rintro e l⟨rfl,f⟩;go_wp2_with fail;go_ret;exact⟨rfl,f⟩
section
variable {P:Program} {w:World}
theorem Zz6{o:Oper}{a:Act}(q:o.guard=none)(s x:Operand)(t:TypeId)(r:o.op = .call { callee := .builtin .append,args:=#[s,x],argTypes:=#[t,t] })(base:Nat)(e:TypeId)(z:Value)(size bytes:Nat)(y:P.underlying t=some (.slice e))(hi:(P.info? e).map (λi=>(i.zero,i.size,i.bytes))=some (some z,size,bytes))(O:z.cells.size=size)(N:0<size)(A:Option Addr)(n c:Nat)(xs:List Value)(v:a.eval s = .slice A n c)(p:w.ownsRow base e size (.slice A n c) n xs)(g:Option Addr)(m c2:Nat)(d:List Value)(J:d.length=m*size)(B:a.eval x = .slice g m c2)(h0:g=none->m=0)(H:∀f,g=some f->∀j u,d[j]? = some u->w.cell? (f.add j)=some u)(h1:∀u∈d,u.oneCell'=true)(C:n+m<=9223372036854775807)(G:(n+m)*bytes<=140737488355328)(F:base<=w.heap.size)(h:∀k l w',w'.ownsRow base e size (.slice k (n+m) l) (n+m) (xs++d)->w.grownBy w' (Value.slice A n c).ownBlock->(∀b,(Value.slice k (n+m) l).ownBlock=some b->b<w.heap.size->(Value.slice A n c).ownBlock=some b)->
   wpList P ops Q rest (a.put o.dst (.slice k (n+m) l)) w'):wpList P ops Q (o::rest) a w:=by
 rcases g with _ | f
 ·obtain rfl:=h0 rfl;have L:d=[]:=BJ AA;subst L;obtain⟨i,I,T,S,R⟩:=info_parts hi;have M:=run_append_nilS (P:=P) base size t o.type e i y I A n c xs p c2;refine wpList_plain q λK D=>?_;unfold Oper.wp execOp;simp only[r,resolve,invoke,builtin,Sem.run_bind,Sem.run_pure,Result.andThen_ok,List.map_toArray,CU,List.map_nil,v,B,M];exact D _ _ (h A c w (by simpa using p) (World.grownBy.refl _ _) λb E _=>E)
 exact Zzi q s x t r base e z size bytes y hi O N A n c xs v p f m c2 d J B (H f rfl) h1 C G F h
end
section
open Go.Maps (Keyed IsMap Tidy)
theorem tr_CloneT(A:Option Addr)(n c:Nat)(ts:List Trm)(w:World)(h:N8 w A n c ts)(y:n<=1000):
 Calls prog 90 #[.slice A n c] w λe w'=>Below w.heap.size w w'/\∃g m,e = .returned (.slice g n m)/\w'.ownsRow w.heap.size 140 3 (.slice g n m) n (V8 ts):=by
 have d:=h.len;have x:=h.cap;have j:Hid ((prog.info? 140).map (λi=>(i.zero,i.size,i.bytes))=some (some (.agg #[.string ByteArray.empty,.int .i64 0,.int .i64 0]),3,32)):=LH AB;have l:Hid ((w.alloc (.cells #[] 140)).ownsRow w.heap.size 140 3 (.slice (some ⟨w.heap.size,0,none⟩) 0 0) 0 []):=LH (World.ownsRow_made w #[] 0 (AJ _) (AS _) rfl);have b:=LH (Zy w (.cells #[] 140));have f:=LH (D4 (h.below b.out));have k:Hid ((V8 ts).length=n*3):=LH (by rw[Ff,d]);have u:(w.alloc (.cells #[] 140)).heap.size=w.heap.size+1:=Zl _ _;rcases A with _ | a
 ·obtain rfl:n=0:=(D4 h).1 rfl;have v:ts=[]:=BJ d;subst v;clear f k l b j u h d;go_enter func90,ntmps90;have t:∀w:World,(binOp .eql 22 (.slice none 0 c) (.slice none 0 0)).run prog w = .ok (.bool true) w:=λ_=>rfl;go_wp2_with fail;go_ret;exact⟨AL _ _,none,0,rfl,BN _ _ _ _⟩
 clear h d;go_enter func90,ntmps90;have t:∀w:World,(binOp .eql 22 (.slice (some a) n c) (.slice none 0 0)).run prog w = .ok (.bool false) w:=λ_=>rfl;go_wp2_with (at_builtin;refine Zz6 rfl _ _ 22 rfl w.heap.size 140 _ 3 32 underlying22 j.out AC AC (some ⟨w.heap.size,0,none⟩) 0 0 [] rfl l.out (some a) n c (V8 ts) k.out rfl f.out.1 f.out.2 (Zuz _) AA AA AA ?_;intro q r z p o s;simp only[BF,DA] at p o s);go_ret;exact⟨b.out.trans (Zn o b.out.size (AJ _)),q,r,rfl,p⟩
theorem G6(A:Option Addr)(n c:Nat)(xs:List Nat)(w:World)(h:Zq .u32 w A n c xs):
 Calls prog 31 #[.slice A n c] w λe w'=>e = .returned (.slice A (Xx xs).length c)/\Zq .u32 w A (Xx xs).length c (Xx xs)/\w=w':=by
 have r:=h.len;have q:=h.cap;go_enter func31,ntmps31;go_wp2;go_loop [0] (λv=>∃k:Nat,k<=n/\v = .slice A k c/\Xx xs=Xx (xs.take k)) (λv=>lenOf v)
 case atStart=>exact⟨n,AJ _,rfl,by rw[AR AA]⟩
 obtain⟨k,m,rfl,hrel⟩:=hrel;have f:=LH hrel;clear hrel;by_cases s:0<k
 ·obtain⟨b,u,x,rfl,o,Hx,p⟩:=h.get (j:=k-1) AA;by_cases h0:x=0
  ·subst h0;go_wp2;go_round
   case rel =>
    refine⟨k-1,AA,AF,?_⟩;rw[f];have:=Zws xs (k-1) AA (by simp[Hx.out]);rw[<-this,show k-1+1=k from by omega]
   simp[lenOf];omega
  have t:((x:Int)==0)=false:=by simp[h0]
  have a:=Zxp xs (k-1) AA (by simpa [Hx.out] using h0);rw[show k-1+1=k from by omega,<-f] at a;have g:(Xx xs).length=k:=by rw[a];simp;omega
  have d:=LH a;have l:=LH g;clear a g;go_wp2;go_ret;rw[l];refine⟨rfl,?_,rfl⟩;rw[d];exact h.take k c m AA AA
 have a:Xx xs=[]:=by rw[f,show k=0 from by omega];simp[Xx]
 have d:=LH a;clear a;obtain rfl:k=0:=AA
 go_wp2;go_ret;rw[d];exact⟨rfl,Zq.nil _ _ _ _ AA,rfl⟩
end
section
open Go.Maps (Keyed IsMap Tidy)
variable {P:Program} {k:TypeId}
theorem Vv.made(w:World)(P:Program)(k:TypeId):Vv P k (w.alloc (.map #[] 0)) w []:=⟨World.ownsMap_made w P k ptrR,λp h=>(by cases h)⟩
end
section
open Ieee
open Go.Maps (Keyed IsMap Tidy)
structure Gk (w:World) (g:Nat) (G:Gr) (S:Nat->Prop) (ts:List ((List Int × Nat) × Nat)):Prop where
 map:Vv Tryz.prog 220 w g (ts.map λp=>(kB p.1.1 p.1.2,p.2))
 key:∀p∈ts,J1 p.1.1 p.1.2
 val:∀p∈ts,Fx w p.2 (Zx (Zv G) p.1.1 p.1.2)/\¬S p.2
structure Wd (W0:World) (k:BkH) (h:GH) (G:Gr) (S:Nat->Prop) (w:World):Prop where
 base:Below W0.heap.size W0 w
 box:Blk w k.c 164 #[.slice h.a1 h.n1 h.c1,.slice h.a2 h.n2 h.c2,.slice h.a3 h.n3 h.c3,.int .i64 G.start,.map (some k.t)]
 low:W0.heap.size<=k.t
 known:∃ts,Gk w k.t G S ts
end
section
open Ieee
open Go.Maps (Keyed IsMap Tidy)
open Go.Maps (Keyed IsMap Tidy)
def Zuw(a:World)(k:BkH)(h:GH)(G:Gr)(S:Nat->Prop)(w:World)(x:Nat)(e:Ending)(w':World):Prop :=
 Wd a k h G S w'/\Off k.map w w'/\∃A n c d,e = .returned (.agg #[.slice A n c,.bool d])/\Z1 w' A n c d x
end
structure PM (W0:World) (k:BkH) (h:GH) (G:Gr) (S':Nat->Prop) (w:World) (gR:Nat) (b:Nat->Bool) (u:Nat->Value) (X:World):Prop where
 ex:∃S2,Wd W0 k h G S2 X/\(∀q,S' q->S2 q)/\(∀q,S2 q->q<X.heap.size)/\(b 12=true->Cel S2 gR X (u 12) (b 14) (u 4))/\(b 13=true->Cel S2 gR X (u 13) (b 15) (u 11))
 off:Off k.map w X
 res:Blk X gR 168 #[.slice none 0 0,.bool false]
 ne:b 12=true->b 13=true->u 12≠u 13
section
variable {W0:World} {k:BkH} {h:GH} {G:Gr} {S':Nat->Prop} {w:World} {gR:Nat} {b:Nat->Bool} {u:Nat->Value} {X:World}
theorem PM.idle(H:PM W0 k h G S' w gR b u X)(i:Nat)(v:Value)(hi:i≠4/\i≠11/\i≠12/\i≠13/\i≠14/\i≠15):PM W0 k h G S' w gR (Mz b i) (upd u i v) X:=by
 obtain⟨n,o,a,c,p,q⟩:=hi;obtain⟨⟨d,a1,a2,a3,f,g⟩,j,l,m⟩:=H;refine⟨⟨d,a1,a2,a3,?_,?_⟩,j,l,?_⟩
 ·rw[Ys (Ne.symm a),Ys (Ne.symm p),Yj (Ne.symm a),Yj (Ne.symm n)];exact f
 ·rw[Ys (Ne.symm c),Ys (Ne.symm q),Yj (Ne.symm c),Yj (Ne.symm o)];exact g
 rw[Ys (Ne.symm a),Ys (Ne.symm c),Yj (Ne.symm a),Yj (Ne.symm c)];exact m
structure Me (W0:World) (k:BkH) (h:GH) (G:Gr) (mk:Nat) (cs:List Nat) (S:Nat->Prop) (A:Option Addr) (c:Nat) (W:World):Prop where
 bk:Wd W0 k h G S W
 box:Blk W mk 99 #[.pointer (some ⟨k.c,0,none⟩),.slice A cs.length c]
 row:M4 W W0.heap.size A cs.length c (cs.map λi:Nat=>(i:Int))
 own:S mk/\∀g,(Value.slice A cs.length c).ownBlock=some g->S g
 lt:∀q,S q->q<W.heap.size
 low:W0.heap.size<=mk
 few:cs.length<=300
def MkAt(a:World)(k:BkH)(h:GH)(G:Gr)(mk:Nat)(b:List Nat)(W:World):Prop:=∃S A c,Me a k h G mk b S A c W
def MkRet(a:World)(k:BkH)(h:GH)(G:Gr)(mk:Nat)(b t:List Nat)(w:World)(e:Ending)(w':World):Prop :=
 Zu w w'/\((b.length+t.length<=300/\e = .returned (.bool true)/\MkAt a k h G mk (b++t) w')\/(300<b.length+t.length/\e = .returned (.bool false)/\Below a.heap.size a w'))
def FC(a:World)(k:BkH)(h:GH)(G:Gr)(m:Nat):Prop:=∀(mk:Nat) (d:List Nat) (l:List Int) (n r:Nat) (t:List Nat) (Al:Option Addr) (b:Nat) (Ar:Option Addr) (cr:Nat) (w:World),t.length<=m->UnL G l n r t->InG G l->Zx (Zv G) l n<big->J1 l n->(∀s∈l,G.has s=true)->Za .i64 a Al l.length b l->Zq .u32 w Ar (limbs r).length cr (limbs r)->MkAt a k h G mk d w->
 Calls Tryz.prog 110 #[.pointer (some ⟨mk,0,none⟩),.slice Al l.length b,.int .i64 (n:Int),.slice Ar (limbs r).length cr] w (MkRet a k h G mk d t w)
def TC(a:World)(k:BkH)(h:GH)(G:Gr)(m:Nat):Prop:=∀(mk:Nat) (b:List Nat) (s:Int) (n r:Nat) (t:List Nat) (Ar:Option Addr) (cr:Nat) (w:World),t.length<=m->s<0->Zp s<G.nons.length->UnT G (Zp s) n r t->Zv G s n<big->n<=10->Zq .u32 w Ar (limbs r).length cr (limbs r)->MkAt a k h G mk b w->
 Calls Tryz.prog 49 #[.pointer (some ⟨mk,0,none⟩),.int .i64 (Zp s:Int),.int .i64 (n:Int),.slice Ar (limbs r).length cr] w (MkRet a k h G mk b t w)
end
