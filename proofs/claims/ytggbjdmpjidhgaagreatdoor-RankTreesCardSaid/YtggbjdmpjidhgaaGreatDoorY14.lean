/- nullable: the reference's, walked. -/
import Derived.Test.YtggbjdmpjidhgaaGreatDoorY08
import Derived.Test.YtggbjdmpjidhgaaGreatDoorY09
import Derived.Test.YtggbjdmpjidhgaaGreatDoorY10
set_option linter.all false
set_option maxHeartbeats 1500000
set_option maxRecDepth 100000
namespace Go.Proofs.YtggbjdmpjidhgaaGreatDoor
open Go.RowKit Go.Proofs.Tryz
variable{w' a:World}{n g i id fuel:Nat}{v:Value}{t wd ps xs:List Int}{o:Oper}{ts:List ((List Int × Nat) × Nat)}{l rest:List Oper}{A0:Option Addr}{F:(Nat->Value)->Act}{D:Nat->Value->World->Prop}{Q:Exit->Act->World->Prop}{J:Array Bool->Act->World->Prop}{ops:Array Oper}{p:List MemPlace}
theorem Zsq(h:GH)(G:Gr)(b:Bool)(w:World)(l:Yf w h G)(X:h.n1<=100)(Y:h.n2<=100)(Z:h.n3<=100):
 Calls prog 171 #[GV h G.start,.bool b] w λe w'=>Below w w w' /\
  ((G.right=false/\e = .returned (.slice none 0 0))\/(G.right=true/\∃g,w.heap.size<=g/\e = .returned (.slice (some ⟨g,0,none⟩) h.n2 h.n2)/\Z8 w' g (U5 b G))):=by
 obtain⟨a1,n1,c1,a2,n2,c2,a3,n3,c3⟩:=h;have e1:G.terms.length=n1:=l.terms.len;have z:G.nons.length=n2:=l.nons.len;have e3:G.rules.length=n3:=l.rules.len;have k3:=l.rules.cap;have k2:=l.nons.cap;simp only[] at X Y Z k3 k2;have R:=LH l;have A:=Zy w (.cells #[.slice a1 n1 c1,.slice a2 n2 c2,.slice a3 n3 c3,.int .i64 G.start] 26);have E:=Y1.new w 26 ⟨a1,n1,c1,a2,n2,c2,a3,n3,c3⟩ G.start;have a8:=Nt n2 AA;have ay:=Blk.new w 26 #[.slice a1 n1 c1,.slice a2 n2 c2,.slice a3 n3 c3,.int .i64 G.start];go_enter func171,ntmps171;have⟨z5,z0,z1,z2,z3⟩:=E;simp only[] at z0 z1 z2 z3;go_wp2_with fail;generalize w.alloc (.cells #[.slice a1 n1 c1,.slice a2 n2 c2,.slice a3 n3 c3,.int .i64 G.start] 26)=V at *;have W:=Jr ⟨a1,n1,c1,a2,n2,c2,a3,n3,c3⟩ G V (l.below A) (by simp only[];omega) (by simp only[];omega) (by simp only[];omega);refine W.mono ?_;rintro e a⟨rfl,D⟩;have n:=Zz A D;have s:=E.below D;have⟨y5,y0,y1,y2,y3⟩:=s;simp only[] at y0 y1 y2 y3;rcases p:G.right with _ | _
 ·go_wp2_with fail;go_ret;exact⟨n,.inl ⟨p,rfl⟩⟩
 have t:=Gr.fits p;have U:=LH p;have P:=LH t;have m:=λAr cr (r:Rul) (N:List Bool) w' (hr:r∈G.rules) (o:Za .i64 w' Ar r.right.length cr r.right) (hN:Z8 w' a N) (hl:N.length=n2)=>rf_all Ar r.right.length cr a n2 r.right N b w' o hN hl AA (by have:=t.symB hr;rwa [z] at this);have CA:=LH m;clear p t m;go_wp2_with fail;have q:=Z8.new a (List.replicate n2 false);have B:=Zy a (.cells (Qk (List.replicate n2 false)).toArray 4);generalize a.alloc (.cells (Qk (List.replicate n2 false)).toArray 4)=W2 at *;have ak:=q.lt;clear y0 y1 y2 y3 z0 z1 z2 z3;go_loopw [6,7] (λi _ wr=>∃(k:Nat),k<=n2/\i = .int .i64 (k:Int)/\Below a a wr/\Z8 wr a (Z3 (Xs (Xo b) G.rules) k (List.replicate n2 false))) (λi _ _=>n2-(intOf i).toNat)
 case atStart=>exact⟨0,AV _,rfl,B,q⟩
 clear q B ak;obtain⟨k,hk,rfl,d,c⟩:=hrel;have⟨y5,y0,y1,y2,y3⟩:=s.below d;simp only[] at y0 y1 y2 y3;by_cases a7:k<n2
 ·go_wp2_with fail;clear y0 y1 y2 y3;have ad:(Z3 (Xs (Xo b) G.rules) k (List.replicate n2 false)).length=n2:=by rw[Ad];simp
  have S:Hid (Xs (Xo b) G.rules (Z3 (Xs (Xo b) G.rules) k (List.replicate n2 false))=Z3 (Xs (Xo b) G.rules) (k+1) (List.replicate n2 false)):=rfl;generalize Z3 (Xs (Xo b) G.rules) k (List.replicate n2 false)=N at *;go_loopw [7] (λi M=>∃(j:Nat),j<=n3/\i = .int .i64 (j:Int)/\Below a a M/\Z8 M a (Xs (Xo b) (G.rules.take j) N)) (λi _=>n3-(intOf i).toNat)
  case atStart=>exact⟨0,AV _,rfl,d,by simpa [Xs] using c⟩
  clear d c;obtain⟨j,hj,rfl,d,c⟩:=hrel;have⟨y5,y0,y1,y2,y3⟩:=s.below d;simp only[] at y0 y1 y2 y3;by_cases ag:j<n3
  ·obtain⟨bb,a9,r,Ar,cr,rfl,hb,y,L,q1,q2,o⟩:=R.rules.get ag;have C:=Zz n d;rw[<-C.cell (by exact hb)] at L q1 q2;have H:=AM y;have ab:(Xs (Xo b) (G.rules.take j) N).length=n2:=by rw[Zvy];exact ad
   have I:Xs (Xo b) (G.rules.take (j+1)) N=Qa (Xo b) r (Xs (Xo b) (G.rules.take j) N):=by rw[Ya y,passN_snoc]
   have ai:a.heap.size<wr.heap.size:=c.lt;have a0:∀i,wr.frozen? ⟨a,i,none⟩=false:=λi=>Blk.frozen c i;have m:=CA Ar cr r _ wr H (o.below C) c ab;obtain⟨l1,l2⟩:=P.left r H;obtain⟨f,F⟩:∃f:Nat,r.left=(f:Int):=⟨r.left.toNat,AA⟩;have J:Xs (Xo b) (G.rules.take (j+1)) N=if Xj b (Xs (Xo b) (G.rules.take j) N) r.right then (Xs (Xo b) (G.rules.take j) N).set f true else Xs (Xo b) (G.rules.take j) N:=by
    rw[I];unfold Qa Xo;rw[show r.left.toNat=f by omega]
   rw[F] at L;have a5:f<n2:=AA
   have T:=LH (c.put f true);have x:=LH J;have O:=LH c;have v:=LH d;have az:=c.at (i:=f) AA;generalize (Xs (Xo b) (G.rules.take j) N).getD f false=ba at *;generalize Xj b (Xs (Xo b) (G.rules.take j) N) r.right=tst at *;have u:=LH m;clear m I J c o d F l1 l2;rcases (by cases tst <;> simp:tst=false\/tst=true) with rfl | rfl
   ·go_wp2_with (go_at_call 111;refine u.out.mono ?_;rintro e w3⟨rfl,rfl⟩);go_roundw
    case rel=>exact⟨j+1,AA,AF,v,by rw[x];exact O⟩
    simp[intOf];omega
   go_wp2_with (go_at_call 111;refine u.out.mono ?_;rintro e w3⟨rfl,rfl⟩);go_roundw
   case rel=>exact⟨j+1,AA,AF,v.trans (Zn (Zd _ _ _ _) (DN ai) (AJ _)),by rw[x];exact T⟩
   simp[intOf];omega
  obtain rfl:j=n3:=AA
  rw[AR AA,S] at c;go_wp2_with fail;go_roundw
  case rel=>exact⟨k+1,AA,AF,d,c⟩
  simp[intOf];omega
 obtain rfl:k=n2:=AA
 have af:U5 b G=Z3 (Xs (Xo b) G.rules) k (List.replicate k false):=by unfold U5;rw[z]
 rw[<-af] at c;go_wp2_with fail;go_ret;exact⟨Zz n d,.inr ⟨U,a.heap.size,n.size,rfl,c⟩⟩
theorem rf_Nullable(h:GH)(G:Gr)(w:World)(n:Yf w h G)(f:h.n1<=100)(j:h.n2<=100)(k:h.n3<=100):
 Calls prog 113 #[GV h G.start] w λe w'=>Below w w w' /\
  ((G.right=false/\e = .returned (.slice none 0 0))\/(G.right=true/\∃g,w.heap.size<=g/\e = .returned (.slice (some ⟨g,0,none⟩) h.n2 h.n2)/\Z8 w' g (Zj G))):=by
 obtain⟨a1,n1,c1,a2,n2,c2,a3,n3,c3⟩:=h;simp only[] at f j k;have a:=Zy w (.cells #[.slice a1 n1 c1,.slice a2 n2 c2,.slice a3 n3 c3,.int .i64 G.start] 26);have m:=Y1.new w 26 ⟨a1,n1,c1,a2,n2,c2,a3,n3,c3⟩ G.start;go_enter func113,ntmps113;have⟨z5,z0,z1,z2,z3⟩:=m;simp only[] at z0 z1 z2 z3;go_wp2_with fail;generalize w.alloc (.cells #[.slice a1 n1 c1,.slice a2 n2 c2,.slice a3 n3 c3,.int .i64 G.start] 26)=d at *;(refine (Zsq ⟨a1,n1,c1,a2,n2,c2,a3,n3,c3⟩ G false d (n.below a) (by simp only[];omega) (by simp only[];omega) (by simp only[];omega)).mono ?_);rintro e p⟨c,⟨b,rfl⟩ | ⟨b,g,o,rfl,l⟩⟩
 ·go_wp2_with fail;go_ret;exact⟨Zz a c,.inl ⟨b,rfl⟩⟩
 go_wp2_with fail;go_ret;exact⟨Zz a c,.inr ⟨b,g,BD a.size o,rfl,l⟩⟩
theorem Qt(h:GH)(G:Gr)(w:World)(n:Yf w h G)(f:h.n1<=100)(j:h.n2<=100)(k:h.n3<=100):
 Calls prog 109 #[GV h G.start] w λe w'=>Below w w w' /\
  ((G.right=false/\e = .returned (.slice none 0 0))\/(G.right=true/\∃g,w.heap.size<=g/\e = .returned (.slice (some ⟨g,0,none⟩) h.n2 h.n2)/\Z8 w' g (Zt G))):=by
 obtain⟨a1,n1,c1,a2,n2,c2,a3,n3,c3⟩:=h;simp only[] at f j k;have a:=Zy w (.cells #[.slice a1 n1 c1,.slice a2 n2 c2,.slice a3 n3 c3,.int .i64 G.start] 26);have m:=Y1.new w 26 ⟨a1,n1,c1,a2,n2,c2,a3,n3,c3⟩ G.start;go_enter func109,ntmps109;have⟨z5,z0,z1,z2,z3⟩:=m;simp only[] at z0 z1 z2 z3;go_wp2_with fail;generalize w.alloc (.cells #[.slice a1 n1 c1,.slice a2 n2 c2,.slice a3 n3 c3,.int .i64 G.start] 26)=d at *;(refine (Zsq ⟨a1,n1,c1,a2,n2,c2,a3,n3,c3⟩ G true d (n.below a) (by simp only[];omega) (by simp only[];omega) (by simp only[];omega)).mono ?_);rintro e p⟨c,⟨b,rfl⟩ | ⟨b,g,o,rfl,l⟩⟩
 ·go_wp2_with fail;go_ret;exact⟨Zz a c,.inl ⟨b,rfl⟩⟩
 go_wp2_with fail;go_ret;exact⟨Zz a c,.inr ⟨b,g,BD a.size o,rfl,l⟩⟩
theorem Lw(h:GH)(G:Gr)(w:World)(x:Yf w h G)(h1:h.n1<=100)(h2:h.n2<=100)(h3:h.n3<=100):
 Calls prog 110 #[GV h G.start] w λe w'=>Below w w w' /\
  ((G.right=false/\e = .returned (.slice none 0 0))\/(G.right=true/\∃g,w.heap.size<=g/\e = .returned (.slice (some ⟨g,0,none⟩) h.n2 h.n2)/\Z8 w' g (Z5 G))):=by
 obtain⟨a1,n1,c1,a2,n2,c2,a3,n3,c3⟩:=h;have y:G.nons.length=n2:=x.nons.len;have e3:G.rules.length=n3:=x.rules.len;have k3:=x.rules.cap;have k2:=x.nons.cap;simp only[] at h1 h2 h3 k3 k2;have Hg:=LH x;have a9:=Zy w (.cells #[.slice a1 n1 c1,.slice a2 n2 c2,.slice a3 n3 c3,.int .i64 G.start] 26);have ak:=Y1.new w 26 ⟨a1,n1,c1,a2,n2,c2,a3,n3,c3⟩ G.start;have cx:=Nt n2 AA;clear x;go_enter func110,ntmps110;have⟨z5,z0,z1,z2,z3⟩:=ak;simp only[] at z0 z1 z2 z3;go_wp2_with fail;generalize w.alloc (.cells #[.slice a1 n1 c1,.slice a2 n2 c2,.slice a3 n3 c3,.int .i64 G.start] 26)=W0 at *;(with_reducible refine (Jr ⟨a1,n1,c1,a2,n2,c2,a3,n3,c3⟩ G W0 (Hg.out.below a9) (by simp only[];omega) (by simp only[];omega) (by simp only[];omega)).mono ?_);rintro e W1⟨rfl,bg⟩;have ai:=Zz a9 bg;have al:=ak.below bg;clear z0 z1 z2 z3 z5 ak;have⟨y5,y0,y1,y2,y3⟩:=al;simp only[] at y0 y1 y2 y3;rcases T:G.right with _ | _
 ·go_wp2_with fail;go_ret;exact⟨ai,.inl ⟨T,rfl⟩⟩
 have am:=Gr.fits T;have dn:=am.st;have a5:=LH T;have ab:=LH am;obtain⟨n,bs⟩:∃n:Nat,G.start=(n:Int):=⟨G.start.toNat,AA⟩;have cs:n<n2:=AA
 have aw:=LH bs;clear bs;have cP:=(Qt ⟨a1,n1,c1,a2,n2,c2,a3,n3,c3⟩ G W1 (Hg.out.below ai) (by simp only[];omega) (by simp only[];omega) (by simp only[];omega)).mono λe w' hh=>And.intro hh.1 (hh.2.resolve_left λhc=>by rw[a5.out] at hc;cases hc.1).2;have CP:=LH cP;clear T am cP;go_wp2_with fail;(with_reducible refine CP.out.mono ?_);rintro e f⟨bh,gp,dg,rfl,J⟩;have ba:=Zz ai bh;have P:=al.below bh;clear y0 y1 y2 y3 y5 al;have A:=Z8.new f (List.replicate n2 false);have I:=Zy f (.cells (Qk (List.replicate n2 false)).toArray 4);have ck:Z8 (f.alloc (.cells (Qk (List.replicate n2 false)).toArray 4)) gp (Zt G):=Blk.ext J I;have bi:=P.below I;have⟨y5,y0,y1,y2,y3⟩:=P;simp only[] at y0 y1 y2 y3;have cn:gp<f.heap.size:=J.lt;go_upto_region 5 with fail;generalize f.alloc (.cells (Qk (List.replicate n2 false)).toArray 4)=W3 at *;clear y0 y1 y2 y3 y5;have⟨y5,y0,y1,y2,y3⟩:=bi;simp only[] at y0 y1 y2 y3;rw[aw.out] at y3;have dp:=A.lt;have C:=Blk.frozen A n;have L:=A.at (i:=n) (by simpa using cs);have an:=A.put n true;have bc:=bD_set I (AJ _) f n (.bool true) (AJ _);have bv:Xv G=(List.replicate n2 false).set n true:=by unfold Xv;rw[y,aw.out];rfl
 rw[<-bv] at an;have H:=LH an;have b2:=LH bc;have b5:=LH J;have o:=LH ba;have ax:=LH P;clear an bc J ck I ba P bi bv cx A;have bu:(Xv G).length=n2:=by unfold Xv;simp[y]
 have cc:=LH bu;clear bu;go_wp2_with fail;generalize W3.setCell ⟨f,n,none⟩ (.bool true)=W4 at *;generalize bo:f.heap.size=a at *;have u:=LH bo;clear bo y0 y1 y2 y3 y5 C L;have dk:=H.out.lt;go_loopw [5] (λi wr=>∃k:Nat,k<=n2/\i = .int .i64 (k:Int)/\Hid (Below a f wr)/\Hid (Z8 wr a (Z3 (Yy (Yp (Zt G)) G.rules) k (Xv G)))) (λi _=>n2-(intOf i).toNat)
 case atStart=>exact⟨0,AV _,rfl,b2,H⟩
 obtain⟨k,hk,rfl,l,b⟩:=hrel;have B:=ax.out.below (by rw[u.out];exact l.out);have⟨y5,y0,y1,y2,y3⟩:=B;simp only[] at y0 y1 y2 y3;by_cases ct:k<n2
 case neg =>
  obtain rfl:k=n2:=AA
  have b6:Hid (Z5 G=Z3 (Yy (Yp (Zt G)) G.rules) k (Xv G)):=LH (by unfold Z5;rw[y]);go_wp2_with fail;go_ret;exact⟨o.out.trans (l.out.mono (by rw[<-u.out];exact o.out.size)),.inr ⟨a5.out,a,by rw[<-u.out];exact o.out.size,rfl,by rw[b6.out];exact b.out⟩⟩
 have bd:(Z3 (Yy (Yp (Zt G)) G.rules) k (Xv G)).length=n2:=by rw[Dw];exact cc.out
 have b9:Hid (Yy (Yp (Zt G)) G.rules (Z3 (Yy (Yp (Zt G)) G.rules) k (Xv G))=Z3 (Yy (Yp (Zt G)) G.rules) (k+1) (Xv G)):=rfl;generalize Z3 (Yy (Yp (Zt G)) G.rules) k (Xv G)=N at *;have b4:=LH bd;clear bd;go_wp2_with fail;clear y0 y1 y2 y3 y5 B;go_loopw [6] (λi t=>∃j:Nat,j<=n3/\i = .int .i64 (j:Int)/\Hid (Below a f t)/\Hid (Z8 t a (Yy (Yp (Zt G)) (G.rules.take j) N))) (λi _=>n3-(intOf i).toNat)
 case atStart=>exact⟨0,AV _,rfl,l,LH (by simpa [Yy] using b.out)⟩
 clear l b;obtain⟨j,hj,rfl,l,b⟩:=hrel;have B:=ax.out.below (by rw[u.out];exact l.out);have⟨y5,y0,y1,y2,y3⟩:=B;simp only[] at y0 y1 y2 y3;by_cases cp:j<n3
 case neg =>
  obtain rfl:j=n3:=AA
  have Hf:Hid (Z8 wr a (Z3 (Yy (Yp (Zt G)) G.rules) (k+1) (Xv G))):=LH (by rw[<-b9.out];have:=b.out;rw[AR AA] at this;exact this);go_wp2_with fail;go_roundw
  case rel=>exact⟨k+1,AA,AF,l,Hf⟩
  simp[intOf];omega
 have V:=LH (o.out.trans (l.out.mono (by rw[<-u.out];exact o.out.size)));obtain⟨bb,ds,r,Ar,cr,rfl,bf,Hr,q0,q1,q2,ao⟩:=Hg.out.rules.get cp;rw[<-V.out.cell (by exact bf)] at q0 q1 q2;have hb:bb<wr.heap.size:=AK bf V.out.size;have cb:=LH ao;have bt:=ao.below V.out;clear ao;have R:=AM Hr.out;have bk:(Yy (Yp (Zt G)) (G.rules.take j) N).length=n2:=by rw[passI_len'];exact b4.out
 have az:Hid (Yy (Yp (Zt G)) (G.rules.take (j+1)) N=Jz (Yy (Yp (Zt G)) (G.rules.take j) N) (Yp (Zt G) r (Yy (Yp (Zt G)) (G.rules.take j) N))):=LH (by rw[Ya Hr.out,Zwt];rfl);generalize Yy (Yp (Zt G)) (G.rules.take j) N=d at *;obtain⟨l1,l2⟩:=ab.out.left r R;obtain⟨c,bq⟩:∃c:Nat,r.left=(c:Int):=⟨r.left.toNat,AA⟩;have br:c<n2:=AA
 have dl:=ab.out.len r R;have aq:=ab.out.symB R;rw[y] at aq;rw[bq] at q0;have m:Dr (Zt G) r d=(d.getD c false&&Xj true (Zt G) r.right):=by unfold Dr;rw[show r.left.toNat=c by omega]
 have ay:=LH m;have ca:=LH bt;have a7:=LH aq;have Z:=LH bk;have O:=Zy wr (.cells #[.int .i64 (c:Int),.slice Ar r.right.length cr,.int .i64 r.prec] 52);have be:=Blk.new wr 52 #[.int .i64 (c:Int),.slice Ar r.right.length cr,.int .i64 r.prec];have co:a<wr.heap.size:=b.out.lt;clear m bt aq bk l1 l2 bq R;go_wp2_with fail;have E:Hid (Z8 (wr.alloc (.cells #[.int .i64 (c:Int),.slice Ar r.right.length cr,.int .i64 r.prec] 52)) a d):=Blk.ext b.out O;have U:=LH (l.out.trans (O.mono (DN co)));have Y:=LH be;have a4:=LH (ca.out.below O);have dq:=Zl wr (.cells #[.int .i64 (c:Int),.slice Ar r.right.length cr,.int .i64 r.prec] 52);generalize wr.alloc (.cells #[.int .i64 (c:Int),.slice Ar r.right.length cr,.int .i64 r.prec] 52)=v at *;generalize wr.heap.size=z at *;clear O be y0 y1 y2 y3 y5 q0 q1 q2 B b l;have cw:a<v.heap.size:=E.out.lt;have r0:v.cell? ⟨z,0,none⟩=some (.int .i64 (c:Int)):=Y.out.cell 0;have r1:v.cell? ⟨z,1,none⟩=some (.slice Ar r.right.length cr):=Y.out.cell 1;have de:=a4.out.cap;have CA:=LH λ(W:World) (M:List Bool) (hW:Below a f W) (hr:Za .i64 W Ar r.right.length cr r.right)=>rf_all Ar r.right.length cr gp n2 r.right (Zt G) true W hr (b5.out.below hW cn) (by rw[Vx];exact y) AA a7.out;rcases m:Dr (Zt G) r d with _ | _
 case false =>
  have ae:Hid (Yy (Yp (Zt G)) (G.rules.take (j+1)) N=d):=LH (by rw[az.out];unfold Yp;rw[m];rfl);have L:=E.out.at (i:=c) (by rw[Z.out];exact br);have p:=ay.out.symm.trans m;have av:=CA.out v d U.out a4.out;generalize d.getD c false=tl at *;generalize Xj true (Zt G) r.right=ta at *;have D:=LH av;clear m av;go_loopw [8] (λi t=>i = .int .i64 0/\v=t) (λi _=>0)
  case atStart=>exact⟨rfl,rfl⟩
  obtain⟨rfl,rfl⟩:=hrel;by_cases cv:r.right.length=0
  case' pos =>
   rw[cv] at r1;clear p;go_wp2_with fail
  case' neg =>
   have dj:0<r.right.length:=AA
   rcases (by cases tl <;> cases ta <;> simp at p ⊢:tl=false\/(tl=true/\ta=false)) with rfl | ⟨rfl,rfl⟩
   case' inl =>
    clear p;go_wp2_with fail
   case' inr =>
    clear p;go_wp2_with (go_at_call 111;(with_reducible refine D.out.mono ?_);rintro e w'⟨rfl,rfl⟩)
  all_goals
   go_roundw
   case rel=>exact⟨j+1,AA,AF,U,LH (by rw[ae.out];exact E.out)⟩
   simp[intOf];omega
 have p:=ay.out.symm.trans m;simp only[AS] at p;obtain⟨bm,bn⟩:=p;have ae:Hid (Yy (Yp (Zt G)) (G.rules.take (j+1)) N=Jz d (Uq r.right)):=LH (by rw[az.out];unfold Yp;rw[m];rfl);have b7:=LH bm;have b8:=LH bn;clear m bm bn;go_loopw [8] (λi t=>∃kk:Nat,kk<=r.right.length/\i = .int .i64 (kk:Int)/\Hid (Z8 t a (Jz d (Uq (r.right.take kk))))/\Hid (v.grownBy t (some a))) (λi _=>r.right.length-(intOf i).toNat)
 case atStart=>exact⟨0,AV _,rfl,E,LH (Jl _ _)⟩
 obtain⟨kk,ct,rfl,b,F⟩:=hrel;have cm:z≠a:=AA
 have aj:=Y.out.grown F.out (by intro e;injection e with e;exact cm e);have r0:wr.cell? ⟨z,0,none⟩=some (.int .i64 (c:Int)):=aj.cell 0;have r1:wr.cell? ⟨z,1,none⟩=some (.slice Ar r.right.length cr):=aj.cell 1;have X:=LH (U.out.trans (Zn F.out (DN cw) (AJ _)));have b3:=LH (o.out.trans (X.out.mono (by rw[<-u.out];exact o.out.size)));have bl:(Jz d (Uq (r.right.take kk))).length=n2:=by rw[Zwc];exact Z.out
 have L:=b.out.at (i:=c) (by rw[bl];exact br);rw[Zuy _ b7.out] at L;have ap:Za .i64 wr Ar r.right.length cr r.right:=cb.out.below b3.out;by_cases cu:kk<r.right.length
 case neg =>
  obtain rfl:kk=r.right.length:=AA
  have Hf:Hid (Z8 wr a (Jz d (Uq r.right))):=LH (by have:=b.out;rw[AR (AJ _)] at this;exact this);go_wp2_with fail;go_roundw
  case rel=>exact⟨j+1,AA,AF,X,LH (by rw[ae.out];exact Hf.out)⟩
  simp[intOf];omega
 have cA:=CA.out wr d X.out ap;rw[b8.out] at cA;have D:=LH cA;obtain⟨sb,so,s,rfl,dm,Hs,qs⟩:=ap.get cu;have c0:=a7.out s (AM Hs.out);have S:=Zxl Hs.out;have c9:=b;have C:=λq=>Blk.frozen b.out q;clear cA bl ap aj;by_cases h0:s<0
 ·obtain⟨q,cq,cy,dr⟩:=Vy h0 c0.1 AA;have df:=C q;have dc:=b.out.at (i:=q) (by rw[Zwc];rw[Z.out];exact cq);have H:Hid (Z8 (wr.setCell ⟨a,q,none⟩ (.bool true)) a (Jz d (Uq (r.right.take (kk+1))))):=LH (by
   rw[S,if_pos h0,Zw9,show (-1-s).toNat=q from cy];exact b.out.put q true)
  clear S C;go_wp2_with (go_at_call 111;(with_reducible refine D.out.mono ?_);rintro e w'⟨rfl,rfl⟩);go_roundw
  case rel=>exact⟨kk+1,AA,AF,H,LH (Zc F.out (Zd _ _ _ _))⟩
  simp[intOf];omega
 have cd:Hid (Z8 wr a (Jz d (Uq (r.right.take (kk+1))))):=LH (by rw[S,if_neg h0];exact b.out);clear S C;go_wp2_with (go_at_call 111;(with_reducible refine D.out.mono ?_);rintro e w'⟨rfl,rfl⟩);go_roundw
 case rel=>exact⟨kk+1,AA,AF,cd,F⟩
 simp[intOf];omega
theorem Zss(h:GH)(G:Gr)(w:World)(t:Yf w h G)(h1:h.n1<=100)(h2:h.n2<=100)(h3:h.n3<=100):
 Calls prog 61 #[GV h G.start] w λe w'=>Below w.heap.size w w' /\
  ((G.right=false/\e = .returned (.slice none 0 0))\/(G.right=true/\∃g,w.heap.size<=g/\e = .returned (.slice (some ⟨g,0,none⟩) h.n2 h.n2)/\V0 w' g (Yz G))):=by
 obtain⟨a1,n1,c1,a2,n2,c2,a3,n3,c3⟩:=h;have J:G.nons.length=n2:=t.nons.len;have e3:G.rules.length=n3:=t.rules.len;have k3:=t.rules.cap;have k2:=t.nons.cap;simp only[] at h1 h2 h3 k3 k2;have H:=LH t;have ad:=Zy w (.cells #[.slice a1 n1 c1,.slice a2 n2 c2,.slice a3 n3 c3,.int .i64 G.start] 26);have ah:=Y1.new w 26 ⟨a1,n1,c1,a2,n2,c2,a3,n3,c3⟩ G.start;have cz:=Zvx n2 AA;clear t;go_enter func61,ntmps61;have⟨z5,z0,z1,z2,z3⟩:=ah;simp only[] at z0 z1 z2 z3;go_wp2_with fail;generalize w.alloc (.cells #[.slice a1 n1 c1,.slice a2 n2 c2,.slice a3 n3 c3,.int .i64 G.start] 26)=W0 at *;(with_reducible refine (Jr ⟨a1,n1,c1,a2,n2,c2,a3,n3,c3⟩ G W0 (H.out.below ad) (by simp only[];omega) (by simp only[];omega) (by simp only[];omega)).mono ?_);rintro e l⟨rfl,af⟩;have A:=Zz ad af;have ai:=ah.below af;clear z0 z1 z2 z3 z5 ah;have⟨y5,y0,y1,y2,y3⟩:=ai;simp only[] at y0 y1 y2 y3;rcases S:G.right with _ | _
 ·go_wp2_with fail;go_ret;exact⟨A,.inl ⟨S,rfl⟩⟩
 have bn:=Gr.fits S;have W:=LH S;have U:=LH bn;have CN:=LH λX (f:Below l.heap.size l X)=>(rf_Nullable ⟨a1,n1,c1,a2,n2,c2,a3,n3,c3⟩ G X ((H.out.below A).below f) (by simp only[];omega) (by simp only[];omega) (by simp only[];omega)).mono λe w' o=>And.intro (Zz f o.1) (And.intro (LH o.1) (o.2.resolve_left λC=>by rw[W.out] at C;cases C.1).2);have CP:=LH λX (f:Below l.heap.size l X)=>(Qt ⟨a1,n1,c1,a2,n2,c2,a3,n3,c3⟩ G X ((H.out.below A).below f) (by simp only[];omega) (by simp only[];omega) (by simp only[];omega)).mono λe w' o=>And.intro (Zz f o.1) (And.intro (LH o.1) (o.2.resolve_left λC=>by rw[W.out] at C;cases C.1).2);have HS:Hid (∀d,Below l.heap.size l d->d.cell? ⟨w.heap.size,0,none⟩=some (.slice a1 n1 c1)/\d.cell? ⟨w.heap.size,1,none⟩=some (.slice a2 n2 c2)/\d.cell? ⟨w.heap.size,2,none⟩=some (.slice a3 n3 c3)/\d.cell? ⟨w.heap.size,3,none⟩=some (.int .i64 G.start)/\Below l.heap.size l d):=LH λd f=>⟨by rw[f.cell (by exact y5)];exact y0,by rw[f.cell (by exact y5)];exact y1,by rw[f.cell (by exact y5)];exact y2,by rw[f.cell (by exact y5)];exact y3,f⟩;have b3:=LH A;have ca:=LH ai;clear S bn A ai ad af;go_wp2_with fail;go_region_held3 (λd=>d.cell? ⟨w.heap.size,0,none⟩=some (.slice a1 n1 c1)/\d.cell? ⟨w.heap.size,1,none⟩=some (.slice a2 n2 c2)/\d.cell? ⟨w.heap.size,2,none⟩=some (.slice a3 n3 c3)/\d.cell? ⟨w.heap.size,3,none⟩=some (.int .i64 G.start)/\Below l.heap.size l d)
  ((refine HS.out _ ?_;(repeat (first | assumption | exact AL _ _ | refine Below.drew ?_ | refine Zo ?_ _ | refine Zg ?_ _ _ _ (by (first | exact AJ _ | exact DP _ | exact Below.size AH | exact Nat.le_succ_of_le (Below.size AH) | (simp;done) | omega))));done))
  (first
    | (go_at_call 113;refine (CN.out _ (by (repeat (first | assumption | exact AL _ _ | refine Below.drew ?_ | refine Zo ?_ _ | refine Zg ?_ _ _ _ (by (first | exact AJ _ | exact DP _ | exact Below.size AH | exact Nat.le_succ_of_le (Below.size AH) | (simp;done) | omega)))))).mono ?_;rintro e w2⟨cn,b9,gN,M,rfl,ax⟩)
    | (go_at_call 109;refine (CP.out _ (by (repeat (first | assumption | exact AL _ _ | refine Below.drew ?_ | refine Zo ?_ _ | refine Zg ?_ _ _ _ (by (first | exact AJ _ | exact DP _ | exact Below.size AH | exact Nat.le_succ_of_le (Below.size AH) | (simp;done) | omega)))))).mono ?_;rintro e m⟨ae,az,gP,N,rfl,ay⟩))
 have ar:Hid (Z8 m gN (Zj G)):=LH (Blk.hidden ax az);have au:Hid (Z8 m gP (Zt G)):=LH ay;have v:=LH (Zz b3.out ae);have a0:=LH (ca.out.below ae);clear cn b9 M ax az N ay ae CN CP HS y0 y1 y2 y3 y5;have⟨y5,y0,y1,y2,y3⟩:=a0.out;simp only[] at y0 y1 y2 y3;go_upto_region 5 with fail;have bh:=V0.new m (List.replicate n2 0);have be:=Zy m (.cells (nums .u32 (List.replicate n2 0)).toArray 49);generalize m.alloc (.cells (nums .u32 (List.replicate n2 0)).toArray 49)=W4 at *;generalize bo:m.heap.size=b at *;have y:=LH bo;have b8:=LH bh;have b4:=LH be;clear bo bh be y0 y1 y2 y3 y5 cz;go_wp2_with fail;go_loopw [6] (λi wr=>∃j:Nat,j<=n3/\i = .int .i64 (j:Int)/\Hid (Below b m wr)/\Hid (V0 wr b (Wo (Zj G) (Zt G) (G.rules.take j) (List.replicate n2 0)))) (λi _=>n3-(intOf i).toNat)
 case atStart=>exact⟨0,AV _,rfl,b4,LH (by simpa [Wo] using b8.out)⟩
 obtain⟨j,hj,rfl,D,k⟩:=hrel;have aj:m.heap.size=b:=y.out;have E:=LH (v.out.trans (D.out.mono (by rw[<-aj];exact v.out.size)));have bj:=a0.out.below (by rw[aj];exact D.out);have⟨y5,y0,y1,y2,y3⟩:=bj;simp only[] at y0 y1 y2 y3;clear aj;by_cases cu:j<n3
 case neg =>
  obtain rfl:j=n3:=AA
  have n:Hid (V0 wr b (Yz G)):=LH (by have:=k.out;rw[AR AA] at this;unfold Yz;rw[J];exact this);go_wp2_with fail;go_ret;exact⟨E.out,.inr ⟨W.out,b,by rw[<-y.out];exact v.out.size,rfl,n.out⟩⟩
 obtain⟨bb,dn,r,Ar,cr,rfl,bi,Hr,q0,q1,q2,bs⟩:=H.out.rules.get cu;rw[<-E.out.cell (by exact bi)] at q0 q1 q2;have f:bb<wr.heap.size:=AK bi E.out.size;have a7:=LH bs;have R:=AM Hr.out;have ce:Hid (Wo (Zj G) (Zt G) (G.rules.take (j+1)) (List.replicate n2 0)=Y2 (Zj G) (Zt G) r r.right.length (Wo (Zj G) (Zt G) (G.rules.take j) (List.replicate n2 0))):=LH (by rw[Ya Hr.out,Zz0]);have bk:(Wo (Zj G) (Zt G) (G.rules.take j) (List.replicate n2 0)).length=n2:=by rw[De];simp
 have bm:=Lm (Zj G) (Zt G) (G.rules.take j) (We.zero n2);generalize Wo (Zj G) (Zt G) (G.rules.take j) (List.replicate n2 0)=c at *;obtain⟨l1,l2⟩:=U.out.left r R;obtain⟨a,bq⟩:∃a:Nat,r.left=(a:Int):=⟨r.left.toNat,AA⟩;have cv:a<n2:=AA
 have cd:Hid (r.left.toNat=a):=LH AA;have dh:=U.out.len r R;have al:=U.out.symB R;rw[J] at al;rw[bq] at q0;have Z:=LH al;have cb:=LH bk;have cc:=LH bm;have ag:=Zy wr (.cells #[.int .i64 (a:Int),.slice Ar r.right.length cr,.int .i64 r.prec] 52);have bg:=Blk.new wr 52 #[.int .i64 (a:Int),.slice Ar r.right.length cr,.int .i64 r.prec];have O:b<wr.heap.size:=k.out.lt;clear bs al bk bm l1 l2 bq R bj;go_wp2_with fail;have aw:Hid (V0 (wr.alloc (.cells #[.int .i64 (a:Int),.slice Ar r.right.length cr,.int .i64 r.prec] 52)) b c):=LH (Blk.ext k.out ag);have b5:=LH (D.out.trans (ag.mono (DN O)));have b7:=LH bg;generalize wr.alloc (.cells #[.int .i64 (a:Int),.slice Ar r.right.length cr,.int .i64 r.prec] 52)=WA at *;generalize wr.heap.size=L at *;clear ag bg y0 y1 y2 y3 y5 q0 q1 q2 k D E;have cx:b<WA.heap.size:=aw.out.lt;have dc:=a7.out.cap;go_loopw [8] (λi wz=>∃kk:Nat,kk<=r.right.length/\i = .int .i64 (kk:Int)/\Hid (V0 wz b (Y2 (Zj G) (Zt G) r kk c))/\Hid (WA.grownBy wz (some b))) (λi _=>r.right.length-(intOf i).toNat)
 case atStart=>exact⟨0,AV _,rfl,aw,LH (Jl _ _)⟩
 obtain⟨kk,dg,rfl,k,p⟩:=hrel;have cs:L≠b:=AA
 have B:=b7.out.grown p.out (by intro e;injection e with e;exact cs e);have r0:wr.cell? ⟨L,0,none⟩=some (.int .i64 (a:Int)):=B.cell 0;have r1:wr.cell? ⟨L,1,none⟩=some (.slice Ar r.right.length cr):=B.cell 1;have db:L<wr.heap.size:=B.lt;have F:=LH (b5.out.trans (Zn p.out (DN cx) (AJ _)));have b6:=LH (v.out.trans (F.out.mono (by rw[<-y.out];exact v.out.size)));have q:(Y2 (Zj G) (Zt G) r kk c).length=n2:=by rw[Kb];exact cb.out
 have u:=N1 (Zj G) (Zt G) r cc.out kk;have V:=LH (a7.out.below b6.out);have O:b<wr.heap.size:=k.out.lt;by_cases cw:kk<r.right.length
 case neg =>
  obtain rfl:kk=r.right.length:=AA
  clear q u B;go_wp2_with fail;go_roundw
  case rel=>exact⟨j+1,AA,AF,F,LH (by rw[ce.out];exact k.out)⟩
  simp[intOf];omega
 obtain⟨sb,so,s,rfl,dk,Hs,qs⟩:=V.out.get cw;have dj:=Z.out s (AM Hs.out);have br:=Uk (Zj G) (Zt G) r kk c;have bp:Um (Zj G) (Zt G) r kk (Y2 (Zj G) (Zt G) r kk c)=if Xk (Zj G) (Zt G) r.right kk s then addAt a (Y6 (-1-s)) (Y2 (Zj G) (Zt G) r kk c) else Y2 (Zj G) (Zt G) r kk c:=by unfold Um;rw[Hs.out];simp only[cd.out]
 have a4:=LH (br.trans bp);have co:=k.out.at (i:=a) (by rw[q];exact cv);have M:gN<b:=by have:=ar.out.lt;rw[y.out] at this;exact this
 have N:gP<b:=by have:=au.out.lt;rw[y.out] at this;exact this
 have cA:=rf_alone (some ⟨sb,so,none⟩) r.right.length cr gN n2 kk r.right (Zj G) wr V.out (Blk.below ar.out F.out M) (by rw[Qe,Qq];exact J) AA Z.out AA AA;have cM:=rf_made (some ⟨sb,so,none⟩) r.right.length cr gP n2 r.right (Zt G) wr V.out (Blk.below au.out F.out N) (by rw[Vx];exact J) AA Z.out;have bt:Xk (Zj G) (Zt G) r.right kk s=(decide (s<0)&&J6 (Zj G) r.right kk&&Xj true (Zt G) r.right):=rfl;have I:=LH bt;generalize J6 (Zj G) r.right kk=T at *;generalize Xj true (Zt G) r.right=tm at *;have CA:=LH cA;have CM:=LH cM;clear br bp cA cM bt M N B;have skip:Xk (Zj G) (Zt G) r.right kk s=false->Hid (V0 wr b (Y2 (Zj G) (Zt G) r (kk+1) c)):=λhf=>LH (by rw[a4.out,hf];exact k.out);have Y:=LH skip;clear skip;by_cases h0:0<=s
 ·have n:=Y.out (by rw[I.out,show decide (s<0)=false by rw[BA];omega];rfl);clear q u;go_wp2_with fail;go_roundw
  case rel=>exact⟨kk+1,AA,AF,n,p⟩
  simp[intOf];omega
 have ak:decide (s<0)=true:=by rw[BB];omega
 rcases (by cases T <;> cases tm <;> simp:T=false\/(T=true/\tm=false)\/(T=true/\tm=true)) with rfl | ⟨rfl,rfl⟩ | ⟨rfl,rfl⟩
 ·have n:=Y.out (by rw[I.out,ak];rfl);clear q u;go_wp2_with (go_at_call 114;(with_reducible refine CA.out.mono ?_);rintro e w'⟨rfl,rfl⟩);go_roundw
  case rel=>exact⟨kk+1,AA,AF,n,p⟩
  simp[intOf];omega
 ·have n:=Y.out (by rw[I.out,ak];rfl);clear q u;go_wp2_with (first
   | (go_at_call 114;(with_reducible refine CA.out.mono ?_);rintro e w'⟨rfl,rfl⟩)
   | (go_at_call 115;(with_reducible refine CM.out.mono ?_);rintro e w'⟨rfl,rfl⟩))
  go_roundw
  case rel=>exact⟨kk+1,AA,AF,n,p⟩
  simp[intOf];omega
 have bu:Xk (Zj G) (Zt G) r.right kk s=true:=by rw[I.out,ak];rfl
 have a5:Hid (Y2 (Zj G) (Zt G) r (kk+1) c=addAt a (Y6 (-1-s)) (Y2 (Zj G) (Zt G) r kk c)):=LH (by rw[a4.out,bu];rfl);have dm:IntKind.i64.wrap (-1-s)=-1-s:=BS _ AA;have cy:=u.get a;have ct:=Ua (-1-s);have di:=or32 ((Y2 (Zj G) (Zt G) r kk c).getD a 0) (Y6 (-1-s)) cy ct;have cf:=LH λx:Ext wr=>V0.put (Blk.ext k.out (Zr wr x):V0 (bl wr x) b (Y2 (Zj G) (Zt G) r kk c)) a ((Y2 (Zj G) (Zt G) r kk c).getD a 0 ||| Y6 (-1-s));have cq:=Blk.frozen k.out a;have CB:=LH λx:Ext wr=>Ch (-1-s) (bl wr x);unfold addAt at a5;generalize (Y2 (Zj G) (Zt G) r kk c).getD a 0 ||| Y6 (-1-s)=z at *
 generalize (Y2 (Zj G) (Zt G) r kk c).getD a 0=dp at *;generalize Y6 (-1-s)=bv at *;have bc:=Yt wr;have bf:=Kh wr;clear bu q u;go_wp2_with (first
  | (go_at_call 114;(with_reducible refine CA.out.mono ?_);rintro e w'⟨rfl,rfl⟩)
  | (go_at_call 115;(with_reducible refine CM.out.mono ?_);rintro e w'⟨rfl,rfl⟩))
 refine Yx 17 AB AB ?_;simp only[List.take_succ_cons,List.take_zero,List.drop_succ_cons,Ee];repeat (go_big_quiet_step ((go_at_call 63;with_reducible exact Qo (CB.out _))))
 refine BK ?_;rintro _⟨x,rfl⟩;have dd:=(bc x b a O).trans co;have de:=(bf x b a O).trans cq;have dl:=Lb wr x;go_wp2_with fail;go_roundw
 case rel=>exact⟨kk+1,AA,AF,LH (by rw[a5.out];exact cf.out x),LH (Zc (Zc p.out (Xz _ (Zr wr x))) (Zd _ _ _ _))⟩
 simp[intOf];omega
def Dh(G:Gr)(w:World)(e:Ending)(w':World):Prop:=Below w.heap.size w w' /\
 ((Xp G=false/\∃b:Int,b≠0/\e = .returned (.tuple #[GV noH 0,.slice none 0 0,.int .i64 b])) \/
  (Xp G=true/\∃a c f d,e = .returned (.tuple #[GV a (Zi G).start,.slice c f d,.int .i64 0])/\Yf w' a (Zi G)/\a.n1<=24/\a.n2<=16/\a.n3<=40))
theorem Zyo.plain{G:Gr}{w:World}{e:Ending}(h:Zyo G w e w'):Dh G w e w':=by
 obtain⟨h1,a|⟨a,d,b,m,c,f,g,j,k,l,_⟩⟩:=h
 ·exact⟨h1,.inl a⟩
 exact⟨h1,.inr ⟨a,d,b,m,c,f,g,j,k,l⟩⟩
noncomputable def Q9(G:Gr):Bool:=Xp G&&eqG G (Zi G)
theorem Zzn{G:Gr}:Q9 G=true↔Xp G=true/\Zi G=G:=by
 unfold Q9;rw[AS,Ztp];exact⟨λh=>⟨h.1,h.2.symm⟩,λh=>⟨h.1,h.2.symm⟩⟩
open Classical in
noncomputable def Wi(G:Gr)(l:List Int)(n:Int):List Nat × Nat :=
 if Q9 G=false\/6<l.length\/n<0\/10<n\/(∃s∈l,G.has s=false) then ([],1)
 else if Vh G≠0 then ([],10) else Xm (Zx (Zv G) l n.toNat)
def B5:Prop:=∀(h:GH) (G:Gr) (w:World),Yf w h G->(∀t∈G.terms,t.name.size<=maxLen)->h.n1<=100->h.n2<=100->h.n3<=100->
    Calls Tryz.prog 88 #[GV h G.start] w λe w'=>Below w.heap.size w w' /\
     ((G.right=false/\e = .returned (.slice none 0 0))\/(G.right=true/\∃g,w.heap.size<=g/\e = .returned (.slice (some ⟨g,0,none⟩) h.n2 h.n2)/\V0 w' g (Yz G)))
theorem Jc.start(w:World)(B N:Nat)(tab:Nat->Nat->Nat):Jc w B none 0 0 N [] tab:=⟨BJ _ _ _ _,λg h=>(by cases h),List.nodup_nil,λm g h=>by simp at h⟩
theorem Jc.off{S:Nat->Prop}{w:World}{B:Nat}{A:Option Addr}{c N:Nat}{d:List Nat}{tab:Nat->Nat->Nat}(h:Jc w B A n c N d tab)(f:Off S w w')(h1:∀b,(Value.slice A n c).ownBlock=some b->¬S b)(j:∀g∈d,¬S g)(k:Zf w w'):Jc w' B A n c N d tab :=
 ⟨f.row h.own h1,λg a=>(h.noInt g a).same (f.keep g (h.own.lt g a).2 (h1 g a)),h.nodup,λm g a=>⟨(h.row m g a).1,(h.row m g a).2.kept k (f.keep g (h.row m g a).2.lt (j g (AM a)))⟩⟩
theorem tr_cof1(h:GH)(G:Gr)(c:Nat)(s:Int)(w:World)(g:Yf w h G)(j:U3 s)(h1:h.n1<=1000)(d:h.n2<=1000)(k:Y1 w c h G.start):
 Calls prog 45 #[.int .i64 s,.pointer (some ⟨c,0,none⟩)] w λe w'=>e = .returned (.bool (!G.has s))/\Below w w w':=by
 have a:=cf_has h G s w g j h1 d;generalize G.has s=b at *;obtain⟨a1,n1,c1,a2,n2,c2,a3,n3,c3⟩:=h;have⟨z5,z0,z1,z2,z3⟩:=k;simp only[] at z0 z1 z2 z3;have CH:=LH a;clear a;go_enter func45,ntmps45;go_wp2_with fail;refine CH.out.mono ?_;rintro e l⟨rfl,f⟩;go_wp2_with fail;go_ret;exact⟨rfl,f⟩
open Classical in
noncomputable def Z2(G:Gr)(n:Int):List Nat × Nat :=
 if G.right=false\/n<0\/10<n then ([],1) else if Xp G=false then ([],0) else Wi (Zi G) [-1-(Zi G).start] n
theorem Zsk{G:Gr}(a:G.right=true):0<=G.start/\G.start<(G.nons.length:Int)/\G.nons.length<=16:=by
 have b:=Gr.fits a;obtain⟨_,_,_,c,_⟩:=Nd.1 a;have:=b.n2;omega
theorem cnt_of{G:Gr}(b:G.right=true)(d:n<=10)(a:Xp G=true)(hi:Zi G=G)(c:G.start=0):Z2 G (n:Int)=Wi G [-1] (n:Int):=by
 unfold Z2;rw[if_neg,if_neg (by rw[a];simp),hi,c]
 ·rfl
 rintro (h | h | h)
 ·rw[b] at h;cases h
 ·omega
 omega
def V9(G:Gr)(n:Int)(a:List Nat)(c:List Nat)(b:Nat):Prop :=
 (badU G n a/\c=[]/\b=1) \/
 (¬badU G n a/\(Z2 G n).2≠0/\c=[]/\b=(Z2 G n).2) \/
 (¬badU G n a/\(Z2 G n).2=0/\val (Z2 G n).1<=val a/\c=[]/\b=11) \/
 (¬badU G n a/\(Z2 G n).2=0/\val a<val (Z2 G n).1/\∃t,UnT (Zi G) (Zi G).start.toNat n.toNat (val a) t /\
   ((300<t.length/\c=[]/\b=13)\/(t.length<=300/\c=t.map (Yr G)/\b=0)))
def Qp(G:Gr)(n:Int)(f:List Nat)(w:World)(e:Ending)(w':World):Prop:=Below w.heap.size w w' /\
 ∃(a:List Nat) (d:Nat) (b:Option Addr) (c:Nat),e = .returned (.tuple #[.slice b a.length c,.int .i64 (d:Int)])/\Za .i64 w' b a.length c (a.map λi:Nat=>(i:Int))/\V9 G n f a d
theorem UnT.kept{G:Gr}{a r d j:Nat}{u v:List Nat}(h:UnT (Zi G) a n r u)(f:UnT (Zi G) d g j v)(e:u.map (Yr G)=v.map (Yr G)):u=v:=by
 have b:=h.inside.2;have c:=f.inside.2;rw[Fu] at b c;exact Zv9 b c e
theorem Fa{H:Gr}(a:H.Fits):-1-H.start<0/\Zp (-1-H.start)=H.start.toNat/\Zp (-1-H.start)<H.nons.length:=by
 have:=a.st;have e:Zp (-1-H.start)=H.start.toNat:=by unfold Zp;omega
 exact⟨AA,e,by rw[e];omega⟩
theorem start22:(Zi Xt).start.toNat=0:=by rw[Fh];rfl
section
open Ieee
def Xl(G:Gr)(t:List Int):Option (List Int × List Int × Nat) :=
 if G.right&&decide (t.length<=300) then
  match Y0 G t.length ⟨t,[],[]⟩ G.start with
  | none=>none
  | some (st,n)=>if st.rest=[] then some (st.word,st.posts,n) else none
 else none
theorem Zz4{G:Gr}{k:Nat}(h:Xl G t=some (wd,ps,k)):G.right=true/\t.length<=300/\Fs G [-1-G.start] t ps wd k:=by
 unfold Xl at h;split at h
 ·rename_i b;rw[AS,BB] at b;split at h
  ·cases h
  rename_i q n j;split at h
  ·rename_i g;simp only[BR,DM] at h;obtain⟨rfl,rfl,rfl⟩:=h;obtain⟨i,r,o,p,w1,m,a1,a2,a3,f,a,c,d⟩:=Zz3 _ _ _ _ _ j;have l:=(Gr.fits b.1).st;have:=Fs.non (s:=-1-G.start) (ss:=[]) AA a1 AA a3 .nil;simp only[DH] at this;rw[g,DH] at a;simp only[DD] at c d;simp only[] at a;rw[a,c,d,f];refine⟨b.1,by rw[<-a];exact b.2,?_⟩;rw[show max (m+1) 0=m+1 by omega] at this;exact this
  cases h
 cases h
end
section
open Go.Maps (Keyed IsMap Tidy)
structure Wd (W0:World) (k:BkH) (h:GH) (G:Gr) (S:Nat->Prop) (w:World):Prop where
 base:Below W0.heap.size W0 w
 box:Blk w k.c 170 #[.slice h.a1 h.n1 h.c1,.slice h.a2 h.n2 h.c2,.slice h.a3 h.n3 h.c3,.int .i64 G.start,.map (some k.t)]
 low:W0.heap.size<=k.t
 known:∃ts,Gk w k.t G S ts
theorem Wd.map_noInt{w:World}{k:BkH}{h:GH}{G:Gr}{S:Nat->Prop}(C:Wd a k h G S w):Qf w k.t:=by
 obtain⟨ts,b⟩:=C.known;exact b.map.noInt
theorem Wd.keep{w:World}{k:BkH}{h:GH}{G:Gr}{S:Nat->Prop}(C:Wd a k h G S w)(c:Off k.map w w'):Zf w w':=Zf.of_off c λg b=>by rw[b];exact C.map_noInt
theorem Wd.not_map{w:World}{k:BkH}{h:GH}{G:Gr}{S:Nat->Prop}(C:Wd a k h G S w){t:TypeId}{cs:Array Value}(b:Blk w g t cs):¬k.map g:=by
 obtain⟨ts,c⟩:=C.known;exact λe=>c.map.ne_blk b e
theorem Wd.map_lt{w:World}{k:BkH}{h:GH}{G:Gr}{S:Nat->Prop}(C:Wd a k h G S w):k.t<w.heap.size:=by
 obtain⟨ts,b⟩:=C.known;exact b.map.lt
theorem Wd.move{g w:World}{k:BkH}{h:GH}{G:Gr}{S P:Nat->Prop}(C:Wd g k h G S w)(f:Off P w w')(l:Zf w w')(h1:∀b,P b->S b/\g.heap.size<=b/\b≠k.c/\b≠k.t):Wd g k h G S w':=by
 have m:=C.map_lt;refine⟨C.base.trans (f.is_below C.base.size λb j=>(h1 b j).2.1),f.blk C.box λa=>(h1 _ a).2.2.1 rfl,C.low,?_⟩;obtain⟨ts,d⟩:=C.known;exact⟨ts,d.map.block (f.keep _ m λa=>(h1 _ a).2.2.2 rfl),d.key,λp a=>⟨(d.val p a).1.kept l (f.keep _ (d.val p a).1.lt λj=>(d.val p a).2 (h1 _ j).1),(d.val p a).2⟩⟩
theorem Wd.less{c w:World}{k:BkH}{h:GH}{G:Gr}{S S':Nat->Prop}(C:Wd c k h G S w)(f:∀b,S' b->S b):Wd c k h G S' w:=by
 refine⟨C.base,C.box,C.low,?_⟩;obtain⟨ts,a⟩:=C.known;exact⟨ts,a.map,a.key,λp d=>⟨(a.val p d).1,λh1=>(a.val p d).2 (f _ h1)⟩⟩
theorem Wd.put{o w:World}{k:BkH}{h:GH}{G:Gr}{S:Nat->Prop}(C:Wd o k h G S w)(j:Gk w k.t G S ts){l:List Int}(D:J1 l n)(m:Fx w g (Zx (Zv G) l n))(z:¬S g)(a:Vv prog 223 w' k.t ((kB l n,g)::ts.map λp=>(kB p.1.1 p.1.2,p.2)))(B:w.grownBy w' (some k.t)):Wd o k h G S w'/\Off k.map w w'/\Gk w' k.t G S (((l,n),g)::ts):=by
 have f:Off (λq=>some k.t=some q) w w':=Off.of_grown B;have E:Zf w w':=Zf.of_off f λq b=>by injection b with b;rw[<-b];exact j.map.noInt
 have u:∀{q:Nat} {t:TypeId} {cs:Array Value},Blk w q t cs->Blk w' q t cs:=λr=>f.blk r λe=>by injection e with e;exact j.map.ne_blk r e.symm
 have v:∀{q x:Nat},Fx w q x->Fx w' q x:=λ{q x} m=>by
  obtain⟨A,n,c,d,h1,y⟩:=m;exact⟨A,n,c,d,u h1,y.kept E⟩
 have s:Gk w' k.t G S (((l,n),g)::ts):=by
  refine⟨by simpa using a,λp a=>?_,λp a=>?_⟩
  ·rcases BV.1 a with e | a
   ·rw[e];exact D
   exact j.key p a
  rcases BV.1 a with e | a
  ·rw[e];exact⟨v m,z⟩
  exact⟨v (j.val p a).1,(j.val p a).2⟩
 exact⟨⟨C.base.trans (f.is_below C.base.size λq b=>by injection b with b;rw[<-b];exact C.low),u C.box,C.low,_,s⟩,⟨f.os,f.tape,f.output,f.size,λq b F=>f.keep q b λe=>F (by injection e with e;exact e.symm)⟩,s⟩
structure Zxy (G:Gr):Prop where
 red:Q9 G=true
 cyc:Vh G=0
theorem Zt8{G:Gr}{l:List Int}(h:(Wi G l (n:Int)).2=0):Zxy G/\l.length<=6/\n<=10/\(∀s∈l,G.has s=true)/\Zx (Zv G) l n<big:=by
 unfold Wi at h;split at h
 ·cases h
 rename_i h1;split at h
 ·cases h
 rename_i b;refine⟨⟨?_,?_⟩,?_,?_,?_,?_⟩
 ·cases d:Q9 G
  ·exact absurd (.inl d) h1
  rfl
 ·exact DW b
 ·exact DW λa=>h1 (.inr (.inl AA))
 ·exact DW λa=>h1 (.inr (.inr (.inr (.inl AA))))
 ·intro s f;cases c:G.has s
  ·exact absurd (.inr (.inr (.inr (.inr ⟨s,f,c⟩)))) h1
  rfl
 rw[DC] at h;unfold Xm at h;exact DW λa=>by rw[if_neg a] at h;cases h
theorem Zua{G:Gr}(a:Zxy G){l:List Int}(d:l.length<=6)(f:n<=10)(b:∀s∈l,G.has s=true):Wi G l (n:Int)=Xm (Zx (Zv G) l n):=by
 unfold Wi;rw[if_neg,if_neg (by rw[a.cyc];exact λh=>h rfl),DC];rintro (h | h | h | h | ⟨s,c,h⟩)
 ·rw[a.red] at h;cases h
 ·omega
 ·omega
 ·omega
 rw[b s c] at h;cases h
end
section
open Go.Maps (Keyed IsMap Tidy)
open Go.Maps (Keyed IsMap Tidy)
def Zuw(a:World)(k:BkH)(h:GH)(G:Gr)(S:Nat->Prop)(w:World)(x:Nat)(e:Ending)(w':World):Prop :=
 Wd a k h G S w'/\Off k.map w w'/\∃A n c d,e = .returned (.agg #[.slice A n c,.bool d])/\Z1 w' A n c d x
structure BkG (W0:World) (h:GH) (G:Gr):Prop where
 told:Zxy G
 at_:Yf W0 h G
 names:∀t∈G.terms,t.name.size<=maxLen
 tab:Q2 W0
 n1:h.n1<=100
 n2:h.n2<=100
 n3:h.n3<=100
theorem Zxm{f w W:World}{k:BkH}{h:GH}{G:Gr}{S S':Nat->Prop}{x:Nat}{A:Option Addr}{c:Nat}{b:Bool}{n0 c0:Nat}{b0:Bool}(C:Wd f k h G S' W)(a:Blk W g 174 #[.slice A0 n0 c0,.bool b0])(s:Z1 W A n c b x)(m:Off k.map w W)(o:S' g)(h0:f.heap.size<=g)(t:w.heap.size<=g)(r:∀q,S q->S' q):
 Blk ((W.setCell ⟨g,0,none⟩ (.slice A n c)).setCell ⟨g,1,none⟩ (.bool b)) g 174 #[.slice A n c,.bool b]/\Zuw f k h G S w x (.returned (.agg #[.slice A n c,.bool b])) ((W.setCell ⟨g,0,none⟩ (.slice A n c)).setCell ⟨g,1,none⟩ (.bool b)):=by
 have j:Off (λq=>q=g) W ((W.setCell ⟨g,0,none⟩ (.slice A n c)).setCell ⟨g,1,none⟩ (.bool b)):=(Off.of_set W g 0 (.slice A n c)).trans (Off.of_set _ g 1 (.bool b)) λ_ _ h=>h;have l:Zf W ((W.setCell ⟨g,0,none⟩ (.slice A n c)).setCell ⟨g,1,none⟩ (.bool b)):=Zf.of_off j λq d=>by rw[d];exact Jk a
 have p:=C.not_map a;refine⟨(a.set 0 _).set 1 _,(C.move j l λq d=>?_).less r,m.trans j λq d e=>AA,A,n,c,b,rfl,s.kept l⟩;subst d;refine⟨o,h0,?_,p⟩;rintro rfl;have h1:=C.box;unfold Blk at h1 a;rw[h1] at a;injection a with a;injection a with _ h3 _;exact absurd h3 AC
structure PM (W0:World) (k:BkH) (h:GH) (G:Gr) (S':Nat->Prop) (w:World) (gR:Nat) (b:Nat->Bool) (u:Nat->Value) (X:World):Prop where
 ex:∃S2,Wd W0 k h G S2 X/\(∀q,S' q->S2 q)/\(∀q,S2 q->q<X.heap.size)/\(b 12=true->Cel S2 gR X (u 12) (b 14) (u 4))/\(b 13=true->Cel S2 gR X (u 13) (b 15) (u 11))
 off:Off k.map w X
 res:Blk X gR 174 #[.slice none 0 0,.bool false]
 ne:b 12=true->b 13=true->u 12≠u 13
end
section
open Go.Maps (Keyed IsMap Tidy)
open Go.Maps (Keyed IsMap Tidy)
variable {P:Program} {Γ:Type} {R:World->World->Prop}
def Zw(P:Program)(l:List Oper)(M:Γ->(Nat->Bool)->(Nat->Value)->World->Prop)(R:World->World->Prop)(F:(Nat->Value)->Act)(D:Nat->Value->World->Prop):Nat->List Oper->Prop
 | _,[]=>True
 | i,o::rest=>(o.guard=none/\(∀u v,(F u).put o.dst v=F (upd u i v))/\∀(Q:Exit->Act->World->Prop) (g:Γ) (b:Nat->Bool) (u:Nat->Value) (X:World),G9 l b->b i=false->M g b u X->(∀p,onB o p=true->b p=true/\D p (u p) X)->
    ∀K:Act->World->Prop,(∀v c a,R X a->M c (Mz b i) (upd u i v) a->D i v a->K ((F u).put o.dst v) a)->o.wp P (F u) X K Q)/\Zw P l M R F D (i+1) rest
theorem Zw.nil{M:Γ->(Nat->Bool)->(Nat->Value)->World->Prop}:Zw P l M R F D i []:=trivial
theorem Zw.cons{M:Γ->(Nat->Bool)->(Nat->Value)->World->Prop}(d:o.guard=none)(f:∀u v,(F u).put o.dst v=F (upd u i v))(h:∀(Q:Exit->Act->World->Prop) (g:Γ) (b:Nat->Bool) (u:Nat->Value) (X:World),G9 l b->b i=false->M g b u X->(∀p,onB o p=true->b p=true/\D p (u p) X)->∀K:Act->World->Prop,(∀v c a,R X a->M c (Mz b i) (upd u i v) a->D i v a->K ((F u).put o.dst v) a)->o.wp P (F u) X K Q)(t:Zw P l M R F D (i+1) rest):Zw P l M R F D i (o::rest):=⟨⟨d,f,h⟩,t⟩
theorem Zw.con{M:Γ->(Nat->Bool)->(Nat->Value)->World->Prop}(h:∀(Q:Exit->Act->World->Prop) (g:Γ) (b:Nat->Bool) (u:Nat->Value) (X:World),G9 l b->b i=false->M g b u X->(∀p,onB o p=true->b p=true/\D p (u p) X)->∀K:Act->World->Prop,(∀v c a,R X a->M c (Mz b i) (upd u i v) a->D i v a->K ((F u).put o.dst v) a)->o.wp P (F u) X K Q)(t:Zw P l M R F D (i+1) rest)(d:o.guard=none:=by rfl)(f:∀u v,(F u).put o.dst v=F (upd u i v):=by exact λ_ _=>rfl):Zw P l M R F D i (o::rest):=Zw.cons d f h t
theorem Zw.steps{M:Γ->(Nat->Bool)->(Nat->Value)->World->Prop}(r:∀i v X f,D i v X->R X f->D i v f):
 ∀(m:List Oper) (i:Nat),(∀j,j<m.length->m[j]? = l[i+j]?)->i+m.length=l.length->Zw P l M R F D i m->Xc P (JG l M F D) i m
 | [],i,_,hl,_=>trivial
 | o::m,i,hm,hl,hs=>by
   have J:l[i]? = some o:=by simpa using (hm 0 AE).symm
   refine Xc.cons hs.1.1 (λQ listed a X y O L K z=>?_) (Zw.steps r m (i+1) (λj c=>by have:=hm (j+1) AG;simpa [Ea,Eo 1 j] using this) (by simp only[AZ] at hl;omega) hs.2);obtain⟨u,g,rfl,N,s,A,hd⟩:=y;obtain⟨h,I⟩:=Zu4 O;have q:∀p,onB o p=true->listed.getD p false=true:=λp b=>by
    obtain⟨e,G,E,rfl⟩:=Zyf.1 b;exact L e G E
   have H:(λj=>(listed.setIfInBounds i true).getD j false)=Mz (λj=>listed.getD j false) i:=by
    funext j;rw[Uj h];rfl
   refine hs.1.2.2 Q g _ u X s I A (λp b=>⟨q p b,hd p (q p b)⟩) K λv x f C B S=>?_;refine z _ _ ⟨upd u i v,x,hs.1.2.1 u v,by simpa using N,?_,by rw[H];exact B,λj c=>?_⟩
   ·intro j T n c p b;show (listed.setIfInBounds i true).getD p false=true;have k:(listed.setIfInBounds i true).getD j false=true:=c;rw[Uj h] at k ⊢;by_cases t:p=i
    ·rw[if_pos t]
    rw[if_neg t];by_cases d:j=i
    ·subst d;rw[J] at n;obtain rfl:=BI n;exact q p b
    rw[if_neg d] at k;exact s j T n k p b
   rw[Uj h] at c;unfold upd;by_cases d:j=i
   ·subst d;rw[if_pos rfl];exact S
   rw[if_neg d] at c ⊢;exact r j _ X f (hd j c) C
theorem wp_region_free{a:Act}{w:World}(M:Γ->(Nat->Bool)->(Nat->Value)->World->Prop)(R:World->World->Prop)(g0:Γ)(F:(Nat->Value)->Act)(u0:List Value)(D:List (Value->World->Prop))(s:P.follows .mixedOrders=true)(p:Zvw l.toArray=true)(m:a=F λi=>u0.getD i undef)(f:M g0 (λ_=>false) (λi=>u0.getD i undef) w.drew)(c:Zwm R D)(t:Zw P l M R F (atL D) 0 l)(q:∀g b u X,(∀i,i<l.length->b i=true)->M g b u X->(∀i,i<l.length->atL D i (u i) X)->Q .normal (F u) X):(Code.region id l.toArray true).wp P Q a w:=by
 have v:(λi=>(Array.replicate l.length false).getD i false)=λ_:Nat=>false:=by
  funext i;simp[Array.getD]
 refine H6 (JG l M F (atL D)) s p ⟨_,g0,m,AE,λi o _ h=>?_,by rw[v];exact f,λi h=>?_⟩ ?_ λlisted a X d n=>?_
 ·simp[Array.getD] at h
 ·simp[Array.getD] at h
 ·exact Zw.steps c.at l 0 (λj _=>by rw[BH]) (BH _) t
 obtain⟨u,g,rfl,x,_,k,hd⟩:=d;have hi:∀i,i<l.length->listed.getD i false=true:=λi hi=>by
  have h1:=n i hi;have r:i<listed.size:=AA
  simp only[Array.getD,dif_pos r] at h1 ⊢;exact h1
 exact q g _ u X hi k λi h=>hd i (hi i h)
end
section
open Go.Maps (Keyed IsMap Tidy)
open Go.Maps (Keyed IsMap Tidy)
variable {W0:World} {k:BkH} {h:GH} {G:Gr} {S':Nat->Prop} {w:World} {gR:Nat} {b:Nat->Bool} {u:Nat->Value} {X:World}
theorem PM.idle(H:PM W0 k h G S' w gR b u X)(i:Nat)(v:Value)(hi:i≠4/\i≠11/\i≠12/\i≠13/\i≠14/\i≠15):PM W0 k h G S' w gR (Mz b i) (upd u i v) X:=by
 obtain⟨n,o,a,c,p,q⟩:=hi;obtain⟨⟨d,a1,a2,a3,f,g⟩,j,l,m⟩:=H;refine⟨⟨d,a1,a2,a3,?_,?_⟩,j,l,?_⟩
 ·rw[Ys (Ne.symm a),Ys (Ne.symm p),Yj (Ne.symm a),Yj (Ne.symm n)];exact f
 ·rw[Ys (Ne.symm c),Ys (Ne.symm q),Yj (Ne.symm c),Yj (Ne.symm o)];exact g
 rw[Ys (Ne.symm a),Ys (Ne.symm c),Yj (Ne.symm a),Yj (Ne.symm c)];exact m
theorem PM.asked(H:PM W0 k h G S' w gR b u X)(i:Nat)(hi:i=4/\b 14=false\/i=11/\b 15=false):(∃a,Wd W0 k h G a X/\(∀q,a q->q<X.heap.size)/\∀f v,Wd W0 k h G a f->Off k.map X f->PM W0 k h G S' w gR (Mz b i) (upd u i v) f):=by
 obtain⟨⟨a,a1,a2,a3,C,D⟩,E,F,I⟩:=H;refine⟨a,a1,a3,λf v J y=>?_⟩;have m:12≠i:=AA
 have o:13≠i:=AA
 have L:14≠i:=AA
 have M:15≠i:=AA
 have z:∀g t cs,Blk X g t cs->Blk f g t cs:=λg t cs B=>y.blk B (a1.not_map B);refine⟨⟨a,J,a2,λq l=>AK (a3 q l) y.size,?_,?_⟩,E.map_trans y,z _ _ _ F,?_⟩
 ·rw[Ys m,Ys L,Yj m];intro x;have h1:=(C x).mono (λq l=>l) λg t cs _=>z g t cs;rcases hi with ⟨rfl,j⟩ | ⟨rfl,j⟩
  ·rw[j] at h1 ⊢;obtain⟨g,A,n,c,d,e,p,r,s,_⟩:=h1;exact⟨g,A,n,c,d,e,p,r,s,nofun⟩
  rw[Yj AA];exact h1
 ·rw[Ys o,Ys M,Yj o];intro x;have h1:=(D x).mono (λq l=>l) λg t cs _=>z g t cs;rcases hi with ⟨rfl,j⟩ | ⟨rfl,j⟩
  ·rw[Yj AA];exact h1
  rw[j] at h1 ⊢;obtain⟨g,A,n,c,d,e,p,r,s,_⟩:=h1;exact⟨g,A,n,c,d,e,p,r,s,nofun⟩
 rw[Ys m,Ys o,Yj m,Yj o];exact I
theorem PM.wrote(H:PM W0 k h G S' w gR b u X)(i j p:Nat)(hi:i=14/\j=12/\p=4\/i=15/\j=13/\p=11)(x:b j=true){A:Option Addr}{c:Nat}{d:Bool}(hp:u p = .agg #[.slice A n c,.bool d])(hw:w.heap.size<=gR)(af:W0.heap.size<=gR):
 ∃g A0 n0 c0 C,u j = .pointer (some ⟨g,0,none⟩)/\Blk X g 174 #[.slice A0 n0 c0,.bool C]/\∀v,PM W0 k h G S' w gR (Mz b i) (upd u i v) ((X.setCell ⟨g,0,none⟩ (.slice A n c)).setCell ⟨g,1,none⟩ (.bool d))/\Zf X ((X.setCell ⟨g,0,none⟩ (.slice A n c)).setCell ⟨g,1,none⟩ (.bool d)):=by
 obtain⟨⟨o,a1,a2,a3,D,E⟩,M,N,B⟩:=H;have U:Cel o gR X (u j) false undef:=by
  rcases hi with ⟨rfl,rfl,rfl⟩ | ⟨rfl,rfl,rfl⟩
  ·obtain⟨g,A,n,c,d,e,r,l,a,_⟩:=D x;exact⟨g,A,n,c,d,e,r,l,a,nofun⟩
  obtain⟨g,A,n,c,d,e,r,l,a,_⟩:=E x;exact⟨g,A,n,c,d,e,r,l,a,nofun⟩
 obtain⟨g,A0,n0,c0,C,e,r,l,a,_⟩:=U;refine⟨g,A0,n0,c0,C,e,a,λv=>?_⟩;have m:Off (λq=>q=g) X ((X.setCell ⟨g,0,none⟩ (.slice A n c)).setCell ⟨g,1,none⟩ (.bool d)):=(Off.of_set X g 0 (.slice A n c)).trans (Off.of_set _ g 1 (.bool d)) λ_ _ h=>h;have F:Zf X ((X.setCell ⟨g,0,none⟩ (.slice A n c)).setCell ⟨g,1,none⟩ (.bool d)):=Zf.of_off m λq f=>by rw[f];exact Jk a
 have P:Blk ((X.setCell ⟨g,0,none⟩ (.slice A n c)).setCell ⟨g,1,none⟩ (.bool d)) g 174 #[.slice A n c,.bool d]:=(a.set 0 _).set 1 _;have V:g≠k.c:=by
  rintro rfl;have h1:=a1.box;unfold Blk at h1 a;rw[h1] at a;injection a with a;injection a with _ h3 _;exact absurd h3 AC
 have W:=a1.not_map a;have S:=a1.move m F λq f=>by subst f;exact⟨l,AA,V,W⟩
 have Z:=M.trans m λq f e=>AA
 have i1:4≠i:=AA
 have i2:11≠i:=AA
 have y:12≠i:=AA
 have z:13≠i:=AA
 have I:∀{v:Value} {s:Bool} {L:Value},v≠u j->Cel o gR X v s L->Cel o gR ((X.setCell ⟨g,0,none⟩ (.slice A n c)).setCell ⟨g,1,none⟩ (.bool d)) v s L:=λY T=>T.mono (λq f=>f) λg' t cs O R=>m.blk R (by rintro rfl;exact Y (O.trans e.symm));have J:∀(s:Bool),Cel o gR ((X.setCell ⟨g,0,none⟩ (.slice A n c)).setCell ⟨g,1,none⟩ (.bool d)) (u j) s (u p):=λs=>⟨g,A,n,c,d,e,r,l,P,λ_=>hp⟩;refine⟨⟨⟨o,S,a2,λq f=>AK (a3 q f) m.size,?_,?_⟩,Z,m.blk N (λe=>AA),?_⟩,F⟩
 ·rw[Ys y,Yj y,Yj i1];rcases hi with ⟨rfl,rfl,rfl⟩ | ⟨rfl,rfl,rfl⟩
  ·exact λ_=>J _
  rw[Ys AA];exact λh=>I (B h x) (D h)
 ·rw[Ys z,Yj z,Yj i2];rcases hi with ⟨rfl,rfl,rfl⟩ | ⟨rfl,rfl,rfl⟩
  ·rw[Ys AA];exact λh=>I (B x h).symm (E h)
  exact λ_=>J _
 rw[Ys y,Yj y,Ys z,Yj z];exact B
theorem Zu.of_off{S:Nat->Prop}{w:World}(h:Off S w w')(a:∀g,S g->∀o z,w.cell? ⟨g,o,none⟩≠some (Value.int .u32 z)):Zu w w':=⟨h.size,λb c ⟨o,z,d⟩=>h.keep b c λf=>a b f o z d⟩
theorem Wd.moveN{j w:World}{k:BkH}{h:GH}{G:Gr}{S P:Nat->Prop}(C:Wd j k h G S w)(g:Off P w w')(q:Zu w w')(h1:∀b,P b->S b/\j.heap.size<=b/\b≠k.c/\b≠k.t):Wd j k h G S w':=by
 have r:=C.map_lt;refine⟨C.base.trans (g.is_below C.base.size λb l=>(h1 b l).2.1),g.blk C.box λa=>(h1 _ a).2.2.1 rfl,C.low,?_⟩;obtain⟨ts,f⟩:=C.known;refine⟨ts,f.map.block (g.keep _ r λa=>(h1 _ a).2.2.2 rfl),f.key,λp a=>⟨?_,(f.val p a).2⟩⟩;obtain⟨A,n,c,d,m,o⟩:=(f.val p a).1;exact⟨A,n,c,d,(g.keep _ m.lt λl=>(f.val p a).2 (h1 _ l).1).trans m,o.nkept q⟩
theorem M4.off{S:Nat->Prop}{w:World}{base:Nat}{A:Option Addr}{c:Nat}(h:M4 w base A n c xs)(f:Off S w w')(d:∀g,(Value.slice A n c).ownBlock=some g->¬S g):M4 w' base A n c xs :=
 ⟨f.row h.1 d,λg b o v j=>h.2 g b o v ((DL (a:=⟨g,o,none⟩) (f.keep g (h.1.lt g b).2 (d g b))).symm.trans j)⟩
end
theorem UnL.ex{G:Gr}(g:Xq G):∀(l:List Int) (n r:Nat),(∀(d:Nat) (s:Int) (m k:Nat),l[d]? = some s->s<0->m<=n->k+Uy (Zj G) (l.drop (d+1))<=m->(m=n->∀(p:Nat) q,p<d->l[p]? = some q->Xg (Zj G) q=true)->∀q,q<Zv G s k->∃t,UnT G (Zp s) k q t)->r<Zx (Zv G) l n->∃t,UnL G l n r t
 | [],n,r,_,h=>by
   unfold Zx at h;split at h
   ·rename_i h0;subst h0;obtain rfl:r=0:=AA
    exact⟨[],.nil⟩
   ·omega
 | s::l,n,r,hT,h=>by
   rw[<-Jn] at h;obtain⟨k,v,O,rfl,x⟩:=Zwn h;have f:0<Zx (Zv G) l (n-k):=by
    rcases DJ (Zx (Zv G) l (n-k)) with h0 | h0
    ·rw[h0,Nat.mul_zero] at x;omega
    exact h0
   have o:0<Zv G s k:=by
    rcases DJ (Zv G s k) with h0 | h0
    ·rw[h0,Nat.zero_mul] at x;omega
    exact h0
   have R:Uy (Zj G) l<=n-k:=by
    rcases BC (n-k) (Uy (Zj G) l) with h1 | h1
    ·rw[Kn (λs h=>Jw g h) h1] at f;omega
    exact h1
   have J:v % Zx (Zv G) l (n-k)<Zx (Zv G) l (n-k):=Nat.mod_lt _ f;have b:v / Zx (Zv G) l (n-k)<Zv G s k:=by rw[Nat.div_lt_iff_lt_mul f];exact x
   obtain⟨B,c⟩:=UnL.ex g l (n-k) (v % Zx (Zv G) l (n-k)) (λd q m j hd u S F E L I=>hT (d+1) q m j (by simpa using hd) u AA (by simpa using F) (λN p A y z=>by
    cases p with
    | zero =>
      obtain rfl:s=A:=by simpa using z
      obtain rfl:k=0:=AA
      exact Jw g AA
    | succ p=>exact E AA p A AA (by simpa using z)) L I) J
   have a:=Nat.div_add_mod v (Zx (Zv G) l (n-k));by_cases h0:0<=s
   ·rw[Xb G h0] at b o;have H:k=1:=by
     unfold K0 at o;split at o
     ·assumption
     omega
    subst H;have u:v / Zx (Zv G) l (n-1)=0:=by have C:K0 1=1:=rfl;rw[C] at b;exact Nat.lt_one_iff.1 b
    rw[u,Nat.mul_zero,BH] at a;have D:Yv (Zv G) s l n 1=0:=by
     rw[Xy,Ug,Xb G h0];simp[K0]
    rw[a] at c;refine⟨B,?_⟩;have:=UnL.term h0 c;rw[show n-1+1=n by omega] at this;rw[D,BH];exact this
   obtain⟨M,h1⟩:=hT 0 s n k rfl AA (AJ _) (by simpa using (AA:k+Uy (Zj G) l<=n)) (λ_ p q y=>absurd y AA) _ b;have:=UnL.non' AA h1 c;rw[show k+(n-k)=n by omega] at this;refine⟨M++B,?_⟩;rw[Ei] at a;rw[Ea,a] at this;exact this
theorem Wd.wide{f w:World}{k:BkH}{h:GH}{G:Gr}{S P:Nat->Prop}(C:Wd f k h G S w)(j:∀q,P q->∀cs,¬Blk w q 174 cs):Wd f k h G (λq=>S q\/P q) w:=by
 refine⟨C.base,C.box,C.low,?_⟩;obtain⟨ts,a⟩:=C.known;refine⟨ts,a.map,a.key,λp b=>⟨(a.val p b).1,?_⟩⟩;rintro (h1 | h1)
 ·exact (a.val p b).2 h1
 obtain⟨A,n,c,d,g,_⟩:=(a.val p b).1;exact j _ h1 _ g
structure Me (W0:World) (k:BkH) (h:GH) (G:Gr) (mk:Nat) (cs:List Nat) (S:Nat->Prop) (A:Option Addr) (c:Nat) (W:World):Prop where
 bk:Wd W0 k h G S W
 box:Blk W mk 116 #[.pointer (some ⟨k.c,0,none⟩),.slice A cs.length c]
 row:M4 W W0.heap.size A cs.length c (cs.map λi:Nat=>(i:Int))
 own:S mk/\∀g,(Value.slice A cs.length c).ownBlock=some g->S g
 lt:∀q,S q->q<W.heap.size
 low:W0.heap.size<=mk
 few:cs.length<=300
def MkAt(a:World)(k:BkH)(h:GH)(G:Gr)(mk:Nat)(cs:List Nat)(W:World):Prop:=∃S A c,Me a k h G mk cs S A c W
def MkRet(a:World)(k:BkH)(h:GH)(G:Gr)(mk:Nat)(cs t:List Nat)(w:World)(e:Ending)(w':World):Prop :=
 Zu w w'/\((cs.length+t.length<=300/\e = .returned (.bool true)/\MkAt a k h G mk (cs++t) w')\/(300<cs.length+t.length/\e = .returned (.bool false)/\Below a.heap.size a w'))
def FC(a:World)(k:BkH)(h:GH)(G:Gr)(m:Nat):Prop:=∀(mk:Nat) (cs:List Nat) (l:List Int) (n r:Nat) (t:List Nat) (Al:Option Addr) (b:Nat) (Ar:Option Addr) (cr:Nat) (w:World),t.length<=m->UnL G l n r t->InG G l->Zx (Zv G) l n<big->J1 l n->(∀s∈l,G.has s=true)->Za .i64 a Al l.length b l->Zq .u32 w Ar (limbs r).length cr (limbs r)->MkAt a k h G mk cs w->
 Calls Tryz.prog 130 #[.pointer (some ⟨mk,0,none⟩),.slice Al l.length b,.int .i64 (n:Int),.slice Ar (limbs r).length cr] w (MkRet a k h G mk cs t w)
def TC(a:World)(k:BkH)(h:GH)(G:Gr)(m:Nat):Prop:=∀(mk:Nat) (cs:List Nat) (s:Int) (n r:Nat) (t:List Nat) (Ar:Option Addr) (cr:Nat) (w:World),t.length<=m->s<0->Zp s<G.nons.length->UnT G (Zp s) n r t->Zv G s n<big->n<=10->Zq .u32 w Ar (limbs r).length cr (limbs r)->MkAt a k h G mk cs w->
 Calls Tryz.prog 77 #[.pointer (some ⟨mk,0,none⟩),.int .i64 (Zp s:Int),.int .i64 (n:Int),.slice Ar (limbs r).length cr] w (MkRet a k h G mk cs t w)
structure Cc (W0:World) (k:BkH) (h:GH) (G:Gr) (tk:Nat) (z:List Int) (S:Nat->Prop) (A:Option Addr) (c:Nat) (W:World):Prop where
 bk:Wd W0 k h G S W
 box:Blk W tk 108 #[.pointer (some ⟨k.c,0,none⟩),.slice A z.length c]
 row:Za .i64 W A z.length c z
 own:S tk
 lt:∀q,S q->q<W.heap.size
 low:W0.heap.size<=tk
def TlAt(a:World)(k:BkH)(h:GH)(G:Gr)(b:Nat)(z:List Int)(W:World):Prop:=∃S A c,Cc a k h G b z S A c W
def TlRet(a:World)(k:BkH)(h:GH)(G:Gr)(b:Nat)(z:List Int)(n r:Nat)(w:World)(e:Ending)(w':World):Prop :=
 ∃A c,e = .returned (.tuple #[.slice A (limbs r).length c,.int .i64 (n:Int)])/\Zq .u32 w' A (limbs r).length c (limbs r)/\TlAt a k h G b z w'/\Zf w w'
def FT(a:World)(k:BkH)(h:GH)(G:Gr)(m:Nat):Prop:=∀(b:Nat) (l:List Int) (n r:Nat) (t:List Nat) (z:List Int) (Al:Option Addr) (d:Nat) (w:World),t.length<=m->UnL G l n r t->InG G l->Zx (Zv G) l n<big->J1 l n->(∀s∈l,G.has s=true)->Za .i64 a Al l.length d l->TlAt a k h G b (t.map (λi:Nat=>(i:Int))++z) w->
 Calls Tryz.prog 123 #[.pointer (some ⟨b,0,none⟩),.slice Al l.length d] w (TlRet a k h G b z n r w)
def TT(b:World)(k:BkH)(h:GH)(G:Gr)(m:Nat):Prop:=∀(a:Nat) (s:Int) (n r:Nat) (t:List Nat) (z:List Int) (w:World),t.length<=m->s<0->Zp s<G.nons.length->UnT G (Zp s) n r t->Zv G s n<big->n<=10->TlAt b k h G a (t.map (λi:Nat=>(i:Int))++z) w->
 Calls Tryz.prog 73 #[.pointer (some ⟨a,0,none⟩)] w (TlRet b k h G a z n r w)
theorem Kg(G:Gr)(n:Int):Lim (Z2 G n).1/\((Z2 G n).2=0->Zm (Z2 G n).1=true):=by
 have h0:Zm ([]:List Nat)=true:=AC
 have a:∀x,Lim (Xm x).1/\Zm (Xm x).1=true:=λx=>by
  rcases F8 x with ⟨b,e⟩ | ⟨b,e⟩
  ·rw[e];exact⟨Z9 x,Ym x b⟩
  rw[e];exact⟨Lim.nil,h0⟩
 unfold Z2 Wi;split
 ·exact⟨Lim.nil,λ_=>h0⟩
 split
 ·exact⟨Lim.nil,λ_=>h0⟩
 split
 ·exact⟨Lim.nil,λ_=>h0⟩
 split
 ·exact⟨Lim.nil,λ_=>h0⟩
 exact⟨(a _).1,λ_=>(a _).2⟩
theorem Qp.no{G:Gr}{n:Int}{b:List Nat}{w:World}{a:Nat}(c:Below w w w')(h:V9 G n b [] a):Qp G n b w (.returned (.tuple #[.slice none 0 0,.int .i64 (a:Int)])) w' :=
 ⟨c,[],a,none,0,rfl,Za.nil _ _ _ _ AA,h⟩
def Vj(G:Gr)(t:List Int)(b:List Nat)(a:Nat):Prop :=
 (Xl G t=none/\b=[]/\a=1)\/∃wd ps k,Xl G t=some (wd,ps,k) /\
   ((10<wd.length/\b=[]/\a=5)\/(wd.length<=10/\(Z2 G (wd.length:Int)).2≠0/\b=[]/\a=(Z2 G (wd.length:Int)).2) \/
     (wd.length<=10/\(Z2 G (wd.length:Int)).2=0/\a=0/\∃u r,UnT (Zi G) (Zi G).start.toNat wd.length r u/\t=(u.map (Yr G)).map (λi:Nat=>(i:Int))/\b=limbs r))
theorem Ztb{G:Gr}{k:Nat}(h:Xl G t=some (wd,ps,k)):Xp G=true:=by
 obtain⟨a,_,c⟩:=Zz4 h;have b:=Ztu (Gr.fits a) c (-1-G.start) (AX ..) (Fa (Gr.fits a)).1;rw[(Fa (Gr.fits a)).2.1] at b;unfold Xp;rw[a,b];rfl
theorem valcell_set{l:Option Addr}{ns cs:Nat}{m:Bool}(d:Blk a g 46 #[.slice l ns cs,.bool m])(A:Option Addr)(n c:Nat)(b:Bool):
 Off (λk=>k=g) a ((a.setCell ⟨g,0,none⟩ (.slice A n c)).setCell ⟨g,1,none⟩ (.bool b)) /\
 Blk ((a.setCell ⟨g,0,none⟩ (.slice A n c)).setCell ⟨g,1,none⟩ (.bool b)) g 46 #[.slice A n c,.bool b]/\Zf a ((a.setCell ⟨g,0,none⟩ (.slice A n c)).setCell ⟨g,1,none⟩ (.bool b)):=by
 have j:Off (λk=>k=g) a ((a.setCell ⟨g,0,none⟩ (.slice A n c)).setCell ⟨g,1,none⟩ (.bool b)):=(Off.of_set a g 0 (.slice A n c)).trans (Off.of_set _ g 1 (.bool b)) λ_ _ h=>h;refine⟨j,(d.set 0 _).set 1 _,Zf.of_off j λq p=>?_⟩;rw[p];intro o k z f;rw[d.cell o] at f;rcases o with _ | _ | o <;> cases f
section
variable {W0:World} {k:BkH} {h:GH} {G:Gr} {mk:Nat} {cs:List Nat} {S:Nat->Prop} {A:Option Addr} {c:Nat} {W:World}
theorem Me.ne_c(M:Me W0 k h G mk cs S A c W):mk≠k.c:=λe=>by
 have h1:=M.bk.box;rw[<-e] at h1;exact absurd (h1.same_ty M.box) AC
end
section
variable {P:Program} {Γ:Type} {R:World->World->Prop}
theorem Zyv(g:backA l=true)(m:∀i o,l.toArray[i]? = some o->∀(listed:Array Bool) (a:Act) (w:World),J listed a w->listed.getD i true=false->(∀e∈o.after,Region.binds .any e=true->listed.getD e.on false=true)->
   ∀K:Act->World->Prop,(∀c w',J (listed.setIfInBounds i true) c w'->K c w')->if Region.wanted o (yielded l.toArray a.tmps) then o.wp P a w K Q else K (a.put o.dst undef) w)(j:∀(listed:Array Bool) (a:Act) (w:World),J listed a w->(∀i,i<l.length->listed.getD i true=true)->Q .normal a w):
 ∀(fuel:Nat) (listed:Array Bool) (a:Act) (w:World),leftN l.toArray.size listed<=fuel->J listed a w->wpAny P .any l.toArray Q fuel listed a w
 | 0,listed,a,w,hl,hJ=>by
   have d:Region.ready .any l.toArray listed=[]:=by
    rw[List.eq_nil_iff_forall_not_mem];intro i hi;obtain⟨f,o,b,_⟩:=mem_ready.1 hi;have:=F6 (n:=l.toArray.size) (Array.getElem?_eq_some_iff.1 b).1 f;omega
   exact⟨d,j listed a w hJ (Zzk g d)⟩
 | fuel+1,listed,a,w,hl,hJ=>by
   refine⟨λd=>j listed a w hJ (Zzk g d),λi hi=>?_⟩;obtain⟨f,o,b,p⟩:=mem_ready.1 hi;have q:=F6 (n:=l.toArray.size) (Array.getElem?_eq_some_iff.1 b).1 f;have h1:=m i o b listed a w hJ f p (wpAny P .any l.toArray Q fuel (listed.setIfInBounds i true)) (λc w' h=>Zyv g m j fuel _ c w' AA h);unfold wpOp;simp only[b];split
   ·rename_i k;rw[if_pos k] at h1;exact .inl h1
   rename_i k;rw[if_neg k] at h1;exact h1
theorem wp_region_invA{a:Act}{w:World}(J:Array Bool->Act->World->Prop)(m:P.follows .mixedOrders=true)(g:backA l=true)(h0:J (Array.replicate l.length false) a w.drew)(c:Xc P J 0 l)(j:∀(listed:Array Bool) (a:Act) (w:World),J listed a w->(∀i,i<l.length->listed.getD i true=true)->Q .normal a w):(Code.region id l.toArray true).wp P Q a w:=by
 have c:=c.inv (ops:=l.toArray) (Q:=Q);refine wp_region_any m ?_;refine Zyv g (λi o n listed a w b q p K f=>?_) (λlisted a w b h=>j listed a w b h) _ _ _ _ ?_ (by simpa using h0)
 ·have:=Xw.at (k:=i) c (by simpa using n) listed a w b (by rw[BH];exact q) p K (λd w' h=>f d w' (by rw[BH] at h;exact h));exact this
 exact BD (List.length_filter_le _ _) AE
theorem Yi{a:Act}{w:World}(M:Γ->(Nat->Bool)->(Nat->Value)->World->Prop)(R:World->World->Prop)(g0:Γ)(F:(Nat->Value)->Act)(u0:List Value)(D:List (Value->World->Prop))(s:P.follows .mixedOrders=true)(p:backA l=true)(m:a=F λi=>u0.getD i undef)(f:M g0 (λ_=>false) (λi=>u0.getD i undef) w.drew)(c:Zwm R D)(t:Zw P l M R F (atL D) 0 l)(q:∀g b u X,(∀i,i<l.length->b i=true)->M g b u X->(∀i,i<l.length->atL D i (u i) X)->Q .normal (F u) X):(Code.region id l.toArray true).wp P Q a w:=by
 have v:(λi=>(Array.replicate l.length false).getD i false)=λ_:Nat=>false:=by
  funext i;simp[Array.getD]
 refine wp_region_invA (JG l M F (atL D)) s p ⟨_,g0,m,AE,λi o _ h=>?_,by rw[v];exact f,λi h=>?_⟩ ?_ λlisted a X d n=>?_
 ·simp[Array.getD] at h
 ·simp[Array.getD] at h
 ·exact Zw.steps c.at l 0 (λj _=>by rw[BH]) (BH _) t
 obtain⟨u,g,rfl,x,_,k,hd⟩:=d;have hi:∀i,i<l.length->listed.getD i false=true:=λi hi=>by
  have h1:=n i hi;have r:i<listed.size:=AA
  simp only[Array.getD,dif_pos r] at h1 ⊢;exact h1
 exact q g _ u X hi k λi h=>hd i (hi i h)
end
section
variable {w:World}
theorem wpl_span{a:Act}(f:o.guard=none)(x:Operand)(g:o.op = .field 174 x 0)(A:Option Addr)(n c:Nat)(d:Bool)(j:a.eval x = .agg #[.slice A n c,.bool d])(h:wpList prog ops Q rest (a.put o.dst (.slice A n c)) w):wpList prog ops Q (o::rest) a w:=by
 refine wpList_plain f λK b=>?_;unfold Oper.wp execOp;simp only[g,j];go_simp;exact b _ _ h
end
section
open Go.Shelf
def Jj(G:Gr)(t:List Int)(w:World)(e:Ending)(w':World):Prop:=Below w.heap.size w w' /\
 ∃(a:List Nat) (d:Nat) (b:Option Addr) (c:Nat),e = .returned (.tuple #[.slice b a.length c,.int .i64 (d:Int)])/\Zq .u32 w' b a.length c a/\Vj G t a d
theorem Jj.no{G:Gr}{w:World}{a:Nat}(b:Below w w w')(h:Vj G t [] a):Jj G t w (.returned (.tuple #[.slice none 0 0,.int .i64 (a:Int)])) w' :=
 ⟨b,[],a,none,0,rfl,Zq.nil _ _ _ _ AE,h⟩
end
section
open Go.Shelf
open Go.ChangeShapes Go.WideShapes Go.ChangeAt Go.RowKit
theorem Nj.ints{k:IntKind}{w:World}{a:Option Addr}{len cap:Nat}{c:List Int}(h:Nj k w a len cap c):
 ∃xs:List Int,Za k w a len cap xs/\∀x∈xs,(Lit.int k x).wf=true:=by
 rcases h with ⟨rfl,rfl,rfl,rfl⟩ | ⟨x,rfl,p,q,A,l,t⟩
 ·exact⟨[],Za.nil _ _ _ _ AE,λx u=>by cases u⟩
 have g:(c.take len).length=len:=by rw[BY];omega
 have o:∀j,j<len->(c.take len)[j]? = some (c.getD j 0):=λj d=>by
  rw[En,if_pos d,AP,AN AA];rfl
 refine⟨c.take len,⟨?_,p,by simpa [maxLen] using q,λr=>?_⟩,λz v=>t z (List.mem_of_mem_take v)⟩
 ·rw[Y9,g]
 rw[Y9,g] at r;obtain⟨b,f,y⟩:=x;have h0:=l 0 AA;have s:y=none:=by simpa [Addr.add] using World.cell?_spot h0
 subst s;have n:w.cell? ⟨b,f,none⟩=some (.int k (c.getD 0 0)):=by simpa [Addr.add] using h0
 refine⟨b,f,rfl,Zyg n,λj d=>?_⟩;rw[Y9,g] at d;have m:=l j AA;have e:(⟨b,f,none⟩:Addr).add j=⟨b,f+j,none⟩:=by
  unfold Addr.add;split
  ·rename_i h0;subst h0;rfl
  rfl
 rw[e] at m;rw[m];simp only[Go.Proofs.YtggbjdmpjidhgaaGreatDoor.ints,By,o j d,Ek]
end
section
open Go.Shelf
open Go.ChangeShapes Go.WideShapes Go.ChangeAt Go.RowKit
open Go.ChangeShapes Go.WideShapes Go.ChangeAt Go.RowKit
open Go.ChangeShapes Go.WideShapes Go.ChangeAt Go.RowKit Go.Lib Go.Deep
open Go.ChangeShapes Go.WideShapes Go.ChangeAt Go.RowKit Go.Lib Go.Deep
variable {H:Type} {enc:TypeId × Value->H} {w:World} {base:Nat} {held:Bool}
theorem open_intsG{x:DataW H × List MemPlace}(h:DataW.trod enc prog w base (λ_=>true) held fuel 27 [v]=some x):
 ∃A n c f,v = .slice A n c/\Za .i64 w A n c f/\∀z∈f,U3 z:=by
 rcases open_ints underlying27 underlying3 AB h with ⟨b,_⟩ | ⟨a,len,cap,f,b,_,l,m,d,_,j,p⟩
 ·simp at b;exact⟨none,0,0,[],b,Za.nil _ _ _ _ AA,λz d=>by cases d⟩
 simp at b;obtain⟨xs,g,o⟩:=Nj.ints (k := .i64) (w:=w) (.inr ⟨a,rfl,l,m,by simpa using d,j,p⟩:Nj .i64 w (some a) len cap f);exact⟨some a,len,cap,xs,b,g,λz d=>bounds_i64 (o z d)⟩
theorem open_strsG{x:DataW H × List MemPlace}(h:DataW.trod enc prog w base (λ_=>true) held fuel 23 [v]=some x):
 ∃A n c ss,v = .slice A n c/\Js w A n c ss:=by
 rcases open_strings underlying23 underlying9 AB h with ⟨b,_⟩ | ⟨a,l,c,ss,b,_,f,g,j,_,d,_⟩
 ·simp at b;exact⟨none,0,0,[],b,Sl.nil _ _ _ AC⟩
 simp at b;exact⟨some a,l,c,_,b,Js.of_row f g (by simpa using j) d⟩
theorem open_rules{x:DataW H × List MemPlace}(h:DataW.trod enc prog w base (λ_=>true) held fuel 24 [v]=some x):
 ∃A n c E,v = .slice A n c/\Dv w A n c E/\∀r∈E,∀s∈r.right,U3 s:=by
 rcases open_slice underlying24 h with ⟨g,_⟩ | ⟨a,len,cap,m,n,D,X,g,_,J,L,M,_,P⟩
 ·simp at g;exact⟨none,0,0,[],g,⟨rfl,AJ _,AA,λh=>AA⟩,λt d=>by cases d⟩
 simp at g;have Z:len<=m:=by rw[M];split <;> omega
 have each:∀i,∃r:Rul,i<len->(w.cell? (a.add (i*3))=some (.int .i64 r.left)/\(∃Ar cr,w.cell? (a.add (i*3+1))=some (.slice Ar r.right.length cr)/\Za .i64 w Ar r.right.length cr r.right)/\w.cell? (a.add (i*3+2))=some (.int .i64 r.prec)/\∀s∈r.right,U3 s):=λi=>by
  by_cases hi:i<len
  ·obtain⟨Y,h1,I⟩:=P i AA;have u:prog.cellsOf 52=3:=AB
   rw[u] at h1;obtain⟨v0,v1,v2,y0,y1,y2,k,S,T,U,g0,F,G⟩:=elem3 underlying52 u rfl rfl rfl AB AB AB h1 I;obtain⟨n1,y,_,_⟩:=DataW.trod_int underlying3 g0;obtain⟨Ar,nr,cr,W,rfl,l,O⟩:=open_intsG F;obtain⟨n2,z,_,_⟩:=DataW.trod_int underlying3 G;simp at y z;subst y z;obtain rfl:=l.len;exact⟨⟨n1,W,n2⟩,λ_=>⟨S,⟨Ar,cr,T,l⟩,U,O⟩⟩
  exact⟨⟨0,[],0⟩,λh=>absurd h hi⟩
 obtain⟨f,q⟩:=Classical.axiomOfChoice each;refine⟨some a,len,cap,(List.range len).map f,g,⟨AE,J,by simpa [maxLen] using L,λh0=>?_⟩,λt d=>?_⟩
 ·obtain⟨b,R,V⟩:=a;have p:=(q 0 h0).1;have N:V=none:=by simpa [Addr.add] using World.cell?_spot p
  subst N;rw[Bi] at p;refine⟨b,R,rfl,by have:=Zyg p;simpa using this,λj t d=>?_⟩;rw[By] at d;have o:j<len:=by
   rcases BC j len with h | h
   ·exact h
   simp[BE (show (List.range len).length<=j by simpa using h)] at d
  simp[o] at d;subst d;obtain⟨p0,⟨Ar,cr,B,l⟩,C,_⟩:=q j o;rw[Bi] at p0 B C;exact⟨Ar,cr,p0,by rw[Ea];exact B,by rw[Ea];exact C,l⟩
 obtain⟨j,o,rfl⟩:=CV.1 d;exact (q j (BP.1 o)).2.2.2
structure GrIn (w:World) (h:GH) (G:Gr):Prop where
 at_:Yf w h G
 small:∀t∈G.terms,t.name.size<=maxLen
 start:U3 G.start
theorem Kr{r:Reach}{b0:Nat}{d:DataW H}(o:Value.okWide prog w r b0 26 v)(h:DataW.Trod enc prog w base (λ_=>true) held 26 v d p):
 ∃(a:GH) (G:Gr),v=GV a G.start/\GrIn w a G:=by
 obtain⟨x,y,z,A,B,C,D,E,n,rfl,_,_,g0,c,f,g⟩:=Go.Joins.open_agg4 underlying26 AB AB o h;obtain⟨a1,n1,c1,ts,rfl,l,m⟩:=open_terms g0;obtain⟨a2,n2,c2,ss,rfl,k⟩:=open_strsG c;obtain⟨a3,n3,c3,t,rfl,j,q⟩:=open_rules f;obtain⟨u,b,_,s⟩:=DataW.trod_int underlying3 g;simp at b;subst b;exact⟨⟨a1,n1,c1,a2,n2,c2,a3,n3,c3⟩,⟨ts,ss,t,u⟩,rfl,⟨l,k,j,q⟩,m,bounds_i64 s⟩
end
