/- grammars: the reference's Right, walked. -/
import Derived.Test.YtggbjdmpjidhgaaGreatDoorV13
import Derived.Test.YtggbjdmpjidhgaaGreatDoorV14
import Derived.Test.YtggbjdmpjidhgaaGreatDoorV15
import Derived.Test.YtggbjdmpjidhgaaGreatDoorV16
set_option linter.all false
set_option maxHeartbeats 1500000
set_option maxRecDepth 100000
namespace Go.Proofs.YtggbjdmpjidhgaaGreatDoor
open Go.RowKit Go.Proofs.Tryz
variable{tab:Nat->Nat->Nat}{l xs:List Int}{n r g:Nat}{t:List Nat}{s:Int}{a w':World}{P:Nat->Prop}
theorem Jr(h:GH)(G:Gr)(w:World)(x:Yf w h G)(M:h.n1<=1000)(h2:h.n2<=1000)(h3:h.n3<=1000):
 Calls prog 29 #[GV h G.start] w λe w'=>e = .returned (.bool G.right)/\Below w.heap.size w w':=by
 have cT:=λW (p:Yf W h G)=>rf_terms h G W p;have cN:=λW (p:Yf W h G)=>rf_nons h G W p M;have af:=λW r Ar cr (p:Yf W h G) O hw=>rf_rule h G r Ar cr W p O hw M h2;obtain⟨a1,n1,c1,a2,n2,c2,a3,n3,c3⟩:=h;have C:G.nons.length=n2:=x.nons.len;have e3:G.rules.length=n3:=x.rules.len;have ht:Dv w a3 n3 c3 G.rules:=x.rules;have bf:=ht.cap;simp only[] at M h2 h3;have z:Hid (G.right=(G.termsOK&&G.nonsOK&&decide (1<=n3/\n3<=40)&&decide (0<=G.start/\G.start<(n2:Int))&&decide (G.leftsGo G.rules (-1)=some ((n2:Int)-1)))):=LH (by unfold Gr.right;rw[C,e3]);clear C;generalize a0:G.start=c at *;clear a0;generalize G.termsOK=l at *;generalize G.nonsOK=n at *;have P:(l=false\/(l=true/\n=false)\/(l=true/\n=true/\(n3:Int)<1)\/(l=true/\n=true/\1<=(n3:Int)/\40<(n3:Int))\/(l=true/\n=true/\1<=(n3:Int)/\(n3:Int)<=40/\c<0)\/(l=true/\n=true/\1<=(n3:Int)/\(n3:Int)<=40/\0<=c/\(n2:Int)<=c)) \/
  (l=true/\n=true/\1<=(n3:Int)/\(n3:Int)<=40/\0<=c/\c<(n2:Int)):=by
  cases l
  ·simp
  cases n
  ·simp
  simp only[Bool.true_eq_false,false_or,true_and];omega
 have j:=LH x;have CT:=LH cT;have S:=LH cN;have an:=LH af;clear x cT cN af;have F:=Y1.new w 26 ⟨a1,n1,c1,a2,n2,c2,a3,n3,c3⟩ c;have m:=Zy w (.cells #[.slice a1 n1 c1,.slice a2 n2 c2,.slice a3 n3 c3,.int .i64 c] 26);rcases P with v | ⟨rfl,rfl,g1,s,E,g4⟩
 ·have A:Hid (G.right=false):=LH (by
   rw[z.out];rcases v with rfl | ⟨rfl,rfl⟩ | ⟨rfl,rfl,g⟩ | ⟨rfl,rfl,g,s⟩ | ⟨rfl,rfl,g,s,E⟩ | ⟨rfl,rfl,g,s,E,g4⟩
   ·simp
   ·simp
   ·have:decide (1<=n3/\n3<=40)=false:=AG
    rw[this];simp
   ·have:decide (1<=n3/\n3<=40)=false:=AG
    rw[this];simp
   ·have:decide (0<=c/\c<(n2:Int))=false:=AG
    rw[this];simp
   have:decide (0<=c/\c<(n2:Int))=false:=AG
   rw[this];simp)
  clear z;rcases v with rfl | ⟨rfl,rfl⟩ | ⟨rfl,rfl,g⟩ | ⟨rfl,rfl,g,s⟩ | ⟨rfl,rfl,g,s,E⟩ | ⟨rfl,rfl,g,s,E,g4⟩
  ·go_enter func29,ntmps29;go_wp2_with fail;(with_reducible refine (CT.out _ (j.out.below m)).mono ?_);rintro e w1⟨rfl,d⟩;go_wp2_with fail;go_ret;exact⟨by rw[A.out];rfl,Zz m d⟩
  all_goals
   go_enter func29,ntmps29;go_wp2_with fail;(with_reducible refine (CT.out _ (j.out.below m)).mono ?_);rintro e w1⟨rfl,d⟩;have a:=Zz m d;have⟨z5,z0,z1,z2,z3⟩:=F.below d;simp only[] at z0 z1 z2 z3;clear d;go_wp2_with fail;(with_reducible refine (S.out _ (j.out.below a)).mono ?_);rintro e w2⟨rfl,o⟩;obtain⟨be,_⟩:=Jd o;have ao:=LH (Zz a o);clear o a m F;go_wp2_with fail;go_ret;exact⟨by rw[A.out];rfl,ao.out⟩
 have V:Hid (G.right=decide (G.leftsGo G.rules (-1)=some ((n2:Int)-1))):=LH (by
  rw[z.out];have e1:decide (1<=n3/\n3<=40)=true:=AG
  have C:decide (0<=c/\c<(n2:Int))=true:=AG
  rw[e1,C];rfl)
 clear z;go_enter func29,ntmps29;go_wp2_with fail;(with_reducible refine (CT.out _ (j.out.below m)).mono ?_);rintro e w1⟨rfl,d⟩;have a:=Zz m d;have f:=F.below d;have⟨z5,z0,z1,z2,z3⟩:=f;simp only[] at z0 z1 z2 z3;clear d;go_wp2_with fail;(with_reducible refine (S.out _ (j.out.below a)).mono ?_);rintro e w2⟨rfl,o⟩;have aj:=Zz a o;have R:=f.below o;clear z0 z1 z2 z3 z5;have⟨z5,z0,z1,z2,z3⟩:=R;simp only[] at z0 z1 z2 z3;clear o a m F f;go_wp2_with fail;clear z0 z1 z2 z3 z5;go_loopw [3,4,5] (λtp i t wr=>∃(k:Nat) (top:Int),k<=n3/\i = .int .i64 (k:Int)/\tp = .int .i64 top/\-1<=top/\top<=(k:Int)/\Below w.heap.size w wr/\Y1 wr w.heap.size ⟨a1,n1,c1,a2,n2,c2,a3,n3,c3⟩ c/\Hid (G.leftsGo (G.rules.take k) (-1)=some top)) (λ_ i _ _=>n3-(intOf i).toNat)
 case atStart=>exact⟨0,-1,AU _,rfl,rfl,AA,AA,aj,R,LH rfl⟩
 clear aj R;obtain⟨k,top,hk,rfl,rfl,bi,bj,N,hx,X⟩:=hrel;have⟨z5,z0,z1,z2,z3⟩:=hx;simp only[] at z0 z1 z2 z3;by_cases ay:k<n3
 ·obtain⟨b,bk,r,Ar,cr,rfl,hb,Hr,q0,q1,q2,hi⟩:=ht.get ay;rw[<-N.cell (by exact hb)] at q0 q1 q2;have ak:=lefts_next X.out Hr.out;have a:=N.alloc (DP z5) (.cells #[.int .i64 r.left,.slice Ar r.right.length cr,.int .i64 r.prec] 52);have f:=hx.below (Zy wr (.cells #[.int .i64 r.left,.slice Ar r.right.length cr,.int .i64 r.prec] 52));have y:=Fl.new wr 52 r.left Ar r.right.length cr r.prec;have cR:=λW p O=>an.out W r Ar cr p O (j.out.wf r (AL Hr.out));generalize G.ruleOK r=B at *;have T:=LH cR;have Z:=LH ak;clear cR ak;have P:(r.left<0\/(0<=r.left/\top+1<r.left)\/(0<=r.left/\r.left<=top+1/\B=false))\/(0<=r.left/\r.left<=top+1/\B=true/\top<r.left)\/(0<=r.left/\r.left<=top+1/\B=true/\r.left<=top):=by
   cases B
   ·simp only[Bool.false_eq_true,and_false,false_and,or_false,and_true];omega
   simp only[Bool.true_eq_false,and_false,or_false,true_and,and_true];omega
  rcases P with v | az
  ·have I:Hid (G.right=false):=LH (by
    rw[V.out];have:G.leftsGo G.rules (-1)=none:=by
     refine lefts_bad (k:=k+1) ?_;rw[Z.out,if_neg];intro⟨h5,h6,h7⟩;rcases v with g | ⟨g,q⟩ | ⟨g,q,D⟩
     ·omega
     ·omega
     rw[h7] at D;cases D
    rw[this];rfl)
   rcases v with g | ⟨g,q⟩ | ⟨g,q,rfl⟩
   ·clear f y;go_wp2_with fail;go_ret;exact⟨by rw[I.out];rfl,a⟩
   ·clear f y;go_wp2_with fail;go_ret;exact⟨by rw[I.out];rfl,a⟩
   have H:=LH a;have J:=LH (j.out.below a);have L:=LH (hi.below a);clear a f y;go_wp2_with fail;(with_reducible refine (T.out _ J.out L.out).mono ?_);rintro e w6⟨rfl,u⟩;go_wp2_with fail;go_ret;exact⟨by rw[I.out];rfl,Zz H.out u⟩
  have H:=LH a;have J:=LH (j.out.below a);have L:=LH (hi.below a);have ap:=LH f;have aq:=LH y;clear a f y;rcases az with ⟨g,q,rfl,D⟩ | ⟨g,q,rfl,D⟩;all_goals
   have Y:Hid (G.leftsGo (G.rules.take (k+1)) (-1)=some (max top r.left)):=LH (by rw[Z.out,if_pos ⟨g,q,rfl⟩]);go_wp2_with fail;(with_reducible refine (T.out _ J.out L.out).mono ?_);rintro e w6⟨rfl,u⟩;have⟨y5,y0,y1,y2⟩:=aq.out.below u;have ab:=LH (ap.out.below u);have U:=LH (Zz H.out u);clear u z0 z1 z2 z3 y1 y2;go_wp2_with fail;go_roundw
   case rel=>first
    | exact⟨k+1,r.left,AA,AF,rfl,AA,AA,U.out,ab.out,LH (by rw[Y.out,Int.max_eq_right AA])⟩
    | exact⟨k+1,top,AA,AF,rfl,AA,AA,U.out,ab.out,LH (by rw[Y.out,Int.max_eq_left AA])⟩
   simp[intOf];omega
 obtain rfl:k=n3:=AA
 have A:Hid (G.right=(top==(n2:Int)-1)):=LH (by
  rw[V.out];have:=X.out;rw[AQ AA] at this;rw[this,BZ];simp)
 have bg:IntKind.i64.wrap ((n2:Int)-1)=(n2:Int)-1:=BT _ AA;go_wp2_with fail;go_ret;exact⟨by rw[A.out];rfl,N⟩
theorem Zsq(h:GH)(G:Gr)(b:Bool)(w:World)(l:Yf w h G)(X:h.n1<=100)(Y:h.n2<=100)(Z:h.n3<=100):
 Calls prog 171 #[GV h G.start,.bool b] w λe w'=>Below w w w' /\
  ((G.right=false/\e = .returned (.slice none 0 0))\/(G.right=true/\∃g,w.heap.size<=g/\e = .returned (.slice (some ⟨g,0,none⟩) h.n2 h.n2)/\Z8 w' g (U5 b G))):=by
 obtain⟨a1,n1,c1,a2,n2,c2,a3,n3,c3⟩:=h;have e1:G.terms.length=n1:=l.terms.len;have z:G.nons.length=n2:=l.nons.len;have e3:G.rules.length=n3:=l.rules.len;have k3:=l.rules.cap;have k2:=l.nons.cap;simp only[] at X Y Z k3 k2;have R:=LH l;have A:=Zy w (.cells #[.slice a1 n1 c1,.slice a2 n2 c2,.slice a3 n3 c3,.int .i64 G.start] 26);have E:=Y1.new w 26 ⟨a1,n1,c1,a2,n2,c2,a3,n3,c3⟩ G.start;have a8:=Nt n2 AA;have ay:=Blk.new w 26 #[.slice a1 n1 c1,.slice a2 n2 c2,.slice a3 n3 c3,.int .i64 G.start];go_enter func171,ntmps171;have⟨z5,z0,z1,z2,z3⟩:=E;simp only[] at z0 z1 z2 z3;go_wp2_with fail;generalize w.alloc (.cells #[.slice a1 n1 c1,.slice a2 n2 c2,.slice a3 n3 c3,.int .i64 G.start] 26)=V at *;have W:=Jr ⟨a1,n1,c1,a2,n2,c2,a3,n3,c3⟩ G V (l.below A) (by simp only[];omega) (by simp only[];omega) (by simp only[];omega);(with_reducible refine W.mono ?_);rintro e a⟨rfl,D⟩;have n:=Zz A D;have s:=E.below D;have⟨y5,y0,y1,y2,y3⟩:=s;simp only[] at y0 y1 y2 y3;rcases p:G.right with _ | _
 ·go_wp2_with fail;go_ret;exact⟨n,.inl ⟨p,rfl⟩⟩
 have t:=Gr.fits p;have U:=LH p;have P:=LH t;have m:=λAr cr (r:Rul) (N:List Bool) w' (hr:r∈G.rules) (o:Za .i64 w' Ar r.right.length cr r.right) (hN:Z8 w' a N) (hl:N.length=n2)=>rf_all Ar r.right.length cr a n2 r.right N b w' o hN hl AA (by have:=t.symB hr;rwa [z] at this);have CA:=LH m;clear p t m;go_wp2_with fail;have q:=Z8.new a (List.replicate n2 false);have B:=Zy a (.cells (Qk (List.replicate n2 false)).toArray 4);generalize a.alloc (.cells (Qk (List.replicate n2 false)).toArray 4)=W2 at *;have ak:=q.lt;clear y0 y1 y2 y3 z0 z1 z2 z3;go_loopw [6,7] (λi _ wr=>∃(k:Nat),k<=n2/\i = .int .i64 (k:Int)/\Below a a wr/\Z8 wr a (Z3 (Xs (Xo b) G.rules) k (List.replicate n2 false))) (λi _ _=>n2-(intOf i).toNat)
 case atStart=>exact⟨0,AU _,rfl,B,q⟩
 clear q B ak;obtain⟨k,hk,rfl,d,c⟩:=hrel;have⟨y5,y0,y1,y2,y3⟩:=s.below d;simp only[] at y0 y1 y2 y3;by_cases a7:k<n2
 ·go_wp2_with fail;clear y0 y1 y2 y3;have ad:(Z3 (Xs (Xo b) G.rules) k (List.replicate n2 false)).length=n2:=by rw[Ad];simp
  have S:Hid (Xs (Xo b) G.rules (Z3 (Xs (Xo b) G.rules) k (List.replicate n2 false))=Z3 (Xs (Xo b) G.rules) (k+1) (List.replicate n2 false)):=rfl;generalize Z3 (Xs (Xo b) G.rules) k (List.replicate n2 false)=N at *;go_loopw [7] (λi M=>∃(j:Nat),j<=n3/\i = .int .i64 (j:Int)/\Below a a M/\Z8 M a (Xs (Xo b) (G.rules.take j) N)) (λi _=>n3-(intOf i).toNat)
  case atStart=>exact⟨0,AU _,rfl,d,by simpa [Xs] using c⟩
  clear d c;obtain⟨j,hj,rfl,d,c⟩:=hrel;have⟨y5,y0,y1,y2,y3⟩:=s.below d;simp only[] at y0 y1 y2 y3;by_cases ag:j<n3
  ·obtain⟨bb,a9,r,Ar,cr,rfl,hb,y,L,q1,q2,o⟩:=R.out.rules.get ag;have C:=Zz n d;rw[<-C.cell (by exact hb)] at L q1 q2;have H:=AL y.out;have ab:(Xs (Xo b) (G.rules.take j) N).length=n2:=by rw[Zvy];exact ad
   have I:Xs (Xo b) (G.rules.take (j+1)) N=Qa (Xo b) r (Xs (Xo b) (G.rules.take j) N):=by rw[Ya y.out,passN_snoc]
   have ai:a.heap.size<wr.heap.size:=c.lt;have a0:∀i,wr.frozen? ⟨a,i,none⟩=false:=λi=>Blk.frozen c i;have m:=CA.out Ar cr r _ wr H (o.below C) c ab;obtain⟨l1,l2⟩:=P.out.left r H;obtain⟨f,F⟩:∃f:Nat,r.left=(f:Int):=⟨r.left.toNat,AA⟩;have J:Xs (Xo b) (G.rules.take (j+1)) N=if Xj b (Xs (Xo b) (G.rules.take j) N) r.right then (Xs (Xo b) (G.rules.take j) N).set f true else Xs (Xo b) (G.rules.take j) N:=by
    rw[I];unfold Qa Xo;rw[show r.left.toNat=f by omega]
   rw[F] at L;have a5:f<n2:=AA
   have T:=LH (c.put f true);have x:=LH J;have O:=LH c;have v:=LH d;have az:=c.at (i:=f) AA;generalize (Xs (Xo b) (G.rules.take j) N).getD f false=ba at *;generalize Xj b (Xs (Xo b) (G.rules.take j) N) r.right=tst at *;have u:=LH m;clear m I J c o d F l1 l2;rcases (by cases tst <;> simp:tst=false\/tst=true) with rfl | rfl
   ·go_wp2_with (go_at_call 111;(with_reducible refine u.out.mono ?_);rintro e w3⟨rfl,rfl⟩);go_roundw
    case rel=>exact⟨j+1,AA,AF,v.out,by rw[x.out];exact O.out⟩
    simp[intOf];omega
   go_wp2_with (go_at_call 111;(with_reducible refine u.out.mono ?_);rintro e w3⟨rfl,rfl⟩);go_roundw
   case rel=>exact⟨j+1,AA,AF,v.out.trans (Zn (Zd _ _ _ _) (DP ai) (AI _)),by rw[x.out];exact T.out⟩
   simp[intOf];omega
  obtain rfl:j=n3:=AA
  rw[AQ AA,S.out] at c;go_wp2_with fail;go_roundw
  case rel=>exact⟨k+1,AA,AF,d,c⟩
  simp[intOf];omega
 obtain rfl:k=n2:=AA
 have af:U5 b G=Z3 (Xs (Xo b) G.rules) k (List.replicate k false):=by unfold U5;rw[z]
 rw[<-af] at c;go_wp2_with fail;go_ret;exact⟨Zz n d,.inr ⟨U.out,a.heap.size,n.size,rfl,c⟩⟩
theorem Qt(h:GH)(G:Gr)(w:World)(n:Yf w h G)(f:h.n1<=100)(j:h.n2<=100)(k:h.n3<=100):
 Calls prog 109 #[GV h G.start] w λe w'=>Below w w w' /\
  ((G.right=false/\e = .returned (.slice none 0 0))\/(G.right=true/\∃g,w.heap.size<=g/\e = .returned (.slice (some ⟨g,0,none⟩) h.n2 h.n2)/\Z8 w' g (Zt G))):=by
 obtain⟨a1,n1,c1,a2,n2,c2,a3,n3,c3⟩:=h;simp only[] at f j k;have a:=Zy w (.cells #[.slice a1 n1 c1,.slice a2 n2 c2,.slice a3 n3 c3,.int .i64 G.start] 26);have m:=Y1.new w 26 ⟨a1,n1,c1,a2,n2,c2,a3,n3,c3⟩ G.start;go_enter func109,ntmps109;have⟨z5,z0,z1,z2,z3⟩:=m;simp only[] at z0 z1 z2 z3;go_wp2_with fail;generalize w.alloc (.cells #[.slice a1 n1 c1,.slice a2 n2 c2,.slice a3 n3 c3,.int .i64 G.start] 26)=d at *;(with_reducible refine (Zsq ⟨a1,n1,c1,a2,n2,c2,a3,n3,c3⟩ G true d (n.below a) (by simp only[];omega) (by simp only[];omega) (by simp only[];omega)).mono ?_);rintro e p⟨c,⟨b,rfl⟩ | ⟨b,g,o,rfl,l⟩⟩
 ·go_wp2_with fail;go_ret;exact⟨Zz a c,.inl ⟨b,rfl⟩⟩
 go_wp2_with fail;go_ret;exact⟨Zz a c,.inr ⟨b,g,BC a.size o,rfl,l⟩⟩
theorem Lw(h:GH)(G:Gr)(w:World)(x:Yf w h G)(h1:h.n1<=100)(h2:h.n2<=100)(h3:h.n3<=100):
 Calls prog 110 #[GV h G.start] w λe w'=>Below w w w' /\
  ((G.right=false/\e = .returned (.slice none 0 0))\/(G.right=true/\∃g,w.heap.size<=g/\e = .returned (.slice (some ⟨g,0,none⟩) h.n2 h.n2)/\Z8 w' g (Z5 G))):=by
 obtain⟨a1,n1,c1,a2,n2,c2,a3,n3,c3⟩:=h;have y:G.nons.length=n2:=x.nons.len;have e3:G.rules.length=n3:=x.rules.len;have k3:=x.rules.cap;have k2:=x.nons.cap;simp only[] at h1 h2 h3 k3 k2;have Hg:=LH x;have a9:=Zy w (.cells #[.slice a1 n1 c1,.slice a2 n2 c2,.slice a3 n3 c3,.int .i64 G.start] 26);have ak:=Y1.new w 26 ⟨a1,n1,c1,a2,n2,c2,a3,n3,c3⟩ G.start;have cx:=Nt n2 AA;clear x;go_enter func110,ntmps110;have⟨z5,z0,z1,z2,z3⟩:=ak;simp only[] at z0 z1 z2 z3;go_wp2_with fail;generalize w.alloc (.cells #[.slice a1 n1 c1,.slice a2 n2 c2,.slice a3 n3 c3,.int .i64 G.start] 26)=W0 at *;(with_reducible refine (Jr ⟨a1,n1,c1,a2,n2,c2,a3,n3,c3⟩ G W0 (Hg.out.below a9) (by simp only[];omega) (by simp only[];omega) (by simp only[];omega)).mono ?_);rintro e W1⟨rfl,bg⟩;have ai:=Zz a9 bg;have al:=ak.below bg;clear z0 z1 z2 z3 z5 ak;have⟨y5,y0,y1,y2,y3⟩:=al;simp only[] at y0 y1 y2 y3;rcases T:G.right with _ | _
 ·go_wp2_with fail;go_ret;exact⟨ai,.inl ⟨T,rfl⟩⟩
 have am:=Gr.fits T;have dn:=am.st;have a5:=LH T;have ab:=LH am;obtain⟨n,bs⟩:∃n:Nat,G.start=(n:Int):=⟨G.start.toNat,AA⟩;have cs:n<n2:=AA
 have aw:=LH bs;clear bs;have cP:=(Qt ⟨a1,n1,c1,a2,n2,c2,a3,n3,c3⟩ G W1 (Hg.out.below ai) (by simp only[];omega) (by simp only[];omega) (by simp only[];omega)).mono λe w' hh=>And.intro hh.1 (hh.2.resolve_left λhc=>by rw[a5.out] at hc;cases hc.1).2;have CP:=LH cP;clear T am cP;go_wp2_with fail;(with_reducible refine CP.out.mono ?_);rintro e f⟨bh,gp,dg,rfl,J⟩;have ba:=Zz ai bh;have P:=al.below bh;clear y0 y1 y2 y3 y5 al;have A:=Z8.new f (List.replicate n2 false);have I:=Zy f (.cells (Qk (List.replicate n2 false)).toArray 4);have ck:Z8 (f.alloc (.cells (Qk (List.replicate n2 false)).toArray 4)) gp (Zt G):=Blk.ext J I;have bi:=P.below I;have⟨y5,y0,y1,y2,y3⟩:=P;simp only[] at y0 y1 y2 y3;have cn:gp<f.heap.size:=J.lt;go_upto_region 5 with fail;generalize f.alloc (.cells (Qk (List.replicate n2 false)).toArray 4)=W3 at *;clear y0 y1 y2 y3 y5;have⟨y5,y0,y1,y2,y3⟩:=bi;simp only[] at y0 y1 y2 y3;rw[aw.out] at y3;have dp:=A.lt;have C:=Blk.frozen A n;have L:=A.at (i:=n) (by simpa using cs);have an:=A.put n true;have bc:=bD_set I (AI _) f n (.bool true) (AI _);have bv:Xv G=(List.replicate n2 false).set n true:=by unfold Xv;rw[y,aw.out];rfl
 rw[<-bv] at an;have H:=LH an;have b2:=LH bc;have b5:=LH J;have o:=LH ba;have ax:=LH P;clear an bc J ck I ba P bi bv cx A;have bu:(Xv G).length=n2:=by unfold Xv;simp[y]
 have cc:=LH bu;clear bu;go_wp2_with fail;generalize W3.setCell ⟨f,n,none⟩ (.bool true)=W4 at *;generalize bo:f.heap.size=a at *;have u:=LH bo;clear bo y0 y1 y2 y3 y5 C L;have dk:=H.out.lt;go_loopw [5] (λi wr=>∃k:Nat,k<=n2/\i = .int .i64 (k:Int)/\Hid (Below a f wr)/\Hid (Z8 wr a (Z3 (Yy (Yp (Zt G)) G.rules) k (Xv G)))) (λi _=>n2-(intOf i).toNat)
 case atStart=>exact⟨0,AU _,rfl,b2,H⟩
 obtain⟨k,hk,rfl,l,b⟩:=hrel;have B:=ax.out.below (by rw[u.out];exact l.out);have⟨y5,y0,y1,y2,y3⟩:=B;simp only[] at y0 y1 y2 y3;by_cases ct:k<n2
 case neg =>
  obtain rfl:k=n2:=AA
  have b6:Hid (Z5 G=Z3 (Yy (Yp (Zt G)) G.rules) k (Xv G)):=LH (by unfold Z5;rw[y]);go_wp2_with fail;go_ret;exact⟨o.out.trans (l.out.mono (by rw[<-u.out];exact o.out.size)),.inr ⟨a5.out,a,by rw[<-u.out];exact o.out.size,rfl,by rw[b6.out];exact b.out⟩⟩
 have bd:(Z3 (Yy (Yp (Zt G)) G.rules) k (Xv G)).length=n2:=by rw[Dw];exact cc.out
 have b9:Hid (Yy (Yp (Zt G)) G.rules (Z3 (Yy (Yp (Zt G)) G.rules) k (Xv G))=Z3 (Yy (Yp (Zt G)) G.rules) (k+1) (Xv G)):=rfl;generalize Z3 (Yy (Yp (Zt G)) G.rules) k (Xv G)=N at *;have b4:=LH bd;clear bd;go_wp2_with fail;clear y0 y1 y2 y3 y5 B;go_loopw [6] (λi t=>∃j:Nat,j<=n3/\i = .int .i64 (j:Int)/\Hid (Below a f t)/\Hid (Z8 t a (Yy (Yp (Zt G)) (G.rules.take j) N))) (λi _=>n3-(intOf i).toNat)
 case atStart=>exact⟨0,AU _,rfl,l,LH (by simpa [Yy] using b.out)⟩
 clear l b;obtain⟨j,hj,rfl,l,b⟩:=hrel;have B:=ax.out.below (by rw[u.out];exact l.out);have⟨y5,y0,y1,y2,y3⟩:=B;simp only[] at y0 y1 y2 y3;by_cases cp:j<n3
 case neg =>
  obtain rfl:j=n3:=AA
  have Hf:Hid (Z8 wr a (Z3 (Yy (Yp (Zt G)) G.rules) (k+1) (Xv G))):=LH (by rw[<-b9.out];have:=b.out;rw[AQ AA] at this;exact this);go_wp2_with fail;go_roundw
  case rel=>exact⟨k+1,AA,AF,l,Hf⟩
  simp[intOf];omega
 have V:=LH (o.out.trans (l.out.mono (by rw[<-u.out];exact o.out.size)));obtain⟨bb,ds,r,Ar,cr,rfl,bf,Hr,q0,q1,q2,ao⟩:=Hg.out.rules.get cp;rw[<-V.out.cell (by exact bf)] at q0 q1 q2;have hb:bb<wr.heap.size:=AJ bf V.out.size;have cb:=LH ao;have bt:=ao.below V.out;clear ao;have R:=AL Hr.out;have bk:(Yy (Yp (Zt G)) (G.rules.take j) N).length=n2:=by rw[passI_len'];exact b4.out
 have az:Hid (Yy (Yp (Zt G)) (G.rules.take (j+1)) N=Jz (Yy (Yp (Zt G)) (G.rules.take j) N) (Yp (Zt G) r (Yy (Yp (Zt G)) (G.rules.take j) N))):=LH (by rw[Ya Hr.out,Zwt];rfl);generalize Yy (Yp (Zt G)) (G.rules.take j) N=d at *;obtain⟨l1,l2⟩:=ab.out.left r R;obtain⟨c,bq⟩:∃c:Nat,r.left=(c:Int):=⟨r.left.toNat,AA⟩;have br:c<n2:=AA
 have dl:=ab.out.len r R;have aq:=ab.out.symB R;rw[y] at aq;rw[bq] at q0;have m:Dr (Zt G) r d=(d.getD c false&&Xj true (Zt G) r.right):=by unfold Dr;rw[show r.left.toNat=c by omega]
 have ay:=LH m;have ca:=LH bt;have a7:=LH aq;have Z:=LH bk;have O:=Zy wr (.cells #[.int .i64 (c:Int),.slice Ar r.right.length cr,.int .i64 r.prec] 52);have be:=Blk.new wr 52 #[.int .i64 (c:Int),.slice Ar r.right.length cr,.int .i64 r.prec];have co:a<wr.heap.size:=b.out.lt;clear m bt aq bk l1 l2 bq R;go_wp2_with fail;have E:Hid (Z8 (wr.alloc (.cells #[.int .i64 (c:Int),.slice Ar r.right.length cr,.int .i64 r.prec] 52)) a d):=Blk.ext b.out O;have U:=LH (l.out.trans (O.mono (DP co)));have Y:=LH be;have a4:=LH (ca.out.below O);have dq:=Zl wr (.cells #[.int .i64 (c:Int),.slice Ar r.right.length cr,.int .i64 r.prec] 52);generalize wr.alloc (.cells #[.int .i64 (c:Int),.slice Ar r.right.length cr,.int .i64 r.prec] 52)=v at *;generalize wr.heap.size=z at *;clear O be y0 y1 y2 y3 y5 q0 q1 q2 B b l;have cw:a<v.heap.size:=E.out.lt;have r0:v.cell? ⟨z,0,none⟩=some (.int .i64 (c:Int)):=Y.out.cell 0;have r1:v.cell? ⟨z,1,none⟩=some (.slice Ar r.right.length cr):=Y.out.cell 1;have de:=a4.out.cap;have CA:=LH λ(W:World) (M:List Bool) (hW:Below a f W) (hr:Za .i64 W Ar r.right.length cr r.right)=>rf_all Ar r.right.length cr gp n2 r.right (Zt G) true W hr (b5.out.below hW cn) (by rw[Vx];exact y) AA a7.out;rcases m:Dr (Zt G) r d with _ | _
 case false =>
  have ae:Hid (Yy (Yp (Zt G)) (G.rules.take (j+1)) N=d):=LH (by rw[az.out];unfold Yp;rw[m];rfl);have L:=E.out.at (i:=c) (by rw[Z.out];exact br);have p:=ay.out.symm.trans m;have av:=CA.out v d U.out a4.out;generalize d.getD c false=tl at *;generalize Xj true (Zt G) r.right=ta at *;have D:=LH av;clear m av;go_loopw [8] (λi t=>i = .int .i64 0/\v=t) (λi _=>0)
  case atStart=>exact⟨rfl,rfl⟩
  obtain⟨rfl,rfl⟩:=hrel;by_cases cv:r.right.length=0
  case' pos =>
   rw[cv] at r1;clear p;go_wp2_with fail
  case' neg =>
   have dj:0<r.right.length:=AA
   rcases (by cases tl <;> cases ta <;> simp at p ⊢:tl=false\/(tl=true/\ta=false)) with rfl | ⟨rfl,rfl⟩
   case' inl =>
    clear p;go_wp2_with fail
   case' inr =>
    clear p;go_wp2_with (go_at_call 111;(with_reducible refine D.out.mono ?_);rintro e w'⟨rfl,rfl⟩)
  all_goals
   go_roundw
   case rel=>exact⟨j+1,AA,AF,U,LH (by rw[ae.out];exact E.out)⟩
   simp[intOf];omega
 have p:=ay.out.symm.trans m;simp only[AR] at p;obtain⟨bm,bn⟩:=p;have ae:Hid (Yy (Yp (Zt G)) (G.rules.take (j+1)) N=Jz d (Uq r.right)):=LH (by rw[az.out];unfold Yp;rw[m];rfl);have b7:=LH bm;have b8:=LH bn;clear m bm bn;go_loopw [8] (λi t=>∃kk:Nat,kk<=r.right.length/\i = .int .i64 (kk:Int)/\Hid (Z8 t a (Jz d (Uq (r.right.take kk))))/\Hid (v.grownBy t (some a))) (λi _=>r.right.length-(intOf i).toNat)
 case atStart=>exact⟨0,AU _,rfl,E,LH (Jl _ _)⟩
 obtain⟨kk,ct,rfl,b,F⟩:=hrel;have cm:z≠a:=AA
 have aj:=Y.out.grown F.out (by intro e;injection e with e;exact cm e);have r0:wr.cell? ⟨z,0,none⟩=some (.int .i64 (c:Int)):=aj.cell 0;have r1:wr.cell? ⟨z,1,none⟩=some (.slice Ar r.right.length cr):=aj.cell 1;have X:=LH (U.out.trans (Zn F.out (DP cw) (AI _)));have b3:=LH (o.out.trans (X.out.mono (by rw[<-u.out];exact o.out.size)));have bl:(Jz d (Uq (r.right.take kk))).length=n2:=by rw[Zwc];exact Z.out
 have L:=b.out.at (i:=c) (by rw[bl];exact br);rw[Zuy _ b7.out] at L;have ap:Za .i64 wr Ar r.right.length cr r.right:=cb.out.below b3.out;by_cases cu:kk<r.right.length
 case neg =>
  obtain rfl:kk=r.right.length:=AA
  have Hf:Hid (Z8 wr a (Jz d (Uq r.right))):=LH (by have:=b.out;rw[AQ (AI _)] at this;exact this);go_wp2_with fail;go_roundw
  case rel=>exact⟨j+1,AA,AF,X,LH (by rw[ae.out];exact Hf.out)⟩
  simp[intOf];omega
 have cA:=CA.out wr d X.out ap;rw[b8.out] at cA;have D:=LH cA;obtain⟨sb,so,s,rfl,dm,Hs,qs⟩:=ap.get cu;have c0:=a7.out s (AL Hs.out);have S:=Zxl Hs.out;have c9:=b;have C:=λq=>Blk.frozen b.out q;clear cA bl ap aj;by_cases h0:s<0
 ·obtain⟨q,cq,cy,dr⟩:=Vy h0 c0.1 AA;have df:=C q;have dc:=b.out.at (i:=q) (by rw[Zwc];rw[Z.out];exact cq);have H:Hid (Z8 (wr.setCell ⟨a,q,none⟩ (.bool true)) a (Jz d (Uq (r.right.take (kk+1))))):=LH (by
   rw[S,if_pos h0,Zw9,show (-1-s).toNat=q from cy];exact b.out.put q true)
  clear S C;go_wp2_with (go_at_call 111;(with_reducible refine D.out.mono ?_);rintro e w'⟨rfl,rfl⟩);go_roundw
  case rel=>exact⟨kk+1,AA,AF,H,LH (Zc F.out (Zd _ _ _ _))⟩
  simp[intOf];omega
 have cd:Hid (Z8 wr a (Jz d (Uq (r.right.take (kk+1))))):=LH (by rw[S,if_neg h0];exact b.out);clear S C;go_wp2_with (go_at_call 111;(with_reducible refine D.out.mono ?_);rintro e w'⟨rfl,rfl⟩);go_roundw
 case rel=>exact⟨kk+1,AA,AF,cd,F⟩
 simp[intOf];omega
theorem Ll.next{G:Gr}(a:Xq G){c:List Nat}(d:Ni G c){m p i:Nat}(h:Ll G c tab m p)(hi:c[p]? = some i):
 Yc (Yk tab) G.rules i m=Zv G (-1-(i:Int)) m:=by
 have o:=d.lt i (AL hi);rw[Uu a AA (by rw[nonI_of];exact o),nonI_of];refine (Lu λr l y=>?_).symm;have u:∀q∈r.right,q<0->Zp q<G.nons.length:=λq b C=>by
  have:=a.fits.sym r l q b;unfold Zp;omega
 refine Zzb (λq b k t=>?_) (λj q s v=>?_) λg q b h0=>?_
 ·unfold Yk;split
  ·rename_i h0;exact Xb G h0 k
  rename_i h0;rw[h.low k t _ (u q b AA),Fr AA]
 ·unfold Yk;split
  ·rename_i h0;exact Xb G h0 m
  rename_i h0;have n:=D2 a l s AA λA B x z=>Jw a (v A B x z);rw[y] at n;rw[h.now _ (d.pre p i hi _ n),Fr AA]
 unfold Yk;split
 ·rename_i h1;rw[<-Xb G h1];exact h0
 rename_i h1;by_cases f:Zp q∈c.take p
 ·subst g;rw[h.now _ f,Fr AA];exact h0
 subst g;exact h.rest _ f
theorem tr_reach(g n i:Nat)(S:List Nat)(w:World)(r:V0 w g S)(hn:S.length=n)(av:n<=1000)(hi:i<n)(u:We S)(q:InS S)(C:Q2 w):
 Calls prog 89 #[.slice (some ⟨g,0,none⟩) n n,.int .i64 (i:Int)] w λe w'=>e = .returned (.int .u32 (((Xu S).getD i 0:Nat):Int))/\Below w w w':=by
 subst hn;have aa:=r.at hi;have J:=LH r;have l:=LH u;have j:=LH q;have O:=LH C;have v:=LH (J5.start u q hi);have hd:=j.out;have T:=LH λR (h:J5 S i R) (he:Qd S R (Wy R)=R)=>J5.done j.out hi h he;generalize S.getD i 0=v0 at aa v;generalize (Xu S).getD i 0=cl at *;clear r u q C hd;go_enter func89,ntmps89;go_wp2_with fail;go_loopw [5] (λa wr=>∃R:Nat,a = .int .u32 (R:Int)/\Hid (J5 S i R)/\Hid (Below w w wr)) (λa _=>4294967296-(intOf a).toNat)
 case atStart=>exact⟨v0,rfl,v,LH (AK _ _)⟩
 obtain⟨R,rfl,b,x⟩:=hrel;have F:=b.out.1;have z:=set_members R wr F (O.out.below x.out);have I:=LH z;have V:=LH (Zt7 R);clear z;go_wp2_with (go_at_call 148;(with_reducible refine I.out.mono ?_);rintro e w2⟨A,c,rfl,G,E⟩);have f:=LH (Zz x.out E);have X:=LH G;have N:Hid (V0 w2 g S):=Blk.ext J.out f.out;have y:=LH (J5.next l.out j.out hi b.out);have U:=LH (moreN_le S (Wy R) R);clear E G F;have t:(Z6 (Wy R)).length=(Wy R).length:=Mv _;have W:=LH t;have aq:(Z6 (Wy R)).length<=32:=by rw[t];exact V.out
 generalize B:(Z6 (Wy R)).length=L at *;have HL:=LH B;clear B t;go_wp2_with fail;go_loop [6,17] (λm k=>∃p:Nat,p<=L/\k = .int .i64 (p:Int)/\m = .int .u32 ((Qd S R ((Wy R).take p):Nat):Int)) (λm k=>L-(intOf k).toNat)
 case atStart=>exact⟨0,AU _,rfl,by simp[Qd]⟩
 obtain⟨p,hp,rfl,rfl⟩:=hrel;by_cases ah:p<L
 case neg =>
  obtain rfl:p=L:=AA
  have D:Qd S R ((Wy R).take p)=Qd S R (Wy R):=by rw[AQ (by rw[<-W.out];exact AI _)]
  rw[D];have o:=T.out R b.out;have au:=y.out.1;clear D;generalize Qd S R (Wy R)=M at *;by_cases ae:M=R
  ·subst ae;have ab:=o (by trivial);clear o;go_wp2_with fail;go_ret;exact⟨by rw[<-ab];rfl,f.out⟩
  have aw:((M:Int)==(R:Int))=false:=by rw[AP];omega
  have ar:=U.out;clear o;go_wp2_with fail;go_roundw
  case rel=>exact⟨M,rfl,y,f⟩
  simp[intOf];omega
 obtain⟨bb,a0,s,rfl,hb,Z,q0⟩:=X.out.get ah;obtain⟨k,rfl,d⟩:=mems_get Z.out;have af:k<S.length:=((b.out.2.2 k ((Zwo R k).1 (AL d)).2)).1;have ao:=N.out.at af;have H:Qd S R ((Wy R).take (p+1))=Qd S R ((Wy R).take p) ||| S.getD k 0:=by rw[Ya d,moreN_snoc]
 have ax:=or32 (Qd S R ((Wy R).take p)) (S.getD k 0) (Zxv l.out _ b.out.1) (l.out.get k);generalize Qd S R ((Wy R).take p)=m0 at *;generalize S.getD k 0=vk at *;have Y:=LH H;have Hk:=LH d;clear H d;go_wp2_with fail;go_round
 case rel=>exact⟨p+1,AA,AF,by rw[Y.out]⟩
 simp[intOf];omega
theorem Zsl(w:World):Calls prog 94 #[] w (RetV w 1):=by
 have g:=Zy w (.cells #[.slice none 0 0,.bool false] 46);have a:=Blk.new w 46 #[.slice none 0 0,.bool false];have m:(w.alloc (.cells #[.slice none 0 0,.bool false] 46)).heap.size=w.heap.size+1:=Zl _ _;go_enter func94,ntmps94;go_upto_region 1 with fail;generalize w.alloc (.cells #[.slice none 0 0,.bool false] 46)=W at *;obtain⟨d,f,n⟩:=Vb a g (AI _) (some ⟨w+1,0,none⟩) 1 1 false;have h:((W.setCell ⟨w,0,none⟩ (.slice (some ⟨w+1,0,none⟩) 1 1)).setCell ⟨w,1,none⟩ (.bool false)).heap.size=w.heap.size+1:=by rw[<-m];simp
 have b:=Zy ((W.setCell ⟨w,0,none⟩ (.slice (some ⟨w+1,0,none⟩) 1 1)).setCell ⟨w,1,none⟩ (.bool false)) (.cells #[.int .u32 1] 49);have c:Zq .u32 (((W.setCell ⟨w,0,none⟩ (.slice (some ⟨w+1,0,none⟩) 1 1)).setCell ⟨w,1,none⟩ (.bool false)).alloc (.cells #[.int .u32 1] 49)) (some ⟨((W.setCell ⟨w,0,none⟩ (.slice (some ⟨w+1,0,none⟩) 1 1)).setCell ⟨w,1,none⟩ (.bool false)).heap.size,0,none⟩) 1 1 [1]:=N6 ((W.setCell ⟨w,0,none⟩ (.slice (some ⟨w+1,0,none⟩) 1 1)).setCell ⟨w,1,none⟩ (.bool false)) 49 (nums .u32 [1]) 1 _ rfl rfl AC;rw[h] at c;have j:=LH (Zz d b);have k:=LH (Blk.ext f b);have c0:W.cell? ⟨w,0,none⟩=some (.slice none 0 0):=a.cell 0;have c1:W.cell? ⟨w,1,none⟩=some (.bool false):=a.cell 1;have o:=a.frozen 0;have q:=a.frozen 1;have r:=a.lt;have l:=LH c;clear a g b c d f n h;go_wp2_with fail;refine AV (By (p:=0) AB _ _ w 46 #[.slice (some ⟨w+1,0,none⟩) 1 1,.bool false] (0,0) _ rfl k.out underlying46 rfl AB) rfl ?_;refine⟨j.out,_,_,_,_,rfl,?_⟩;unfold Z1;rw[Zw2];exact⟨rfl,l.out⟩
theorem Ztn(A:Option Addr)(n c N:Nat)(tab:Nat->Nat->Nat)(b:Int)(k:Nat)(w:World)(C:Zyq w A n c N tab)(T:k<n)(S:N<=1000)(af:k<=1000)(z:b<0->-(N:Int)<=b):
 Calls prog 95 #[.slice A n c,.int .i64 b,.int .i64 (k:Int)] w (RetV w (Yk tab b k)):=by
 have h:=Zy w (.cells #[.slice none 0 0,.bool false] 46);have a:=Blk.new w 46 #[.slice none 0 0,.bool false];have D:=C.below h;clear C;go_enter func95,ntmps95;go_upto_region 1 with fail;generalize w.alloc (.cells #[.slice none 0 0,.bool false] 46)=W at *;have c0:W.cell? ⟨w,0,none⟩=some (.slice none 0 0):=a.cell 0;have c1:W.cell? ⟨w,1,none⟩=some (.bool false):=a.cell 1;have P:=a.frozen 0;have R:=a.frozen 1;have V:=a.lt;by_cases h0:0<=b
 ·have U:¬(b<0):=AA
  have l:Yk tab b k=K0 k:=by unfold Yk;rw[if_pos h0]
  have t:=LH l;clear l D z;by_cases x:k=1
  ·subst x;have M:=LH a;have L:=LH h;clear a h;go_wp2_with fail;(with_reducible refine (Zsl W).mono ?_);rintro e B⟨v,o,r,c3,q,rfl,m⟩;have f:=M.out.ext v;have d:=LH (Vb f (Zz L.out v) (AI _) o r c3 q);have X:B.cell? ⟨w,0,none⟩=some (.slice none 0 0):=f.cell 0;have Y:B.cell? ⟨w,1,none⟩=some (.bool false):=f.cell 1;have Z:=f.frozen 0;have aa:=f.frozen 1;have ai:=f.lt;have u:=LH m;clear c0 c1 P R V f m v;go_wp2_with fail;refine AV (By (p:=6) AB _ _ w 46 #[.slice o r c3,.bool q] (0,0) _ rfl d.out.2.1 underlying46 rfl AB) rfl ?_;refine⟨d.out.1,_,_,_,_,rfl,?_⟩;rw[t.out];exact u.out.kept d.out.2.2
  have ae:((k:Int)==1)=false:=by rw[AP];omega
  have J:K0 k=0:=by unfold K0;rw[if_neg x]
  have O:=LH J;have d:=LH (Vb a h (AI _) none 0 0 false);clear a h J x;go_wp2_with fail;refine AV (By (p:=6) AB _ _ w 46 #[.slice none 0 0,.bool false] (0,0) _ rfl d.out.2.1 underlying46 rfl AB) rfl ?_;refine⟨d.out.1,_,_,_,_,rfl,?_⟩;rw[t.out,O.out];exact Z1.zero _ _ _ AA
 have l:Yk tab b k=tab k (Zp b):=by unfold Yk;rw[if_neg h0]
 obtain⟨j,F,G,hw⟩:=Vy (s:=b) (n:=N) AA (z AA) S;rw[G] at l;obtain⟨_,_,E⟩:=D;obtain⟨tb,am,rfl,ag,H⟩:=E AA;obtain⟨g,ab,y⟩:=H k T;obtain⟨o,r,c3,q,q0,q1,m⟩:=y.get (j:=j) (by simp;exact F);have ad:=y.lt;have I:((List.range N).map (tab k)).getD j 0=tab k j:=by rw[AO,BA,List.getElem?_range F];rfl
 rw[I] at m;have t:=LH l;have u:=LH m;have d:=LH (Vb a h (AI _) o r c3 q);have U:b<0:=AA
 clear l m I H E y a h z G;go_wp2_with fail;refine AV (By (p:=6) AB _ _ w 46 #[.slice o r c3,.bool q] (0,0) _ rfl d.out.2.1 underlying46 rfl AB) rfl ?_;refine⟨d.out.1,_,_,_,_,rfl,?_⟩;rw[t.out];exact u.out.kept d.out.2.2
theorem UnL.lt{G:Gr}(b:Xq G)(h:UnL G l n r t)(a:InG G l):r<Zx (Zv G) l n:=by
 induction h with
 | nil=>exact Nat.one_pos
 | @term s l n r t h0 _ j =>
   have h1:=j a.tail;rw[<-Jn];refine AJ ?_ (Wz (Zv G) s l (n+1) (k:=2) AA);rw[Xy,Xb G h0];show r<_+K0 1*_;unfold K0;rw[if_pos rfl,Nat.one_mul];exact AJ h1 (Nat.le_add_left _ _)
 | @non s l n k i q r x p u h0 c g _ _ m o =>
   have h1:=m (InG.at b.fits c);have d:=o a.tail;have f:Z0 (Zv G) G.rules (Zp s) i k+q<Zv G s k:=by
    rw[Uu b h0 (a s (AX ..) h0)];refine AJ (Nat.add_lt_add_left h1 _) ?_;have:=Y3 (Zv G) c (Zp s) k;rw[if_pos g] at this;rw[<-this];exact Kj _ _ _ _ _
   rw[<-Jn,Ed];refine AJ (Nat.add_lt_add_left (Lc f d) _) ?_;have e:=Xy (Zv G) s l (k+n) k;rw[Nat.add_sub_cancel_left] at e;rw[<-e];exact Wz _ _ _ _ AA
theorem UnT.lt{G:Gr}(a:Xq G)(h0:s<0)(c:Zp s<G.nons.length)(h:UnT G (Zp s) n r t):r<Zv G s n:=by
 obtain⟨i,x,q,g,b,f,d,rfl,_⟩:=h;rw[Uu a h0 c];refine AJ (Nat.add_lt_add_left (d.lt a (InG.at a.fits b)) _) ?_;have:=Y3 (Zv G) b (Zp s) n;rw[if_pos f] at this;rw[<-this];exact Kj _ _ _ _ _
theorem UnL.one{G:Gr}(a:Xq G)(h:UnL G l n r t)(f:InG G l):∀{c:Nat} {o:List Nat},UnL G l n c o->r=c->t=o:=by
 induction h with
 | nil=>intro c o b _;cases b;rfl
 | @term s l n r t h0 _ L =>
   intro c o b d;generalize y:n+1=m at b;cases b with
   | term _ F =>
     obtain rfl:=Nat.succ.inj y;exact L f.tail F d
   | non h1=>exact absurd h1 AA
 | @non s l n k i q r x R U h0 g z u1 u2 M N =>
   intro c o b d;generalize y:k+n=m at b d;cases b with
   | term h1=>exact absurd h1 AA
   | @non _ _ p B J O c T S V _ j A u C =>
     have v:=f s (AX ..) h0;have a1:=u2.lt a f.tail;have a2:=C.lt a f.tail;have D:=UnT.lt a h0 v ⟨i,x,q,R,g,z,u1,rfl,rfl⟩;have E:=UnT.lt a h0 v ⟨J,T,O,S,j,A,u,rfl,rfl⟩;have c1:=Lc D a1;have c2:=Lc E a2;rw[Ed,Ed] at d;obtain⟨rfl,I⟩:=ahead_one (n:=B+p) (by rw[show B+p-k=n by omega];exact c1) (by rw[Nat.add_sub_cancel_left];exact c2) d;obtain rfl:n=p:=AA
     obtain⟨H,rfl⟩:=quo_one a1 a2 I;obtain⟨rfl,rfl⟩:=Zso g j z A (u1.lt a (InG.at a.fits g)) (u.lt a (InG.at a.fits j)) H;rw[g] at j;obtain rfl:=BI j;rw[M (InG.at a.fits g) u rfl,N f.tail C rfl]
theorem UnT.one{G:Gr}(b:Xq G){a:Nat}{j:List Nat}(h:UnT G a n r t)(k:UnT G a n r j):t=j:=by
 obtain⟨i,x,q,u,c,m,f,rfl,rfl⟩:=h;obtain⟨p,y,s,v,d,o,g,l,rfl⟩:=k;obtain⟨rfl,rfl⟩:=Zso c d m o (f.lt b (InG.at b.fits c)) (g.lt b (InG.at b.fits d)) l;rw[c] at d;obtain rfl:=BI d;rw[f.one b (InG.at b.fits c) g rfl]
theorem M4.blk{w:World}{base:Nat}{A:Option Addr}{c:Nat}(h:M4 w base A n c xs)(a:(Value.slice A n c).ownBlock=some g):base<=g/\g<w.heap.size/\∃cs,Blk w g 3 cs:=by
 refine⟨(h.1.lt g a).1,(h.1.lt g a).2,?_⟩;rcases h.1.2 with ⟨e,_⟩ | ⟨f,cap,b,e,_,d,_⟩
 ·rw[e] at a;cases a
 rw[e] at a;injection a with a;subst a;exact⟨b,d⟩
theorem UnL.parts{G:Gr}(d:Xq G)(h:UnL G (s::l) n r t)(f:InG G (s::l)):∃k q g a b,k<=n/\r=Yv (Zv G) s l n k+(q*Zx (Zv G) l (n-k)+g)/\g<Zx (Zv G) l (n-k)/\q<Zv G s k/\UnL G l (n-k) g b/\t=a++b/\(0<=s->a=[]/\q=0/\k=1)/\(s<0->UnT G (Zp s) k q a):=by
 cases h with
 | @term _ _ n r t h0 h1 =>
   refine⟨1,0,r,[],t,AA,?_,?_,?_,h1,rfl,λ_=>⟨rfl,rfl,rfl⟩,λh=>AA⟩
   ·rw[Xy,Ug,Xb G h0];simp[K0]
   ·exact h1.lt d f.tail
   ·rw[Xb G h0];simp[K0]
 | @non _ _ n k i q r x a b h0 m o u1 u2 =>
   have j:UnT G (Zp s) k (Z0 (Zv G) G.rules (Zp s) i k+q) (i::a):=⟨i,x,q,a,m,o,u1,rfl,rfl⟩;refine⟨k,Z0 (Zv G) G.rules (Zp s) i k+q,r,i::a,b,AA,?_,?_,?_,?_,rfl,λh=>AA,λ_=>j⟩
   ·rw[Nat.add_sub_cancel_left,Ed]
   ·rw[Nat.add_sub_cancel_left];exact u2.lt d f.tail
   ·exact j.lt d h0 (f s (AX ..) h0)
   rw[Nat.add_sub_cancel_left];exact u2
section
open Go.Maps (Keyed IsMap Tidy)
structure Wd (W0:World) (k:BkH) (h:GH) (G:Gr) (S:Nat->Prop) (w:World):Prop where
 base:Below W0.heap.size W0 w
 box:Blk w k.c 170 #[.slice h.a1 h.n1 h.c1,.slice h.a2 h.n2 h.c2,.slice h.a3 h.n3 h.c3,.int .i64 G.start,.map (some k.t)]
 low:W0.heap.size<=k.t
 known:∃ts,Gk w k.t G S ts
theorem Wd.map_noInt{w:World}{k:BkH}{h:GH}{G:Gr}{S:Nat->Prop}(C:Wd a k h G S w):Qf w k.t:=by
 obtain⟨ts,b⟩:=C.known;exact b.map.noInt
theorem Wd.keep{w:World}{k:BkH}{h:GH}{G:Gr}{S:Nat->Prop}(C:Wd a k h G S w)(c:Off k.map w w'):Zf w w':=Zf.of_off c λg b=>by rw[b];exact C.map_noInt
theorem Wd.map_lt{w:World}{k:BkH}{h:GH}{G:Gr}{S:Nat->Prop}(C:Wd a k h G S w):k.t<w.heap.size:=by
 obtain⟨ts,b⟩:=C.known;exact b.map.lt
theorem Wd.move{g w:World}{k:BkH}{h:GH}{G:Gr}{S:Nat->Prop}(C:Wd g k h G S w)(f:Off P w w')(l:Zf w w')(h1:∀b,P b->S b/\g.heap.size<=b/\b≠k.c/\b≠k.t):Wd g k h G S w':=by
 have m:=C.map_lt;refine⟨C.base.trans (f.is_below C.base.size λb j=>(h1 b j).2.1),f.blk C.box λa=>(h1 _ a).2.2.1 rfl,C.low,?_⟩;obtain⟨ts,d⟩:=C.known;exact⟨ts,d.map.block (f.keep _ m λa=>(h1 _ a).2.2.2 rfl),d.key,λp a=>⟨(d.val p a).1.kept l (f.keep _ (d.val p a).1.lt λj=>(d.val p a).2 (h1 _ j).1),(d.val p a).2⟩⟩
theorem Wd.less{c w:World}{k:BkH}{h:GH}{G:Gr}{S S':Nat->Prop}(C:Wd c k h G S w)(f:∀b,S' b->S b):Wd c k h G S' w:=by
 refine⟨C.base,C.box,C.low,?_⟩;obtain⟨ts,a⟩:=C.known;exact⟨ts,a.map,a.key,λp d=>⟨(a.val p d).1,λh1=>(a.val p d).2 (f _ h1)⟩⟩
end
section
open Go.Maps (Keyed IsMap Tidy)
open Go.Maps (Keyed IsMap Tidy)
def Zuw(a:World)(k:BkH)(h:GH)(G:Gr)(S:Nat->Prop)(w:World)(x:Nat)(e:Ending)(w':World):Prop :=
 Wd a k h G S w'/\Off k.map w w'/\∃A n c d,e = .returned (.agg #[.slice A n c,.bool d])/\Z1 w' A n c d x
structure PM (W0:World) (k:BkH) (h:GH) (G:Gr) (S':Nat->Prop) (w:World) (gR:Nat) (b:Nat->Bool) (u:Nat->Value) (X:World):Prop where
 ex:∃S2,Wd W0 k h G S2 X/\(∀q,S' q->S2 q)/\(∀q,S2 q->q<X.heap.size)/\(b 12=true->Cel S2 gR X (u 12) (b 14) (u 4))/\(b 13=true->Cel S2 gR X (u 13) (b 15) (u 11))
 off:Off k.map w X
 res:Blk X gR 174 #[.slice none 0 0,.bool false]
 ne:b 12=true->b 13=true->u 12≠u 13
end
section
open Go.Maps (Keyed IsMap Tidy)
open Go.Maps (Keyed IsMap Tidy)
variable {W0:World} {k:BkH} {h:GH} {G:Gr} {S':Nat->Prop} {w:World} {gR:Nat} {b:Nat->Bool} {u:Nat->Value} {X:World}
theorem PM.idle(H:PM W0 k h G S' w gR b u X)(i:Nat)(v:Value)(hi:i≠4/\i≠11/\i≠12/\i≠13/\i≠14/\i≠15):PM W0 k h G S' w gR (Mz b i) (upd u i v) X:=by
 obtain⟨n,o,a,c,p,q⟩:=hi;obtain⟨⟨d,a1,a2,a3,f,g⟩,j,l,m⟩:=H;refine⟨⟨d,a1,a2,a3,?_,?_⟩,j,l,?_⟩
 ·rw[Ys (Ne.symm a),Ys (Ne.symm p),Yj (Ne.symm a),Yj (Ne.symm n)];exact f
 ·rw[Ys (Ne.symm c),Ys (Ne.symm q),Yj (Ne.symm c),Yj (Ne.symm o)];exact g
 rw[Ys (Ne.symm a),Ys (Ne.symm c),Yj (Ne.symm a),Yj (Ne.symm c)];exact m
theorem Zu.of_off{S:Nat->Prop}{w:World}(h:Off S w w')(a:∀g,S g->∀o z,w.cell? ⟨g,o,none⟩≠some (Value.int .u32 z)):Zu w w':=⟨h.size,λb c ⟨o,z,d⟩=>h.keep b c λf=>a b f o z d⟩
theorem Wd.moveN{j w:World}{k:BkH}{h:GH}{G:Gr}{S:Nat->Prop}(C:Wd j k h G S w)(g:Off P w w')(q:Zu w w')(h1:∀b,P b->S b/\j.heap.size<=b/\b≠k.c/\b≠k.t):Wd j k h G S w':=by
 have r:=C.map_lt;refine⟨C.base.trans (g.is_below C.base.size λb l=>(h1 b l).2.1),g.blk C.box λa=>(h1 _ a).2.2.1 rfl,C.low,?_⟩;obtain⟨ts,f⟩:=C.known;refine⟨ts,f.map.block (g.keep _ r λa=>(h1 _ a).2.2.2 rfl),f.key,λp a=>⟨?_,(f.val p a).2⟩⟩;obtain⟨A,n,c,d,m,o⟩:=(f.val p a).1;exact⟨A,n,c,d,(g.keep _ m.lt λl=>(f.val p a).2 (h1 _ l).1).trans m,o.nkept q⟩
end
theorem Wd.wide{f w:World}{k:BkH}{h:GH}{G:Gr}{S:Nat->Prop}(C:Wd f k h G S w)(j:∀q,P q->∀cs,¬Blk w q 174 cs):Wd f k h G (λq=>S q\/P q) w:=by
 refine⟨C.base,C.box,C.low,?_⟩;obtain⟨ts,a⟩:=C.known;refine⟨ts,a.map,a.key,λp b=>⟨(a.val p b).1,?_⟩⟩;rintro (h1 | h1)
 ·exact (a.val p b).2 h1
 obtain⟨A,n,c,d,g,_⟩:=(a.val p b).1;exact j _ h1 _ g
structure Me (W0:World) (k:BkH) (h:GH) (G:Gr) (mk:Nat) (cs:List Nat) (S:Nat->Prop) (A:Option Addr) (c:Nat) (W:World):Prop where
 bk:Wd W0 k h G S W
 box:Blk W mk 116 #[.pointer (some ⟨k.c,0,none⟩),.slice A cs.length c]
 row:M4 W W0.heap.size A cs.length c (cs.map λi:Nat=>(i:Int))
 own:S mk/\∀g,(Value.slice A cs.length c).ownBlock=some g->S g
 lt:∀q,S q->q<W.heap.size
 low:W0.heap.size<=mk
 few:cs.length<=300
def MkAt(a:World)(k:BkH)(h:GH)(G:Gr)(mk:Nat)(cs:List Nat)(W:World):Prop:=∃S A c,Me a k h G mk cs S A c W
def MkRet(a:World)(k:BkH)(h:GH)(G:Gr)(mk:Nat)(cs t:List Nat)(w:World)(e:Ending)(w':World):Prop :=
 Zu w w'/\((cs.length+t.length<=300/\e = .returned (.bool true)/\MkAt a k h G mk (cs++t) w')\/(300<cs.length+t.length/\e = .returned (.bool false)/\Below a.heap.size a w'))
def FC(a:World)(k:BkH)(h:GH)(G:Gr)(m:Nat):Prop:=∀(mk:Nat) (cs:List Nat) (l:List Int) (n r:Nat) (t:List Nat) (Al:Option Addr) (b:Nat) (Ar:Option Addr) (cr:Nat) (w:World),t.length<=m->UnL G l n r t->InG G l->Zx (Zv G) l n<big->J1 l n->(∀s∈l,G.has s=true)->Za .i64 a Al l.length b l->Zq .u32 w Ar (limbs r).length cr (limbs r)->MkAt a k h G mk cs w->
 Calls Tryz.prog 130 #[.pointer (some ⟨mk,0,none⟩),.slice Al l.length b,.int .i64 (n:Int),.slice Ar (limbs r).length cr] w (MkRet a k h G mk cs t w)
def TC(a:World)(k:BkH)(h:GH)(G:Gr)(m:Nat):Prop:=∀(mk:Nat) (cs:List Nat) (s:Int) (n r:Nat) (t:List Nat) (Ar:Option Addr) (cr:Nat) (w:World),t.length<=m->s<0->Zp s<G.nons.length->UnT G (Zp s) n r t->Zv G s n<big->n<=10->Zq .u32 w Ar (limbs r).length cr (limbs r)->MkAt a k h G mk cs w->
 Calls Tryz.prog 77 #[.pointer (some ⟨mk,0,none⟩),.int .i64 (Zp s:Int),.int .i64 (n:Int),.slice Ar (limbs r).length cr] w (MkRet a k h G mk cs t w)
structure Cc (W0:World) (k:BkH) (h:GH) (G:Gr) (tk:Nat) (z:List Int) (S:Nat->Prop) (A:Option Addr) (c:Nat) (W:World):Prop where
 bk:Wd W0 k h G S W
 box:Blk W tk 108 #[.pointer (some ⟨k.c,0,none⟩),.slice A z.length c]
 row:Za .i64 W A z.length c z
 own:S tk
 lt:∀q,S q->q<W.heap.size
 low:W0.heap.size<=tk
def TlAt(a:World)(k:BkH)(h:GH)(G:Gr)(b:Nat)(z:List Int)(W:World):Prop:=∃S A c,Cc a k h G b z S A c W
def TlRet(a:World)(k:BkH)(h:GH)(G:Gr)(b:Nat)(z:List Int)(n r:Nat)(w:World)(e:Ending)(w':World):Prop :=
 ∃A c,e = .returned (.tuple #[.slice A (limbs r).length c,.int .i64 (n:Int)])/\Zq .u32 w' A (limbs r).length c (limbs r)/\TlAt a k h G b z w'/\Zf w w'
def FT(a:World)(k:BkH)(h:GH)(G:Gr)(m:Nat):Prop:=∀(b:Nat) (l:List Int) (n r:Nat) (t:List Nat) (z:List Int) (Al:Option Addr) (d:Nat) (w:World),t.length<=m->UnL G l n r t->InG G l->Zx (Zv G) l n<big->J1 l n->(∀s∈l,G.has s=true)->Za .i64 a Al l.length d l->TlAt a k h G b (t.map (λi:Nat=>(i:Int))++z) w->
 Calls Tryz.prog 123 #[.pointer (some ⟨b,0,none⟩),.slice Al l.length d] w (TlRet a k h G b z n r w)
def TT(b:World)(k:BkH)(h:GH)(G:Gr)(m:Nat):Prop:=∀(a:Nat) (s:Int) (n r:Nat) (t:List Nat) (z:List Int) (w:World),t.length<=m->s<0->Zp s<G.nons.length->UnT G (Zp s) n r t->Zv G s n<big->n<=10->TlAt b k h G a (t.map (λi:Nat=>(i:Int))++z) w->
 Calls Tryz.prog 73 #[.pointer (some ⟨a,0,none⟩)] w (TlRet b k h G a z n r w)
theorem valcell_set{l:Option Addr}{ns cs:Nat}{m:Bool}(d:Blk a g 46 #[.slice l ns cs,.bool m])(A:Option Addr)(n c:Nat)(b:Bool):
 Off (λk=>k=g) a ((a.setCell ⟨g,0,none⟩ (.slice A n c)).setCell ⟨g,1,none⟩ (.bool b)) /\
 Blk ((a.setCell ⟨g,0,none⟩ (.slice A n c)).setCell ⟨g,1,none⟩ (.bool b)) g 46 #[.slice A n c,.bool b]/\Zf a ((a.setCell ⟨g,0,none⟩ (.slice A n c)).setCell ⟨g,1,none⟩ (.bool b)):=by
 have j:Off (λk=>k=g) a ((a.setCell ⟨g,0,none⟩ (.slice A n c)).setCell ⟨g,1,none⟩ (.bool b)):=(Off.of_set a g 0 (.slice A n c)).trans (Off.of_set _ g 1 (.bool b)) λ_ _ h=>h;refine⟨j,(d.set 0 _).set 1 _,Zf.of_off j λq p=>?_⟩;rw[p];intro o k z f;rw[d.cell o] at f;rcases o with _ | _ | o <;> cases f
section
variable {W0:World} {k:BkH} {h:GH} {G:Gr} {mk:Nat} {cs:List Nat} {S:Nat->Prop} {A:Option Addr} {c:Nat} {W:World}
theorem Me.ne_c(M:Me W0 k h G mk cs S A c W):mk≠k.c:=λe=>by
 have h1:=M.bk.box;rw[<-e] at h1;exact absurd (h1.same_ty M.box) AC
end
end Go.Proofs.YtggbjdmpjidhgaaGreatDoor
