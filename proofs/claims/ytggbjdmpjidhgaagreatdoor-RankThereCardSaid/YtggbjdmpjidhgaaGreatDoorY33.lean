/- ranks: a teller's forest (walked). -/
import Derived.Test.YtggbjdmpjidhgaaGreatDoorY25
import Derived.Test.YtggbjdmpjidhgaaGreatDoorY26
import Derived.Test.YtggbjdmpjidhgaaGreatDoorY27
set_option linter.all false
set_option maxHeartbeats 1500000
set_option maxRecDepth 100000
namespace Go.Proofs.YtggbjdmpjidhgaaGreatDoor
open Go.RowKit Go.Proofs.Tryz
variable{G:Gr}{t:List Int}
theorem Vj.there{d:List Nat}(h:Vj G t d 0):∃wd ps k,Xl G t=some (wd,ps,k)/\(Z2 G (wd.length:Int)).2=0/\Zm d=true/\val d<val (Z2 G (wd.length:Int)).1 /\
 ∀j f,V9 G (wd.length:Int) d j f->f=0/\j.map (λi:Nat=>(i:Int))=t:=by
 rcases h with ⟨_,_,e⟩ | ⟨wd,ps,k,a,⟨_,_,e⟩ | ⟨_,c,_,e⟩ | ⟨b,c,_,u,r,q,e,rfl⟩⟩
 ·cases e
 ·cases e
 ·exact absurd e.symm c
 obtain⟨o,m,_⟩:=Zxc a;have B:=Ztb a;obtain⟨_,g,y,h1,l⟩:=Zzy o b B c;obtain⟨s0,D,E⟩:=Fa g.fits;have n:r<Zv (Zi G) (-1-(Zi G).start) wd.length:=UnT.lt g s0 E (by rw[D];exact q);have p:Zm (limbs r)=true:=Ym r (Nat.lt_trans n y);refine⟨wd,ps,k,a,c,p,by rw[l,Yd];exact n,λj f A=>?_⟩;have z:¬badU G (wd.length:Int) (limbs r):=by
  rintro (h | h | h | h)
  ·rw[o] at h;cases h
  ·omega
  ·omega
  rw[p] at h;cases h
 rcases A with ⟨x,_⟩ | ⟨_,x,_⟩ | ⟨_,_,x,_⟩ | ⟨_,_,_,v,s,C⟩
 ·exact absurd x z
 ·exact absurd c x
 ·rw[l,Yd] at x;omega
 rw[Yd,DC] at s;obtain rfl:=q.one g s;have F:u.length<=300:=by rw[e] at m;simpa using m
 rcases C with ⟨x,_⟩ | ⟨_,rfl,rfl⟩
 ·omega
 exact⟨rfl,e.symm⟩
theorem Vj.err{b:List Nat}{a:Nat}(h:Vj G t b a)(c:a≠0):b=[]:=by
 rcases h with ⟨_,h,_⟩ | ⟨_,_,_,_,⟨_,h,_⟩ | ⟨_,_,h,_⟩ | ⟨_,_,h,_⟩⟩
 ·exact h
 ·exact h
 ·exact h
 exact absurd h c
theorem Vj.lim{a:List Nat}{b:Nat}(h:Vj G t a b):Lim a:=by
 rcases h with ⟨_,rfl,_⟩ | ⟨_,_,_,_,⟨_,rfl,_⟩ | ⟨_,_,rfl,_⟩ | ⟨_,_,_,_,r,_,_,rfl⟩⟩
 ·exact Lim.nil
 ·exact Lim.nil
 ·exact Lim.nil
 exact Z9 r
theorem rankThere_walk(h:GH)(G:Gr)(Ar:Option Addr)(nr cr:Nat)(zs:List Int)(w:World)(b0:GrIn w h G)(az:Nj .i64 w Ar nr cr zs)(ak:Q2 w):
 Calls prog 8 #[GV h G.start,.slice Ar nr cr] w λe w'=>e = .returned (.bool true)/\Below w w w':=by
 obtain⟨ss,p,b2⟩:=az.ints;obtain rfl:=p.len;have ch:=p.cap;obtain⟨f,hs,b1⟩:=b0;obtain⟨a1,n1,c1,a2,n2,c2,a3,n3,c3⟩:=h;have e1:G.terms.length=n1:=f.terms.len;have e2:G.nons.length=n2:=f.nons.len;have e3:G.rules.length=n3:=f.rules.len;have y:=Zy w (.cells #[.slice a1 n1 c1,.slice a2 n2 c2,.slice a3 n3 c3,.int .i64 G.start] 26);have am:=Y1.new w 26 ⟨a1,n1,c1,a2,n2,c2,a3,n3,c3⟩ G.start;have CA:=LH Zyk;have c:=LH f;have Hs:=LH hs;have t:=LH p;have s:=LH ak;clear b1 f hs az b2 p ak;go_enter func8,ntmps8;go_wp2_with fail;generalize w.alloc (.cells #[.slice a1 n1 c1,.slice a2 n2 c2,.slice a3 n3 c3,.int .i64 G.start] 26)=W0 at *;refine (CA.out W0 (s.out.below y)).mono ?_;rintro e W1⟨rfl,C⟩;have z:=Zz y C;have F:=am.below C;have⟨y5,y0,y1,y2,y3⟩:=F;simp only[] at y0 y1 y2 y3;go_wp2_with fail;refine (Cu ⟨a1,n1,c1,a2,n2,c2,a3,n3,c3⟩ G W1 (c.out.below z)).mono ?_;rintro e W2⟨rfl,D⟩;have aj:=Zz z D;have an:=F.below D;have a:=LH aj;have V:=LH an;clear y0 y1 y2 y3 y5 am F C D y z aj an;have⟨y5,y0,y1,y2,y3⟩:=V.out;simp only[] at y0 y1 y2 y3;rcases J:G.great with _ | _
 case true =>
  clear J;go_wp2_with fail;go_ret;exact⟨rfl,a⟩
 obtain⟨l1,l2,l3,_⟩:=Kv J;rw[e1] at l1;rw[e2] at l2;rw[e3] at l3;clear J e1 e2 e3;by_cases cg:(310:Int)<(ss.length:Int)
 case pos =>
  go_wp2_with fail;go_ret;exact⟨rfl,a⟩
 go_wp2_with fail;have cR:=Cs ⟨a1,n1,c1,a2,n2,c2,a3,n3,c3⟩ G Ar cr ss W2 (c.below a) Hs (s.below a) (by simp only[];omega) (by simp only[];omega) (by simp only[];omega) (t.below a) AA;refine cR.mono ?_;rintro e W3⟨E,q,j,P,k3,rfl,au,d⟩;have g:=LH (Zz a E);have W:=LH (V.below E);have bf:=LH au;clear y0 y1 y2 y3 y5 cR E au;by_cases I:j=0
 case neg =>
  have cj:((j:Int) != 0)=true:=by rw[BM];omega
  obtain rfl:=d.err I;clear I d;go_wp2_with fail;go_ret;exact⟨rfl,g⟩
 subst I;have hz:(((0:Nat):Int) != 0)=false:=rfl;have aq:=d.lim;obtain⟨wd,ps,k,ay,ao,ax,b,a4⟩:=d.there;have Z:=LH ay;have bj:=LH ao;have bn:=LH ax;have bm:=LH b;have bo:=LH a4;have Y:=LH aq;clear d ay ao ax b a4 aq;have⟨y5,y0,y1,y2,y3⟩:=W.out;simp only[] at y0 y1 y2 y3;go_wp2_with fail;have cW:=B4 ⟨a1,n1,c1,a2,n2,c2,a3,n3,c3⟩ G Ar ss.length cr ss W3 (c.below g) (t.below g) AA (by simp only[];omega) (by simp only[];omega) (by simp only[];omega);refine cW.mono ?_;rintro e W4⟨l,⟨aw,_⟩ | ⟨ca,b9,k',A4,k4,M,rfl,a5⟩⟩
 ·rw[Z] at aw;cases aw
 obtain⟨rfl,rfl,rfl⟩:wd=ca/\ps=b9/\k=k':=by rw[Z] at M;simpa using M
 have S:=LH (Zz g l);have X:=LH (W.below l);have bg:=LH (bf.below l);have ck:=a5.cap;clear y0 y1 y2 y3 y5 cW l M a5;have⟨y5,y0,y1,y2,y3⟩:=X.out;simp only[] at y0 y1 y2 y3;go_wp2_with fail;have u:=Lj ⟨a1,n1,c1,a2,n2,c2,a3,n3,c3⟩ G (wd.length:Int) W4 (c.below S) (by simp only[];omega) (by simp only[];omega) (by simp only[];omega);obtain⟨x,H⟩:∃x,Z2 G (wd.length:Int)=x:=⟨_,rfl⟩;obtain⟨O,ec⟩:=x;obtain rfl:ec=0:=by have:=bj.out;rw[H] at this;exact this
 have o:=Kg G (wd.length:Int);have b:=bm.out;rw[H] at u o b;have ap:Vq q O<0:=by
  unfold Vq;rw[bn,o.2 rfl];exact Q5.2 b
 have bk:=LH ap;have bl:=LH o.1;have R:=LH u;clear H o b ap u;refine R.out.mono ?_;rintro e W5⟨A5,k5,rfl,av,m⟩;have r:=LH (Zz S m);have bi:=LH (X.below m);have U:=LH (bg.below m);have bb:=LH av;clear y0 y1 y2 y3 y5 R m av;have⟨y5,y0,y1,y2,y3⟩:=bi.out;simp only[] at y0 y1 y2 y3;go_wp2_with fail;have cU:=Ki ⟨a1,n1,c1,a2,n2,c2,a3,n3,c3⟩ G (wd.length:Int) P k3 q W5 (c.below r) Hs (s.below r) (by simp only[];omega) (by simp only[];omega) (by simp only[];omega) U Y;refine cU.mono ?_;rintro e W6⟨n,N,j,A6,k6,rfl,A,hU⟩;obtain⟨rfl,L⟩:=bo N j hU;have ba:=LH (Zz r n);have bh:=LH (U.below n);have bc:=LH (bb.below n);rw[L] at A;have ar:N.length=ss.length:=by rw[<-L];simp
 have HI:=LH A;have cd:=LH ar;clear y0 y1 y2 y3 y5 cU n A hU L ar;go_wp2_with fail;have v:=Le P _ k3 q A5 _ k5 O W6 bh bc Y bl;unfold Quiet at v;refine v.mono ?_;rintro e W7⟨rfl,B⟩;have ci:=bk.out;have T:=LH (Zz ba (B.below _));have be:=LH (HI.below (B.below _));clear v B;generalize Vq q O=cv at *;go_wp2_with fail;have cI:=Mr A6 N.length k6 ss Ar ss.length cr ss W7 be (t.below T);rw[beq_self_eq_true] at cI;refine cI.mono ?_;rintro e W8⟨rfl,bz⟩;go_wp2_with fail;go_ret;exact⟨AE,Zz T (bz.below _)⟩
