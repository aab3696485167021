/- ranks: what the laws share. -/
import Derived.Test.YtggbjdmpjidhgaaGreatDoorV36
import Derived.Test.YtggbjdmpjidhgaaGreatDoorV39
import Derived.Test.YtggbjdmpjidhgaaGreatDoorV40
import Derived.Test.YtggbjdmpjidhgaaGreatDoorV41
import Derived.Test.YtggbjdmpjidhgaaGreatDoorV42
set_option linter.all false
set_option maxHeartbeats 1500000
set_option maxRecDepth 100000
namespace Go.Proofs.YtggbjdmpjidhgaaGreatDoor
open Go.RowKit Go.Proofs.Tryz
theorem Vj.lim{G:Gr}{t:List Int}{a:List Nat}{b:Nat}(h:Vj G t a b):Lim a:=by
 rcases h with ⟨_,rfl,_⟩ | ⟨_,_,_,_,⟨_,rfl,_⟩ | ⟨_,_,rfl,_⟩ | ⟨_,_,_,_,r,_,_,rfl⟩⟩
 ·exact Lim.nil
 ·exact Lim.nil
 ·exact Lim.nil
 exact Z9 r
theorem rankThere_walk(h:GH)(G:Gr)(Ar:Option Addr)(nr cr:Nat)(zs:List Int)(w:World)(b0:GrIn w h G)(az:Nj .i64 w Ar nr cr zs)(ak:Q2 w):
 Calls prog 8 #[GV h G.start,.slice Ar nr cr] w λe w'=>e = .returned (.bool true)/\Below w w w':=by
 obtain⟨ss,p,b2⟩:=az.ints;obtain rfl:=p.len;have ch:=p.cap;obtain⟨f,hs,b1⟩:=b0;obtain⟨a1,n1,c1,a2,n2,c2,a3,n3,c3⟩:=h;have e1:G.terms.length=n1:=f.terms.len;have e2:G.nons.length=n2:=f.nons.len;have e3:G.rules.length=n3:=f.rules.len;have y:=Zy w (.cells #[.slice a1 n1 c1,.slice a2 n2 c2,.slice a3 n3 c3,.int .i64 G.start] 26);have am:=Y1.new w 26 ⟨a1,n1,c1,a2,n2,c2,a3,n3,c3⟩ G.start;have CA:=LH Zyk;have c:=LH f;have Hs:=LH hs;have t:=LH p;have s:=LH ak;clear b1 f hs az b2 p ak;go_enter func8,ntmps8;go_wp2_with fail;generalize w.alloc (.cells #[.slice a1 n1 c1,.slice a2 n2 c2,.slice a3 n3 c3,.int .i64 G.start] 26)=W0 at *;(with_reducible refine (CA.out W0 (s.out.below y)).mono ?_);rintro e W1⟨rfl,C⟩;have z:=Zz y C;have F:=am.below C;have⟨y5,y0,y1,y2,y3⟩:=F;simp only[] at y0 y1 y2 y3;go_wp2_with fail;(with_reducible refine (Cu ⟨a1,n1,c1,a2,n2,c2,a3,n3,c3⟩ G W1 (c.out.below z)).mono ?_);rintro e W2⟨rfl,D⟩;have aj:=Zz z D;have an:=F.below D;have a:=LH aj;have V:=LH an;clear y0 y1 y2 y3 y5 am F C D y z aj an;have⟨y5,y0,y1,y2,y3⟩:=V.out;simp only[] at y0 y1 y2 y3;rcases J:G.great with _ | _
 case true =>
  clear J;go_wp2_with fail;go_ret;exact⟨rfl,a.out⟩
 obtain⟨l1,l2,l3,_⟩:=Kv J;rw[e1] at l1;rw[e2] at l2;rw[e3] at l3;clear J e1 e2 e3;by_cases cg:(310:Int)<(ss.length:Int)
 case pos =>
  go_wp2_with fail;go_ret;exact⟨rfl,a.out⟩
 go_wp2_with fail;have cR:=Cs ⟨a1,n1,c1,a2,n2,c2,a3,n3,c3⟩ G Ar cr ss W2 (c.out.below a.out) Hs.out (s.out.below a.out) (by simp only[];omega) (by simp only[];omega) (by simp only[];omega) (t.out.below a.out) AA;(with_reducible refine cR.mono ?_);rintro e W3⟨E,q,j,P,k3,rfl,au,d⟩;have g:=LH (Zz a.out E);have W:=LH (V.out.below E);have bf:=LH au;clear y0 y1 y2 y3 y5 cR E au;by_cases I:j=0
 case neg =>
  have cj:((j:Int) != 0)=true:=by rw[BN];omega
  obtain rfl:=d.err I;clear I d;go_wp2_with fail;go_ret;exact⟨rfl,g.out⟩
 subst I;have hz:(((0:Nat):Int) != 0)=false:=rfl;have aq:=d.lim;obtain⟨wd,ps,k,ay,ao,ax,b,a4⟩:=d.there;have Z:=LH ay;have bj:=LH ao;have bn:=LH ax;have bm:=LH b;have bo:=LH a4;have Y:=LH aq;clear d ay ao ax b a4 aq;have⟨y5,y0,y1,y2,y3⟩:=W.out;simp only[] at y0 y1 y2 y3;go_wp2_with fail;have cW:=B4 ⟨a1,n1,c1,a2,n2,c2,a3,n3,c3⟩ G Ar ss.length cr ss W3 (c.out.below g.out) (t.out.below g.out) AA (by simp only[];omega) (by simp only[];omega) (by simp only[];omega);(with_reducible refine cW.mono ?_);rintro e W4⟨l,⟨aw,_⟩ | ⟨ca,b9,k',A4,k4,M,rfl,a5⟩⟩
 ·rw[Z.out] at aw;cases aw
 obtain⟨rfl,rfl,rfl⟩:wd=ca/\ps=b9/\k=k':=by rw[Z.out] at M;simpa using M
 have S:=LH (Zz g.out l);have X:=LH (W.out.below l);have bg:=LH (bf.out.below l);have ck:=a5.cap;clear y0 y1 y2 y3 y5 cW l M a5;have⟨y5,y0,y1,y2,y3⟩:=X.out;simp only[] at y0 y1 y2 y3;go_wp2_with fail;have u:=Lj ⟨a1,n1,c1,a2,n2,c2,a3,n3,c3⟩ G (wd.length:Int) W4 (c.out.below S.out) (by simp only[];omega) (by simp only[];omega) (by simp only[];omega);obtain⟨x,H⟩:∃x,Z2 G (wd.length:Int)=x:=⟨_,rfl⟩;obtain⟨O,ec⟩:=x;obtain rfl:ec=0:=by have:=bj.out;rw[H] at this;exact this
 have o:=Kg G (wd.length:Int);have b:=bm.out;rw[H] at u o b;have ap:Vq q O<0:=by
  unfold Vq;rw[bn.out,o.2 rfl];exact Q5.2 b
 have bk:=LH ap;have bl:=LH o.1;have R:=LH u;clear H o b ap u;(with_reducible refine R.out.mono ?_);rintro e W5⟨A5,k5,rfl,av,m⟩;have r:=LH (Zz S.out m);have bi:=LH (X.out.below m);have U:=LH (bg.out.below m);have bb:=LH av;clear y0 y1 y2 y3 y5 R m av;have⟨y5,y0,y1,y2,y3⟩:=bi.out;simp only[] at y0 y1 y2 y3;go_wp2_with fail;have cU:=Ki ⟨a1,n1,c1,a2,n2,c2,a3,n3,c3⟩ G (wd.length:Int) P k3 q W5 (c.out.below r.out) Hs.out (s.out.below r.out) (by simp only[];omega) (by simp only[];omega) (by simp only[];omega) U.out Y.out;(with_reducible refine cU.mono ?_);rintro e W6⟨n,N,j,A6,k6,rfl,A,hU⟩;obtain⟨rfl,L⟩:=bo.out N j hU;have ba:=LH (Zz r.out n);have bh:=LH (U.out.below n);have bc:=LH (bb.out.below n);rw[L] at A;have ar:N.length=ss.length:=by rw[<-L];simp
 have HI:=LH A;have cd:=LH ar;clear y0 y1 y2 y3 y5 cU n A hU L ar;go_wp2_with fail;have v:=Le P _ k3 q A5 _ k5 O W6 bh.out bc.out Y.out bl.out;unfold Quiet at v;(with_reducible refine v.mono ?_);rintro e W7⟨rfl,B⟩;have ci:=bk.out;have T:=LH (Zz ba.out (B.below _));have be:=LH (HI.out.below (B.below _));clear v B;generalize Vq q O=cv at *;go_wp2_with fail;have cI:=Mr A6 N.length k6 ss Ar ss.length cr ss W7 be.out (t.out.below T.out);rw[beq_self_eq_true] at cI;(with_reducible refine cI.mono ?_);rintro e W8⟨rfl,bz⟩;go_wp2_with fail;go_ret;exact⟨AE,Zz T.out (bz.below _)⟩
end Go.Proofs.YtggbjdmpjidhgaaGreatDoor
