/- sample: the law SampleDraws, walked (printed by gen/sml.py). -/
import Derived.Test.YtaagompdgiobeaaGreatDoorV27
import Derived.Test.YtaagompdgiobeaaGreatDoorV28
import Derived.Test.YtaagompdgiobeaaGreatDoorV30
set_option linter.all false
set_option maxHeartbeats 1500000
set_option maxRecDepth 100000
namespace Go.Proofs.YtaagompdgiobeaaGreatDoor
open Go.RowKit Go.Proofs.Tryz
theorem sampleDraws_walk(h:GH)(G:Gr)(x:Int)(Ar:Option Addr)(S cr:Nat)(zs:List Int)(w:World)(ai:GrIn w h G)(hx:(Lit.int .i64 x).wf=true)(P:Nj .u32 w Ar S cr zs)(I:Q2 w):
 Calls prog 3 #[GV h G.start,.int .i64 x,.slice Ar S cr] w λe w'=>e = .returned (.bool true)/\Below w w w':=by
 obtain⟨xs,d,O⟩:=P.limbs;obtain rfl:=d.len;have ax:=d.cap;have z:=LH d;have y:=LH O;obtain⟨c,R,aj⟩:=ai;obtain⟨a1,n1,c1,a2,n2,c2,a3,n3,c3⟩:=h;have B:G.terms.length=n1:=c.terms.len;have C:G.nons.length=n2:=c.nons.len;have D:G.rules.length=n3:=c.rules.len;have k:=Zy w (.cells #[.slice a1 n1 c1,.slice a2 n2 c2,.slice a3 n3 c3,.int .i64 G.start] 26);have M:=Y1.new w 26 ⟨a1,n1,c1,a2,n2,c2,a3,n3,c3⟩ G.start;have CA:=LH Zqu;have j:=LH c;have Hs:=LH R;have t:=LH I;go_enter func3,ntmps3;go_wp2_with fail;generalize w.alloc (.cells #[.slice a1 n1 c1,.slice a2 n2 c2,.slice a3 n3 c3,.int .i64 G.start] 26)=W0 at *;refine (CA.out W0 (t.out.below k)).mono ?_;rintro e W1⟨rfl,m⟩;have l:=Zz k m;have q:=M.below m;have⟨y5,y0,y1,y2,y3⟩:=q;simp only[] at y0 y1 y2 y3;go_wp2_with fail;refine (Cu ⟨a1,n1,c1,a2,n2,c2,a3,n3,c3⟩ G W1 (j.out.below l)).mono ?_;rintro e W2⟨rfl,n⟩;have E:=Zz l n;have N:=q.below n;have a:=LH E;have v:=LH N;have⟨y5,y0,y1,y2,y3⟩:=v.out;simp only[] at y0 y1 y2 y3;rcases r:G.great with _ | _
 case true =>
  go_wp2_with fail;go_ret;exact⟨rfl,a⟩
 obtain⟨l1,l2,l3,_⟩:=Kv r;rw[B] at l1;rw[C] at l2;rw[D] at l3;by_cases aw:(1100:Int)<(xs.length:Int)
 case pos =>
  go_wp2_with fail;go_ret;exact⟨rfl,a⟩
 go_wp2_with fail;have b:=Zri ⟨a1,n1,c1,a2,n2,c2,a3,n3,c3⟩ G x Ar xs.length cr xs W2 (j.below a) Hs (t.below a) (by simp only[];omega) (by simp only[];omega) (by simp only[];omega) (z.below a) y;refine b.mono ?_;rintro e W3⟨o,f,u,er,T,k3,rfl,F,J⟩;have g:=LH (Zz a o);have Z:=LH (v.below o);have s:=LH F;have Y:=LH J;have⟨y5,y0,y1,y2,y3⟩:=Z.out;simp only[] at y0 y1 y2 y3;go_wp2_with fail;have b:=Zq0 ⟨a1,n1,c1,a2,n2,c2,a3,n3,c3⟩ G x Ar xs.length cr xs W3 (j.below g) (by simp only[];omega) (by simp only[];omega) (by simp only[];omega) (z.below g) y;refine b.mono ?_;rintro e W4⟨p,ay,u',av,U,k4,rfl,H,L⟩;obtain⟨rfl,rfl,rfl⟩:=Y.one L;have V:=LH (Zz g p);have W:=LH (s.below p);have X:=LH H;go_wp2_with fail;have A:=Mr T f.length k3 (Zrc f) U f.length k4 (Zrc f) W4 W X;rw[beq_self_eq_true] at A;refine A.mono ?_;rintro e W5⟨rfl,hS⟩;go_wp2_with fail;go_ret;exact⟨AE,Zz V (hS.below _)⟩
