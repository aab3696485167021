/- how many forests any symbols have: the program's Of, walked. -/
import Derived.Test.YtggbjdmpjidhgaaGreatDoorY17
import Derived.Test.YtggbjdmpjidhgaaGreatDoorY19
set_option linter.all false
set_option maxHeartbeats 1500000
set_option maxRecDepth 100000
namespace Go.Proofs.YtggbjdmpjidhgaaGreatDoor
open Go.RowKit Go.Proofs.Tryz
variable{b:List Nat}{a:Nat}{G:Gr}
theorem cnt22A{m:Nat}(a:m<=4):Z2 Xt (m:Int)=Xm (Zx (Yk tab22A) [-1] m):=(cnt_of Zxf AA red22A Fh rfl).trans (of_told red22A Fh cyc22A ord22A chk22A AC AC AB a)
theorem Zxe:Xq Xt:=by
 have a:Xt.right=true/\(Zt Xt).getD Xt.start.toNat false=true:=⟨Zxf,by have:=red22A;unfold Xp at this;rw[AS] at this;exact this.2⟩;exact (U7 a.1 a.2 Fh cyc22A).1
theorem Ztt{k:Nat}(h:k<=4):Zv Xt (-1) k=tab22A k 0:=by
 have:=Zt9 Zxe (Bt Zxe.fits ord22A) chk22A k h 0 AC;exact this.symm
theorem M0:Z0 (Zv Xt) Xt.rules 0 1 1=0/\Yv (Zv Xt) (-1) [] 1 1=0/\Yv (Zv Xt) (-1) [-1] 2 1=0/\Yv (Zv Xt) (-1) [] 2 2=0/\Yv (Zv Xt) (-1) [-1] 3 1=0/\Yv (Zv Xt) (-1) [-1] 3 2=1:=by
 have a:Zv Xt (-1) 0=0:=(Ztt (k:=0) AC).trans AB;have b:Zv Xt (-1) 1=1:=(Ztt (k:=1) AC).trans AB;have c:Zv Xt (-1) 2=1:=(Ztt (k:=2) AC).trans AB;exact ahead22 a b c (by funext n;exact Xb Xt AC n)
theorem un1:UnT Xt (Zp (-1)) 1 0 [1]:=by
 rw[non22];exact⟨1,⟨0,[0],0⟩,0,[],rfl,rfl,.term AC .nil,by rw[M0.1],rfl⟩
theorem ul1:UnL Xt [-1] 1 0 [1]:=UnL.cat AC un1 .nil rfl M0.2.1
theorem un2:UnT Xt (Zp (-1)) 2 0 [0,1,1]:=by
 rw[non22];exact UnT.top (x:=⟨0,[-1,-1],-1⟩) rfl rfl (UnL.cat AC un1 ul1 rfl M0.2.2.1)
theorem ul2:UnL Xt [-1] 2 0 [0,1,1]:=UnL.cat AC un2 .nil rfl M0.2.2.2.1
theorem un22:UnT Xt 0 3 0 [0,1,0,1,1]/\UnT Xt 0 3 1 [0,0,1,1,1] :=
 ⟨UnT.top (x:=⟨0,[-1,-1],-1⟩) rfl rfl (UnL.cat AC un1 ul2 rfl M0.2.2.2.2.1),UnT.top (x:=⟨0,[-1,-1],-1⟩) rfl rfl (UnL.cat AC un2 ul1 rfl M0.2.2.2.2.2)⟩
theorem c22:Z2 Xt ((3:Nat):Int)=([2],0):=(cnt22A AC).trans AB
theorem unr22{t:List Nat}{v:Nat}(k:Zm b=true)(f:val b=v)(o:v<2)(l:UnT Xt 0 3 v t)(n:t.length<=300){g:List Nat}{c:Nat}(h:V9 Xt 3 b g c):g=t.map (Yr Xt)/\c=0:=by
 have e:Z2 Xt 3=([2],0):=c22;rcases h with ⟨a,_⟩ | ⟨_,a,_⟩ | ⟨_,_,a,_⟩ | ⟨_,_,_,p,d,h⟩
 ·exact absurd a (nobad22 k)
 ·exact absurd (by rw[e]) a
 ·rw[e,f] at a;have m:val [2]=2:=rfl;have a:val [2]<=v:=a;omega
 rw[start22,Fh,f] at d;obtain rfl:=l.one Zxe d;rcases h with ⟨h1,_⟩ | ⟨_,h1,j⟩
 ·omega
 exact⟨h1,j⟩
theorem u23A(h:V9 Xt 3 [] b a):b=[0,1,0,1,1]/\a=0:=by
 obtain⟨rfl,rfl⟩:=unr22 (v:=0) AC rfl AC un22.1 AC h;exact⟨by simp only[CJ,List.map_nil,kept22],rfl⟩
theorem u23B(h:V9 Xt 3 [1] b a):b=[0,0,1,1,1]/\a=0:=by
 obtain⟨rfl,rfl⟩:=unr22 (v:=1) AC rfl AC un22.2 AC h;exact⟨by simp only[CJ,List.map_nil,kept22],rfl⟩
theorem u23C{c:List Nat}{b:Nat}(h:V9 Xt 3 [2] c b):c=[]/\b=11:=by
 have e:Z2 Xt 3=([2],0):=c22;rcases h with ⟨a,_⟩ | ⟨_,a,_⟩ | ⟨_,_,_,h1,d⟩ | ⟨_,_,a,_⟩
 ·exact absurd a (nobad22 AC)
 ·exact absurd (by rw[e]) a
 ·exact⟨h1,d⟩
 rw[e] at a;exact absurd a AC
theorem r23A(h:Vj Xt [0,0,1,1,1] b a):b=[1]/\a=0:=by
 refine h.one (rs':=[1]) (er':=0) (.inr ⟨[0,0,0],[1,1,0,1,0],3,AB,.inr (.inr ⟨AC,by rw[show (([0,0,0]:List Int).length:Int)=((3:Nat):Int) from rfl,c22],rfl,[0,0,1,1,1],1,?_,?_,AB⟩)⟩)
 ·rw[start22,Fh];exact un22.2
 simp only[CJ,List.map_nil,kept22];rfl
section
open Go.Maps (Keyed IsMap Tidy)
theorem red_twice(b:G.right=true)(a:(Zt G).getD G.start.toNat false=true):Zi (Zi G)=Zi G:=red_id (Ju b a) λi hi=>red_use b a hi
theorem Dx(f:G.right=true)(d:Xp G=true)(g:Vh (Zi G)=0):Xq (Zi G)/\Ni (Zi G) (N5 (Zi G)).1:=by
 have a:(Zt G).getD G.start.toNat false=true:=by unfold Xp at d;rw[AS] at d;exact d.2
 have b:=Gr.fits f;have c:=Ju f a;have n:G.start.toNat∈Ze G:=Jm b a;have m:(Zt (Zi G)).getD (Zi G).start.toNat false=true:=by rw[Zuo b a];exact Zxa b (Gr.fits c) n
 obtain⟨j,k,h⟩:=U7 c m (red_twice f a) g;have l:(N5 (Zi G)).1=(Y4 (Yz (Zi G)) (Qm (Zi G)) (Zi G).nons.length (Zi G).nons.length).1:=by unfold N5;rw[c,k];rfl
 exact⟨j,by rw[l];exact h⟩
end
theorem Bb{n:Int}(g:G.right=true)(q:0<=n/\n<=10)(h0:(Z2 G n).2=0)(b:0<val (Z2 G n).1):
 Xp G=true/\Zxy (Zi G)/\Xq (Zi G)/\Zv (Zi G) (-1-(Zi G).start) n.toNat<big/\val (Z2 G n).1=Zv (Zi G) (-1-(Zi G).start) n.toNat/\(Z2 G n).1=limbs (Zv (Zi G) (-1-(Zi G).start) n.toNat):=by
 have k:¬(G.right=false\/n<0\/10<n):=by
  rintro (h | h | h)
  ·rw[g] at h;cases h
  ·omega
  omega
 unfold Z2 at h0 b ⊢;rw[if_neg k] at h0 b ⊢;by_cases a:Xp G=false
 ·rw[if_pos a] at b;exact absurd b AC
 rw[if_neg a] at h0 b ⊢;have a:Xp G=true:=by simpa using a
 obtain⟨m,rfl⟩:∃m:Nat,n=(m:Int):=⟨n.toNat,AA⟩;obtain⟨c,o,p,l,d⟩:=Zt8 h0;have f:=Zua c o p l;have j:=(Dx g a c.cyc).1;rw[N7] at d f;rw[Km d] at f;rw[f];simp only[DC];exact⟨a,c,j,d,Yd _,trivial⟩
theorem Zzy{n:Nat}(f:G.right=true)(p:n<=10)(d:Xp G=true)(h0:(Z2 G (n:Int)).2=0):
 Zxy (Zi G)/\Xq (Zi G)/\Zv (Zi G) (-1-(Zi G).start) n<big/\(Z2 G (n:Int)).1=limbs (Zv (Zi G) (-1-(Zi G).start) n)/\val (Z2 G (n:Int)).1=Zv (Zi G) (-1-(Zi G).start) n:=by
 have k:¬(G.right=false\/(n:Int)<0\/10<(n:Int)):=by
  rintro (h | h | h)
  ·rw[f] at h;cases h
  ·omega
  omega
 have g:Z2 G (n:Int)=Wi (Zi G) [-1-(Zi G).start] (n:Int):=by
  unfold Z2;rw[if_neg k,if_neg (by rw[d];decide)]
 rw[g] at h0 ⊢;obtain⟨a,m,o,l,b⟩:=Zt8 h0;have c:=Zua a m o l;have j:=(Dx f d a.cyc).1;rw[N7] at b c;rw[Km b] at c;rw[c];exact⟨a,j,b,rfl,Yd _⟩
